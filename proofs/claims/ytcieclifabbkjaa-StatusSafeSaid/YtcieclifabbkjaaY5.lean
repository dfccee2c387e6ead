/- Part 5 of the proofs that lead to the statement. -/
import Derived.Test.YtcieclifabbkjaaY4
/- Status reports: the examples hold. -/
namespace Go.Proofs.Ytcieclifabbkjaa
open Go.RowKit
set_option linter.unusedSimpArgs false
set_option linter.unusedVariables false
--newlaws

def ex1 : NkV := ⟨3, false, 0, 0⟩
def ex2 : NkV := ⟨4, true, 2, 9⟩
theorem by8 {l : List Int} (h : l.all (fun x => decide (0 ≤ x ∧ x < 256)) = true) : ∀ x ∈ l, 0 ≤ x ∧ x < 256 := fun x hx => by simpa using List.all_eq_true.1 h x hx
theorem sl_nil {w : World} {A : Option Addr} : Sl w A [] := fun h => absurd h (by decide)
set_option maxHeartbeats 1000000 in
set_option maxRecDepth 100000 in
theorem works34 (w : World) : Calls Try.prog 9 #[] w (SX.Ret fun v w' => v = .bool true ∧ SX.St w [] w' []) := by
  have hs := SX.St.start w
  have v1 : vldB 5 [] = true := by decide +kernel
  have v2 : vldB 5 [ex1, ex2] = true := by decide +kernel
  have e1 : encE 5 [] = 0 := by decide +kernel
  have e2 : encE 5 [ex1, ex2] = 0 := by decide +kernel
  have l1 : encL 5 [] = [0, 20] := by decide +kernel
  have l2 : encL 5 [ex1, ex2] = [0, 22, 1, 192, 34, 0, 8, 0, 72] := by decide +kernel
  have f1 : fitK [ex1, ex2] 5 4 = (4, 1) := by decide +kernel
  have s1 : sizeV 5 [ex1, ex2] = 9 := by decide +kernel
  have d1 : decE [0] = 5 := by decide +kernel
  have d2 : decE [128, 20] = 9 := by decide +kernel
  have d3 : decE [0, 21] = 9 := by decide +kernel
  refine Z.enter Try.func9 rfl Try.ntmps9 rfl rfl ?_
  refine Z.seq ?_
  refine Z.region ?_
  refine Z.lb 1 rfl ?_
  refine Z.lnil ?_
  refine Z.only [] rfl ?_
  refine Z.nthen ?_
  refine Z.seq ?_
  refine Z.region ?_
  refine Z.l rfl rfl (by rfl) (Z.keepS hs) (Z.Yd.buildL [(0, 1), (1, 1)] [.int .i64 0, .slice none 0 0] rfl rfl (by intro w; kernel_rfl)) ?_
  refine Z.le rfl trivial ?_
  refine Z.ZO.call rfl rfl (by rfl) rfl rfl Try.call10 rfl (encode_any 5 none 0 0 [] _ sl_nil rfl (by decide)) ?_
  rintro v1_1 w1_1 ⟨B1, c1, co1, rfl, hy⟩
  replace hs := hs.call hy
  clear hy
  try simp only [List.cons_append, List.nil_append, List.append_nil] at hs
  rw [e1, l1]
  rw [l1] at hs
  refine Z.lb 5 rfl ?_
  refine Z.lnil ?_
  refine Z.only [1, 2] rfl ?_
  refine Z.nthen ?_
  refine Z.seq ?_
  refine Z.region ?_
  refine Z.l rfl rfl (by rfl) (Z.keepS hs) (Z.Yd.buildL [(0, 1), (1, 1), (2, 1), (3, 1)] [.int .i64 0, .bool false, .int .i64 0, .int .i64 0] rfl rfl (by intro w; kernel_rfl)) ?_
  refine Z.l rfl rfl (by rfl) (Z.keepS hs) (Z.Yd.buildL [(0, 1), (1, 1), (2, 1), (3, 1)] [.int .i64 0, .bool false, .int .i64 0, .int .i64 0] rfl rfl (by intro w; kernel_rfl)) ?_
  refine Z.le rfl trivial ?_
  refine Z.ZO.litL (T' := 45) [(0, 4), (4, 4)] [.int .i64 0, .bool false, .int .i64 0, .int .i64 0, .int .i64 0, .bool false, .int .i64 0, .int .i64 0] rfl rfl (by rfl) rfl rfl (by intro W; kernel_rfl) hs ?_
  clear hs; intro g17 w17 hs
  refine Z.l rfl rfl (by rfl) (Z.keepS hs) (Z.Yd.buildL [(0, 1), (1, 1)] [.int .i64 0, .slice none 0 0] rfl rfl (by intro w; kernel_rfl)) ?_
  refine Z.le rfl trivial ?_
  refine Z.ZO.alloc rfl rfl (by rfl) Try.zeroValue24 rfl hs ?_
  clear hs; intro g3 w3 hs
  refine Z.le rfl trivial ?_
  first | refine Z.ZO.storeA rfl rfl hs rfl rfl (by kernel_rfl) (by first | (simp [Value.oneCell']; done) | (refine Z.all_one ?_; assumption)) (by first | exact SX.at0 | exact SX.at1 | exact SX.at2 | exact SX.at3 | exact SX.at4 | exact SX.at5 | exact Z.at6 | exact Z.at7 | exact Z.at8 | exact Z.at9 | exact Z.at10 | exact Z.at11 | exact Z.at12) (by rfl) ?_ | refine Z.ZO.storeP rfl rfl hs rfl rfl (by kernel_rfl) (by first | (simp [Value.oneCell']; done) | (refine Z.all_one ?_; assumption)) (by first | exact SX.at0 | exact SX.at1 | exact SX.at2 | exact SX.at3 | exact SX.at4 | exact SX.at5 | exact Z.at6 | exact Z.at7 | exact Z.at8 | exact Z.at9 | exact Z.at10 | exact Z.at11 | exact Z.at12) (by first | decide | (simp; done) | (simp; omega)) ?_ | refine Z.ZO.storePR rfl rfl hs rfl rfl (by kernel_rfl) (by first | (simp [Value.oneCell']; done) | (refine Z.all_one ?_; assumption)) (by first | exact SX.at0 | exact SX.at1 | exact SX.at2 | exact SX.at3 | exact SX.at4 | exact SX.at5 | exact Z.at6 | exact Z.at7 | exact Z.at8 | exact Z.at9 | exact Z.at10 | exact Z.at11 | exact Z.at12) (by first | decide | (simp; done) | (simp; omega)) ?_
  clear hs; intro ws hs
  simp only [Nat.zero_add, Nat.add_zero, Nat.reduceAdd, Int.reduceToNat, Nat.reduceMul, List.set_cons_zero, List.set_cons_succ, List.setIfInBounds_toArray] at hs
  try simp only [Z.putL, Nat.zero_add] at hs
  refine Z.lnil ?_
  refine Z.only [1, 2, 3] rfl ?_
  refine Z.nthen ?_
  refine Z.seq ?_
  refine Z.region ?_
  refine Z.l rfl rfl (by rfl) (Z.keepS hs) (by first | exact Z.Yd.loadA _ rfl Try.isAgg24 (fun _ => Z.cellsB (by first | ((repeat (first | exact List.mem_cons_self | refine List.mem_cons_of_mem _ ?_ | refine List.mem_append_right _ ?_)); done) | fail)) (by exact Try.sizeOf24) | fail "load 3.0") ?_
  refine Z.le rfl trivial ?_
  refine Z.ZO.call rfl rfl (by rfl) rfl rfl Try.call10 rfl (encode_any 5 (some ⟨g17, 0, none⟩) 2 2 [ex1, ex2] _ (by have h0 := hs.blkSl (g := g17) (by first | ((repeat (first | exact List.mem_cons_self | refine List.mem_cons_of_mem _ ?_ | refine List.mem_append_right _ ?_)); done) | fail); exact h0) rfl (by decide)) ?_
  rintro v3_1 w3_1 ⟨B2, c2, co2, rfl, hy⟩
  replace hs := hs.call hy
  clear hy
  try simp only [List.cons_append, List.nil_append, List.append_nil] at hs
  rw [e2, l2]
  rw [l2] at hs
  refine Z.lb 5 rfl ?_
  refine Z.lnil ?_
  refine Z.only [1, 2, 3, 4, 5] rfl ?_
  refine Z.nthen ?_
  refine Z.seq ?_
  refine Z.region ?_
  refine Z.l rfl rfl (by rfl) (Z.keepS hs) (by first | exact Z.Yd.loadA _ rfl Try.isAgg24 (fun _ => Z.cellsB (by first | ((repeat (first | exact List.mem_cons_self | refine List.mem_cons_of_mem _ ?_ | refine List.mem_append_right _ ?_)); done) | fail)) (by exact Try.sizeOf24) | fail "load 4.0") ?_
  refine Z.le rfl trivial ?_
  refine Z.ZO.call rfl rfl (by rfl) rfl rfl Try.call20 rfl (fit_ok 5 4 (some ⟨g17, 0, none⟩) 2 2 [ex1, ex2] _ (by have h0 := hs.blkSl (g := g17) (by first | ((repeat (first | exact List.mem_cons_self | refine List.mem_cons_of_mem _ ?_ | refine List.mem_append_right _ ?_)); done) | fail); exact h0) rfl (by decide) v2 (by decide)) ?_
  rintro v4_1 w4_1 ⟨B3, co3, c3, rfl, hc3, hy⟩
  replace hs := hs.call hy
  clear hy
  try simp only [List.cons_append, List.nil_append, List.append_nil] at hs
  rw [f1]
  rw [f1] at hc3
  refine Z.lb 3 rfl ?_
  refine Z.le rfl trivial ?_
  refine Z.ZO.alloc rfl rfl (by rfl) Try.zeroValue24 rfl hs ?_
  clear hs; intro g6 w6 hs
  refine Z.le rfl trivial ?_
  first | refine Z.ZO.storeA rfl rfl hs rfl rfl (by kernel_rfl) (by first | (simp [Value.oneCell']; done) | (refine Z.all_one ?_; assumption)) (by first | exact SX.at0 | exact SX.at1 | exact SX.at2 | exact SX.at3 | exact SX.at4 | exact SX.at5 | exact Z.at6 | exact Z.at7 | exact Z.at8 | exact Z.at9 | exact Z.at10 | exact Z.at11 | exact Z.at12) (by rfl) ?_ | refine Z.ZO.storeP rfl rfl hs rfl rfl (by kernel_rfl) (by first | (simp [Value.oneCell']; done) | (refine Z.all_one ?_; assumption)) (by first | exact SX.at0 | exact SX.at1 | exact SX.at2 | exact SX.at3 | exact SX.at4 | exact SX.at5 | exact Z.at6 | exact Z.at7 | exact Z.at8 | exact Z.at9 | exact Z.at10 | exact Z.at11 | exact Z.at12) (by first | decide | (simp; done) | (simp; omega)) ?_ | refine Z.ZO.storePR rfl rfl hs rfl rfl (by kernel_rfl) (by first | (simp [Value.oneCell']; done) | (refine Z.all_one ?_; assumption)) (by first | exact SX.at0 | exact SX.at1 | exact SX.at2 | exact SX.at3 | exact SX.at4 | exact SX.at5 | exact Z.at6 | exact Z.at7 | exact Z.at8 | exact Z.at9 | exact Z.at10 | exact Z.at11 | exact Z.at12) (by first | decide | (simp; done) | (simp; omega)) ?_
  clear hs; intro ws hs
  simp only [Nat.zero_add, Nat.add_zero, Nat.reduceAdd, Int.reduceToNat, Nat.reduceMul, List.set_cons_zero, List.set_cons_succ, List.setIfInBounds_toArray] at hs
  try simp only [Z.putL, Nat.zero_add] at hs
  refine Z.lb 1 rfl ?_
  refine Z.lnil ?_
  refine Z.only [1, 2, 3, 4, 5, 6, 7] rfl ?_
  refine Z.nthen ?_
  refine Z.seq ?_
  refine Z.region ?_
  refine Z.l rfl rfl (by rfl) (Z.keepS hs) (by first | exact Z.Yd.loadA _ rfl Try.isAgg24 (fun _ => Z.cellsB (by first | ((repeat (first | exact List.mem_cons_self | refine List.mem_cons_of_mem _ ?_ | refine List.mem_append_right _ ?_)); done) | fail)) (by exact Try.sizeOf24) | fail "load 5.0") ?_
  refine Z.le rfl trivial ?_
  refine Z.ZO.call rfl rfl (by rfl) rfl rfl Try.call20 rfl (fit_short 5 1 (some ⟨g17, 0, none⟩) 2 2 [ex1, ex2] _ (by have h0 := hs.blkSl (g := g17) (by first | ((repeat (first | exact List.mem_cons_self | refine List.mem_cons_of_mem _ ?_ | refine List.mem_append_right _ ?_)); done) | fail); exact h0) rfl (by decide) v2 (by decide)) ?_
  rintro v5_1 w5_1 ⟨rfl, hy⟩
  replace hs := hs.call hy
  clear hy
  try simp only [List.cons_append, List.nil_append, List.append_nil] at hs
  refine Z.lb 3 rfl ?_
  refine Z.le rfl trivial ?_
  refine Z.ZO.alloc rfl rfl (by rfl) Try.zeroValue24 rfl hs ?_
  clear hs; intro g8 w8 hs
  refine Z.le rfl trivial ?_
  first | refine Z.ZO.storeA rfl rfl hs rfl rfl (by kernel_rfl) (by first | (simp [Value.oneCell']; done) | (refine Z.all_one ?_; assumption)) (by first | exact SX.at0 | exact SX.at1 | exact SX.at2 | exact SX.at3 | exact SX.at4 | exact SX.at5 | exact Z.at6 | exact Z.at7 | exact Z.at8 | exact Z.at9 | exact Z.at10 | exact Z.at11 | exact Z.at12) (by rfl) ?_ | refine Z.ZO.storeP rfl rfl hs rfl rfl (by kernel_rfl) (by first | (simp [Value.oneCell']; done) | (refine Z.all_one ?_; assumption)) (by first | exact SX.at0 | exact SX.at1 | exact SX.at2 | exact SX.at3 | exact SX.at4 | exact SX.at5 | exact Z.at6 | exact Z.at7 | exact Z.at8 | exact Z.at9 | exact Z.at10 | exact Z.at11 | exact Z.at12) (by first | decide | (simp; done) | (simp; omega)) ?_ | refine Z.ZO.storePR rfl rfl hs rfl rfl (by kernel_rfl) (by first | (simp [Value.oneCell']; done) | (refine Z.all_one ?_; assumption)) (by first | exact SX.at0 | exact SX.at1 | exact SX.at2 | exact SX.at3 | exact SX.at4 | exact SX.at5 | exact Z.at6 | exact Z.at7 | exact Z.at8 | exact Z.at9 | exact Z.at10 | exact Z.at11 | exact Z.at12) (by first | decide | (simp; done) | (simp; omega)) ?_
  clear hs; intro ws hs
  simp only [Nat.zero_add, Nat.add_zero, Nat.reduceAdd, Int.reduceToNat, Nat.reduceMul, List.set_cons_zero, List.set_cons_succ, List.setIfInBounds_toArray] at hs
  try simp only [Z.putL, Nat.zero_add] at hs
  refine Z.lb 1 rfl ?_
  refine Z.lnil ?_
  refine Z.only [1, 2, 3, 4, 5, 6, 7, 9] rfl ?_
  refine Z.nthen ?_
  refine Z.seq ?_
  refine Z.region ?_
  refine Z.lb 1 rfl ?_
  refine Z.le rfl trivial ?_
  refine Z.ZO.call rfl rfl (by rfl) rfl rfl Try.call13 rfl (num34 _ _) ?_
  rintro v6_1 w6_1 ⟨rfl, hy⟩
  replace hs := hs.call hy
  clear hy
  try simp only [List.cons_append, List.nil_append, List.append_nil] at hs
  refine Z.lb 1 rfl ?_
  refine Z.le rfl trivial ?_
  refine Z.ZO.call rfl rfl (by rfl) rfl rfl Try.call13 rfl (num34 _ _) ?_
  rintro v6_3 w6_3 ⟨rfl, hy⟩
  replace hs := hs.call hy
  clear hy
  try simp only [List.cons_append, List.nil_append, List.append_nil] at hs
  refine Z.l rfl rfl (by rfl) (Z.keepS hs) (Z.Yd.add rfl rfl (fun hG => Z.wi64 (by first | omega | (have hG' := Z.gh rfl hG; simp at hG'; omega)))) ?_
  refine Z.lb 1 rfl ?_
  refine Z.le rfl trivial ?_
  refine Z.ZO.call rfl rfl (by rfl) rfl rfl Try.call13 rfl (num34 _ _) ?_
  rintro v6_6 w6_6 ⟨rfl, hy⟩
  replace hs := hs.call hy
  clear hy
  try simp only [List.cons_append, List.nil_append, List.append_nil] at hs
  refine Z.l rfl rfl (by rfl) (Z.keepS hs) (Z.Yd.add rfl rfl (fun hG => Z.wi64 (by first | omega | (have hG' := Z.gh rfl hG; simp at hG'; omega)))) ?_
  refine Z.lb 2 rfl ?_
  refine Z.yes (s := 43) (b := true) rfl ((by simp)) rfl ?_
  refine Z.lb 1 rfl ?_
  refine Z.yes (s := 43) (b := true) rfl rfl rfl ?_
  refine Z.le rfl (by exact ⟨rfl, trivial⟩) ?_
  refine Z.ZO.litL (T' := 5) [(0, 1), (1, 1)] [.int .u8 0, .int .u8 0] rfl rfl (by rfl) rfl rfl (by intro W; kernel_rfl) hs ?_
  clear hs; intro g45 w45 hs
  refine Z.le rfl (by exact ⟨rfl, trivial⟩) ?_
  refine Z.ZO.call rfl rfl (by rfl) rfl rfl Try.call12 rfl (same34 B1 _ _ _ _ _ [0, 20] [0, 20] _ (hs.slm (by first | ((repeat (first | exact List.mem_cons_self | refine List.mem_cons_of_mem _ ?_ | refine List.mem_append_right _ ?_)); done) | fail)) (by have h0 := hs.blkSl (List.mem_cons_self); exact h0) rfl rfl (by8 (by decide)) (by8 (by decide))) ?_
  rintro v6_12 w6_12 ⟨rfl, hy⟩
  replace hs := hs.call hy
  clear hy
  try simp only [List.cons_append, List.nil_append, List.append_nil] at hs
  refine Z.l rfl rfl (by rfl) (Z.keepS hs) (Z.Yd.pickT rfl rfl) ?_
  refine Z.lb 1 rfl ?_
  refine Z.yes (s := 48) (b := true) rfl ((by simp)) rfl ?_
  refine Z.lb 1 rfl ?_
  refine Z.yes (s := 48) (b := true) rfl rfl rfl ?_
  refine Z.le rfl (by exact ⟨rfl, trivial⟩) ?_
  refine Z.ZO.litL (T' := 5) [(0, 1), (1, 1), (2, 1), (3, 1), (4, 1), (5, 1), (6, 1), (7, 1), (8, 1)] [.int .u8 0, .int .u8 0, .int .u8 0, .int .u8 0, .int .u8 0, .int .u8 0, .int .u8 0, .int .u8 0, .int .u8 0] rfl rfl (by rfl) rfl rfl (by intro W; kernel_rfl) hs ?_
  clear hs; intro g50 w50 hs
  refine Z.le rfl (by exact ⟨rfl, trivial⟩) ?_
  refine Z.ZO.call rfl rfl (by rfl) rfl rfl Try.call12 rfl (same34 B2 _ _ _ _ _ [0, 22, 1, 192, 34, 0, 8, 0, 72] [0, 22, 1, 192, 34, 0, 8, 0, 72] _ (hs.slm (by first | ((repeat (first | exact List.mem_cons_self | refine List.mem_cons_of_mem _ ?_ | refine List.mem_append_right _ ?_)); done) | fail)) (by have h0 := hs.blkSl (List.mem_cons_self); exact h0) rfl rfl (by8 (by decide)) (by8 (by decide))) ?_
  rintro v6_17 w6_17 ⟨rfl, hy⟩
  replace hs := hs.call hy
  clear hy
  try simp only [List.cons_append, List.nil_append, List.append_nil] at hs
  refine Z.l rfl rfl (by rfl) (Z.keepS hs) (Z.Yd.pickT rfl rfl) ?_
  refine Z.lb 1 rfl ?_
  refine Z.yes (s := 53) (b := true) rfl ((by simp)) rfl ?_
  refine Z.l rfl rfl (by rfl) (Z.keepS hs) (by first | exact Z.Yd.loadA _ rfl Try.isAgg24 (fun _ => Z.cellsB (by first | ((repeat (first | exact List.mem_cons_self | refine List.mem_cons_of_mem _ ?_ | refine List.mem_append_right _ ?_)); done) | fail)) (by exact Try.sizeOf24) | fail "load 6.20") ?_
  refine Z.yes (s := 53) (b := true) rfl rfl rfl ?_
  refine Z.le rfl (by exact ⟨rfl, trivial⟩) ?_
  refine Z.ZO.call rfl rfl (by rfl) rfl rfl Try.call16 rfl (Size_any 5 (some ⟨g17, 0, none⟩) 2 2 [ex1, ex2] _ (by have h0 := hs.blkSl (g := g17) (by first | ((repeat (first | exact List.mem_cons_self | refine List.mem_cons_of_mem _ ?_ | refine List.mem_append_right _ ?_)); done) | fail); exact h0) rfl (by decide)) ?_
  rintro v6_21 w6_21 ⟨rfl, hy⟩
  replace hs := hs.call hy
  clear hy
  try simp only [List.cons_append, List.nil_append, List.append_nil] at hs
  rw [s1]
  refine Z.lb 1 rfl ?_
  refine Z.yes (s := 53) (b := true) rfl rfl rfl ?_
  refine Z.l rfl rfl (by rfl) (Z.keepS hs) (Z.Yd.pickT rfl rfl) ?_
  refine Z.lb 1 rfl ?_
  refine Z.yes (s := 58) (b := true) rfl ((by simp)) rfl ?_
  refine Z.l rfl rfl (by rfl) (Z.keepS hs) (by first | exact Z.Yd.loadA _ rfl Try.isAgg24 (fun _ => Z.cellsB (by first | ((repeat (first | exact List.mem_cons_self | refine List.mem_cons_of_mem _ ?_ | refine List.mem_append_right _ ?_)); done) | fail)) (by exact Try.sizeOf24) | fail "load 6.25") ?_
  refine Z.l rfl rfl (by rfl) (Z.keepS hs) (Z.Yd.buildL [(0, 1), (1, 1), (2, 1), (3, 1)] [.int .i64 0, .bool false, .int .i64 0, .int .i64 0] rfl rfl (by intro w; kernel_rfl)) ?_
  refine Z.yes (s := 58) (b := true) rfl rfl rfl ?_
  refine Z.le rfl (by exact ⟨rfl, trivial⟩) ?_
  refine Z.ZO.litL (T' := 45) [(0, 4)] [.int .i64 0, .bool false, .int .i64 0, .int .i64 0] rfl rfl (by rfl) rfl rfl (by intro W; kernel_rfl) hs ?_
  clear hs; intro g61 w61 hs
  refine Z.l rfl rfl (by rfl) (Z.keepS hs) (Z.Yd.buildL [(0, 1), (1, 1)] [.int .i64 0, .slice none 0 0] rfl rfl (by intro w; kernel_rfl)) ?_
  refine Z.yes (s := 58) (b := true) rfl rfl rfl ?_
  refine Z.le rfl (by exact ⟨rfl, trivial⟩) ?_
  refine Z.ZO.call rfl rfl (by rfl) rfl rfl Try.call19 rfl (rsame34 4 4 B3 _ 1 _ 1 1 [ex1] [ex1] _ (Sl.pre (hs.slm (A := B3) (by first | ((repeat (first | exact List.mem_cons_self | refine List.mem_cons_of_mem _ ?_ | refine List.mem_append_right _ ?_)); done) | fail)) (nk_pre [ex1, ex2] 1)) (by have h0 := hs.blkSl (List.mem_cons_self); exact h0) rfl rfl (by decide)) ?_
  rintro v6_29 w6_29 ⟨rfl, hy⟩
  replace hs := hs.call hy
  clear hy
  try simp only [List.cons_append, List.nil_append, List.append_nil] at hs
  refine Z.l rfl rfl (by rfl) (Z.keepS hs) (Z.Yd.pickT rfl rfl) ?_
  refine Z.lb 1 rfl ?_
  refine Z.yes (s := 65) (b := true) rfl ((by simp)) rfl ?_
  refine Z.lb 2 rfl ?_
  refine Z.yes (s := 65) (b := true) rfl rfl rfl ?_
  refine Z.l rfl rfl (by rfl) (Z.keepS hs) (Z.Yd.pickT rfl rfl) ?_
  refine Z.lb 1 rfl ?_
  refine Z.yes (s := 69) (b := true) rfl ((by simp)) rfl ?_
  refine Z.le rfl (by exact ⟨rfl, trivial⟩) ?_
  refine Z.ZO.litL (T' := 5) [(0, 1)] [.int .u8 0] rfl rfl (by rfl) rfl rfl (by intro W; kernel_rfl) hs ?_
  clear hs; intro g70 w70 hs
  refine Z.le rfl (by exact ⟨rfl, trivial⟩) ?_
  refine Z.ZO.call rfl rfl (by rfl) rfl rfl Try.call26 rfl (fails34 5 _ 1 1 [0] _ (by have h0 := hs.blkSl (List.mem_cons_self); exact h0) rfl (by decide) (by8 (by decide)) d1 (by decide)) ?_
  rintro v6_37 w6_37 ⟨rfl, hy⟩
  replace hs := hs.call hy
  clear hy
  try simp only [List.cons_append, List.nil_append, List.append_nil] at hs
  refine Z.l rfl rfl (by rfl) (Z.keepS hs) (Z.Yd.pickT rfl rfl) ?_
  refine Z.lb 1 rfl ?_
  refine Z.yes (s := 73) (b := true) rfl ((by simp)) rfl ?_
  refine Z.le rfl (by exact ⟨rfl, trivial⟩) ?_
  refine Z.ZO.litL (T' := 5) [(0, 1), (1, 1)] [.int .u8 0, .int .u8 0] rfl rfl (by rfl) rfl rfl (by intro W; kernel_rfl) hs ?_
  clear hs; intro g74 w74 hs
  refine Z.le rfl (by exact ⟨rfl, trivial⟩) ?_
  refine Z.ZO.call rfl rfl (by rfl) rfl rfl Try.call26 rfl (fails34 9 _ 2 2 [128, 20] _ (by have h0 := hs.blkSl (List.mem_cons_self); exact h0) rfl (by decide) (by8 (by decide)) d2 (by decide)) ?_
  rintro v6_41 w6_41 ⟨rfl, hy⟩
  replace hs := hs.call hy
  clear hy
  try simp only [List.cons_append, List.nil_append, List.append_nil] at hs
  refine Z.l rfl rfl (by rfl) (Z.keepS hs) (Z.Yd.pickT rfl rfl) ?_
  refine Z.lb 1 rfl ?_
  refine Z.yes (s := 77) (b := true) rfl ((by simp)) rfl ?_
  refine Z.le rfl (by exact ⟨rfl, trivial⟩) ?_
  refine Z.ZO.litL (T' := 5) [(0, 1), (1, 1)] [.int .u8 0, .int .u8 0] rfl rfl (by rfl) rfl rfl (by intro W; kernel_rfl) hs ?_
  clear hs; intro g78 w78 hs
  refine Z.le rfl (by exact ⟨rfl, trivial⟩) ?_
  refine Z.ZO.call rfl rfl (by rfl) rfl rfl Try.call26 rfl (fails34 9 _ 2 2 [0, 21] _ (by have h0 := hs.blkSl (List.mem_cons_self); exact h0) rfl (by decide) (by8 (by decide)) d3 (by decide)) ?_
  rintro v6_45 w6_45 ⟨rfl, hy⟩
  replace hs := hs.call hy
  clear hy
  try simp only [List.cons_append, List.nil_append, List.append_nil] at hs
  refine Z.l rfl rfl (by rfl) (Z.keepS hs) (Z.Yd.pickT rfl rfl) ?_
  refine Z.lb 1 rfl ?_
  refine Z.lnil ?_
  refine Z.only [0] rfl ?_
  refine Z.nthen ?_
  refine Z.ret ?_
  -- ret#0
  refine Z.out1 (by exact ⟨rfl, trivial⟩) ?_
  first | exact ⟨_, rfl, rfl, hs⟩ | exact ⟨_, rfl, rfl, hs.sub (List.nil_sublist _)⟩
end Go.Proofs.Ytcieclifabbkjaa

/- Status reports: Encode against the document. -/
namespace Go.Proofs.Ytcieclifabbkjaa
open Go.RowKit
set_option linter.unusedSimpArgs false
set_option linter.unusedVariables false
--newlaws

theorem rd_nack {W : World} {cs : List Value} (z : Rd Try.prog W 45 cs) : ∃ x : NkV, cs = x.cells ∧ True := by
  obtain ⟨hl, hf⟩ := Rd.field Try.underlying45 z
  have c4 : Try.prog.cellsOf 45 = 4 := by kernel_rfl
  have c1 : Try.prog.cellsOf 3 = 1 := by kernel_rfl
  have cb : Try.prog.cellsOf 4 = 1 := by kernel_rfl
  rw [c4] at hl
  obtain ⟨x0, x1, x2, x3, rfl⟩ := list4 hl
  obtain ⟨a, ha, -⟩ := Rd.int Try.underlying3 (hf 0 _ rfl)
  obtain ⟨b, hb⟩ := Rd.bool Try.underlying4 (hf 1 _ rfl)
  obtain ⟨p, hp, -⟩ := Rd.int Try.underlying3 (hf 2 _ rfl)
  obtain ⟨q, hq, -⟩ := Rd.int Try.underlying3 (hf 3 _ rfl)
  simp [c1, cb] at ha hb hp hq
  subst ha hb hp hq
  exact ⟨⟨a, b, p, q⟩, rfl, trivial⟩
theorem rd_nacks {W : World} {A : Option Addr} {n c : Nat} (z : Rd Try.prog W 22 [.slice A n c]) : ∃ l : List NkV, l.length = n ∧ n ≤ c ∧ c ≤ maxLen ∧ Sl W A (l.flatMap NkV.cells) := by
  have c4 : Try.prog.cellsOf 45 = 4 := by kernel_rfl
  obtain ⟨xs, h1, h2, h3, h4, h5⟩ := Rd.rows NkV.cells (fun _ => True) Try.underlying22 (by rw [c4]; decide) (fun r hr => rd_nack hr) (fun x => c4.symm) z
  exact ⟨xs, h1, h2, h3, h5⟩
theorem rd_status {W : World} {cs : List Value} (z : Rd Try.prog W 24 cs) : ∃ (ack : Int) (A : Option Addr) (n c : Nat) (l : List NkV), cs = [.int .i64 ack, .slice A n c] ∧ l.length = n ∧ n ≤ c ∧ c ≤ maxLen ∧ Sl W A (l.flatMap NkV.cells) := by
  obtain ⟨hl, hf⟩ := Rd.field Try.underlying24 z
  have c2 : Try.prog.cellsOf 24 = 2 := by kernel_rfl
  have c1 : Try.prog.cellsOf 3 = 1 := by kernel_rfl
  have c0 : Try.prog.cellsOf 22 = 1 := by kernel_rfl
  rw [c2] at hl
  obtain ⟨x0, x1, rfl⟩ := list2 hl
  obtain ⟨ack, hlc, -⟩ := Rd.int Try.underlying3 (hf 0 _ rfl)
  have zb := hf 1 _ rfl
  obtain ⟨A, n, c, hb⟩ := Rd.sliceV Try.underlying22 zb
  rw [hb] at zb
  simp [c1, c0] at hlc hb
  subst hlc hb
  obtain ⟨l, h1, h2, h3, h4⟩ := rd_nacks zb
  exact ⟨ack, A, n, c, l, rfl, h1, h2, h3, h4⟩
end Go.Proofs.Ytcieclifabbkjaa

/- Status reports: Decode against the document. -/
namespace Go.Proofs.Ytcieclifabbkjaa
open Go.RowKit
set_option linter.unusedSimpArgs false
set_option linter.unusedVariables false
--newlaws

end Go.Proofs.Ytcieclifabbkjaa

/- Status reports: Fit against the document. -/
namespace Go.Proofs.Ytcieclifabbkjaa
open Go.RowKit
set_option linter.unusedSimpArgs false
set_option linter.unusedVariables false
--newlaws

def fitA (l : List NkV) (ack n : Int) : Int := if fitE l ack n = 0 then (fitK l ack n).1 else 0
def fitJ (l : List NkV) (ack n : Int) : Nat := if fitE l ack n = 0 then (fitK l ack n).2 else 0
theorem fitJ_le (l : List NkV) (ack n : Int) : fitJ l ack n ≤ l.length := by
  unfold fitJ
  split
  · exact fitK_le l ack n
  · exact Nat.zero_le _
/-- what Fit returns: a part of a row of its own -/
def FitO (l : List NkV) (ack n : Int) (v : Value) (w w' : World) : Prop := ∃ (B : Option Addr) (co cc lc : Nat) (xs : List Value), v = .tuple #[.agg #[.int .i64 (fitA l ack n), .slice B (fitJ l ack n) cc], .int .i64 (fitE l ack n)] ∧ fitJ l ack n ≤ lc ∧ fitJ l ack n ≤ cc ∧ xs.length = lc * 4 ∧ (l.take (fitJ l ack n)).flatMap NkV.cells <+: xs ∧ SX.St w [] w' [SX.Ent.row (.slice B lc co) 45 4 lc xs]
theorem fit_any (ack n : Int) (A : Option Addr) (m c : Nat) (l : List NkV) (w : World) (hx : Sl w A (l.flatMap NkV.cells)) (hl : l.length = m) (hm : m ≤ 9223372036854775807) :
    Calls Try.prog 20 #[.agg #[.int .i64 ack, .slice A m c], .int .i64 n] w (SX.Ret fun v w' => FitO l ack n v w w') := by
  by_cases h1 : vldB ack l = true ∧ 0 ≤ n
  · by_cases h2 : n < 2
    · have hE : fitE l ack n = 5 := by unfold fitE; rw [if_pos h1, if_pos h2]
      have hA : fitA l ack n = 0 := by unfold fitA; rw [hE]; rfl
      have hJ : fitJ l ack n = 0 := by unfold fitJ; rw [hE]; rfl
      refine (fit_short ack n A m c l w hx hl hm h1.1 ⟨h1.2, h2⟩).mono ?_
      rintro e w' ⟨v, rfl, rfl, hs⟩
      refine ⟨_, rfl, none, 0, 0, 0, [], ?_, ?_, ?_, rfl, ?_, hs.nil _ 4⟩
      · rw [hE, hA, hJ]
      · rw [hJ]; exact Nat.le_refl _
      · rw [hJ]; exact Nat.le_refl _
      · rw [hJ]; exact List.nil_prefix
    · have hE : fitE l ack n = 0 := by unfold fitE; rw [if_pos h1, if_neg h2]
      have hA : fitA l ack n = (fitK l ack n).1 := by unfold fitA; rw [if_pos hE]
      have hJ : fitJ l ack n = (fitK l ack n).2 := by unfold fitJ; rw [if_pos hE]
      refine (fit_ok ack n A m c l w hx hl hm h1.1 (by omega)).mono ?_
      rintro e w' ⟨v, rfl, B, co, cc, rfl, hc, hs⟩
      refine ⟨_, rfl, B, co, cc, m, l.flatMap NkV.cells, ?_, ?_, ?_, ?_, nk_pre _ _, hs⟩
      · rw [hE, hA, hJ]
      · rw [← hl]; exact fitJ_le l ack n
      · rw [hJ]; exact hc
      · rw [nk_flat, hl]
  · have hE : fitE l ack n = 2 := by unfold fitE; rw [if_neg h1]
    have hA : fitA l ack n = 0 := by unfold fitA; rw [hE]; rfl
    have hJ : fitJ l ack n = 0 := by unfold fitJ; rw [hE]; rfl
    refine (fit_arg ack n A m c l w hx hl hm h1).mono ?_
    rintro e w' ⟨v, rfl, rfl, hs⟩
    refine ⟨_, rfl, none, 0, 0, 0, [], ?_, ?_, ?_, rfl, ?_, hs.nil _ 4⟩
    · rw [hE, hA, hJ]
    · rw [hJ]; exact Nat.le_refl _
    · rw [hJ]; exact Nat.le_refl _
    · rw [hJ]; exact List.nil_prefix
end Go.Proofs.Ytcieclifabbkjaa

/- Status reports: decoding undoes encoding, and the other way round (plain facts). -/
namespace Go.Proofs.Ytcieclifabbkjaa
open Go.RowKit
set_option linter.unusedSimpArgs false
set_option linter.unusedVariables false

end Go.Proofs.Ytcieclifabbkjaa

/- Status reports: the program's own comparison; decoding undoes encoding. -/
namespace Go.Proofs.Ytcieclifabbkjaa
open Go.RowKit
set_option linter.unusedSimpArgs false
set_option linter.unusedVariables false
--newlaws

end Go.Proofs.Ytcieclifabbkjaa

/- Status reports: the iterator over the missing bytes of an SN. -/
namespace Go.Proofs.Ytcieclifabbkjaa
open Go.RowKit
set_option linter.unusedSimpArgs false
set_option linter.unusedVariables false
--newlaws

def AllA (x : NkV) (args : Array Value) (Lx : List SX.Ent) : Prop := (∃ i : Int, args = #[.int .i64 i, .agg x.cells.toArray]) ∧ Lx = []
set_option maxRecDepth 100000 in
theorem all_seq (g T n c co : Nat) (B : Option Addr) (l : List NkV) (hl : l.length = n) (hn : n ≤ 1000000) :
    SX.SeqC Try.prog 72 #[.pointer (some ⟨g, 0, none⟩)] AllA [SX.Ent.blk g T #[.slice B n c], SX.Ent.row (.slice B n co) 45 4 n (l.flatMap NkV.cells)] (fun _ _ => True) l := by
  intro lp w0 M I Ix W L0 _ hY hI hs
  replace hs := hs.rot
  refine Z.enter Try.func72 rfl Try.ntmps72 rfl rfl ?_
  refine Z.seq ?_
  refine Z.region ?_
  refine Z.l rfl rfl (by rfl) (Z.keepS hs) (by first | exact Z.Yd.load rfl Try.isAgg22 (fun _ => Z.cellB (by first | ((repeat (first | exact List.mem_cons_self | refine List.mem_cons_of_mem _ ?_ | refine List.mem_append_right _ ?_)); done) | fail) rfl) | exact Z.Yd.load rfl Try.isAgg22 (fun _ => Z.cellO (by assumption) (by simp) (by assumption)) | fail "load 0.0") ?_
  refine Z.l rfl rfl (by rfl) (Z.keepS hs) (Z.Yd.lenS rfl Try.underlying22) ?_
  refine Z.lb 1 rfl ?_
  refine Z.lnil ?_
  refine Z.only [0, 5, 6, 7] rfl ?_
  refine Z.nthen ?_
  refine Z.block ?_
  refine Z.loopk (ι := Nat × List SX.Ent) [0, 5, 6] rfl (fun j => [(7, [], .int .i64 (j.1 : Int))]) (fun j wr => (j.1 ≤ n ∧ I (l.take j.1) j.2) ∧ SX.St w0 M wr (SX.Ent.blk g T #[.slice B n c] :: SX.Ent.row (.slice B n co) 45 4 n (l.flatMap NkV.cells) :: j.2)) (fun j => n - j.1) (0, L0) (by refine ⟨?_, trivial⟩ <;> (first | rfl | (refine Z.lookv rfl ?_; simp; done) | (refine Z.lookv rfl ?_; simp; omega))) ⟨⟨Nat.zero_le _, hI⟩, hs⟩ ?_
  clear hs
  rintro ⟨j, L1⟩ w1 ⟨⟨hj, hi⟩, hs⟩
  refine Z.only [0, 5, 6, 7] rfl ?_
  (try dsimp only at hs)
  dsimp only at hj hi
  refine Z.seq ?_
  refine Z.region ?_
  refine Z.lb 1 rfl ?_
  refine Z.lnil ?_
  refine Z.only [0, 5, 6, 7, 8] rfl ?_
  refine Z.nthen ?_
  refine Z.seq ?_
  refine Z.cond rfl (fun hc1 => ?_) (fun hc1 => ?_)
  · first
      | (exfalso; simp at hc1 <;> omega)
      | (
        (try simp at hc1)
        have hlt : j < n := by omega
        obtain ⟨x, hxj⟩ : ∃ x, l[j]? = some x := ⟨_, List.getElem?_eq_getElem (by omega)⟩
        have hone := nk_one x
        obtain ⟨gB, cB, eB, -, -⟩ := row_form (j := 1) hs rfl (by omega)
        cases eB
        refine Z.skip ?_
        refine Z.nthen ?_
        refine Z.seq ?_
        refine Z.block ?_
        refine Z.seq ?_
        refine Z.region ?_
        refine Z.lb 1 rfl ?_
        refine Z.l rfl rfl (by rfl) (Z.keepS hs) (Z.Yd.elem rfl rfl Try.underlying22 Try.sizeOf45 (fun hG => ⟨(by first | omega | (have hG' := Z.gh rfl hG; simp at hG'; omega)), (by first | omega | (have hG' := Z.gh rfl hG; simp at hG'; omega))⟩)) ?_
        refine Z.l rfl rfl (by rfl) (Z.keepS hs) (Z.Yd.loadA _ rfl Try.isAgg45 (fun _ => Z.cellsRf (by first | ((repeat (first | exact List.mem_cons_self | refine List.mem_cons_of_mem _ ?_ | refine List.mem_append_right _ ?_)); done) | fail) nk_len hxj rfl) (by exact Try.sizeOf45)) ?_
        refine Z.le rfl trivial ?_
        refine Z.ZO.alloc rfl rfl (by rfl) Try.zeroValue45 rfl hs ?_
        clear hs; intro g4 w4 hs
        refine Z.lb 1 rfl ?_
        refine Z.le rfl trivial ?_
        first | refine Z.ZO.storeA rfl rfl hs rfl rfl (by kernel_rfl) (by first | (simp [Value.oneCell']; done) | (refine Z.all_one ?_; assumption)) (by first | exact SX.at0 | exact SX.at1 | exact SX.at2 | exact SX.at3 | exact SX.at4 | exact SX.at5 | exact Z.at6 | exact Z.at7 | exact Z.at8 | exact Z.at9 | exact Z.at10 | exact Z.at11 | exact Z.at12) (by rfl) ?_ | refine Z.ZO.storeP rfl rfl hs rfl rfl (by kernel_rfl) (by first | (simp [Value.oneCell']; done) | (refine Z.all_one ?_; assumption)) (by first | exact SX.at0 | exact SX.at1 | exact SX.at2 | exact SX.at3 | exact SX.at4 | exact SX.at5 | exact Z.at6 | exact Z.at7 | exact Z.at8 | exact Z.at9 | exact Z.at10 | exact Z.at11 | exact Z.at12) (by first | decide | (simp; done) | (simp; omega)) ?_ | refine Z.ZO.storePR rfl rfl hs rfl rfl (by kernel_rfl) (by first | (simp [Value.oneCell']; done) | (refine Z.all_one ?_; assumption)) (by first | exact SX.at0 | exact SX.at1 | exact SX.at2 | exact SX.at3 | exact SX.at4 | exact SX.at5 | exact Z.at6 | exact Z.at7 | exact Z.at8 | exact Z.at9 | exact Z.at10 | exact Z.at11 | exact Z.at12) (by first | decide | (simp; done) | (simp; omega)) ?_
        clear hs; intro ws hs
        simp only [Nat.zero_add, Nat.add_zero, Nat.reduceAdd, Int.reduceToNat, Nat.reduceMul, List.set_cons_zero, List.set_cons_succ, List.setIfInBounds_toArray] at hs
        try simp only [Z.putL, Nat.zero_add] at hs
        refine Z.lnil ?_
        refine Z.only [0, 3, 4, 5, 6, 7] rfl ?_
        refine Z.nthen ?_
        refine Z.seq ?_
        refine Z.region ?_
        refine Z.lb 2 rfl ?_
        refine Z.l rfl rfl (by rfl) (Z.keepS hs) (Z.Yd.loadA _ rfl Try.isAgg45 (fun _ => Z.cellsB (cs := x.cells) (by first | ((repeat (first | exact List.mem_cons_self | refine List.mem_cons_of_mem _ ?_ | refine List.mem_append_right _ ?_)); done) | fail)) (by exact Try.sizeOf45)) ?_
        replace hs := SX.St.rot (L1 := [_, _, _]) hs
        refine Z.le rfl trivial ?_
        refine Z.ZO.yield rfl rfl (by rfl) rfl rfl rfl (hY _ (l.take j) x _ _ L1 [] hi (prefix_take hxj) ⟨⟨_, rfl⟩, rfl⟩ hs) ?_
        clear hs
        rintro e wy3_3 (⟨rfl, Ly3_3, hiy3_3, hs⟩ | ⟨rfl, Ly3_3, hiy3_3, hs⟩)
        · refine ⟨_, rfl, ?_⟩
          refine Z.lb 1 rfl ?_
          refine Z.lnil ?_
          refine Z.only [0, 5, 6, 7, 16] rfl ?_
          refine Z.nthen ?_
          refine Z.cond rfl (fun hc3 => ?_) (fun hc3 => ?_)
          · first
              | (exfalso; simp at hc3 <;> omega)
              | (
                (try simp at hc3)
                refine Z.ret ?_
                repeat (first | refine Z.rthen ?_ | refine Z.rblock ?_ | refine Z.rscope ?_)
                -- ret#0
                refine Z.out0 trivial ?_
                first
                | exact ⟨⟨_, rfl⟩, Ly3_3, .inr hiy3_3, SX.St.rot (L1 := [_, _]) (SX.St.rot (L2 := [_, _, _]) hs).tl⟩
                | exact ⟨⟨_, rfl⟩, L1, .inl (by rwa [List.take_of_length_le (by omega)] at hi), SX.St.rot (L1 := [_, _]) hs⟩
                )
          · first
              | (exfalso; simp at hc3 <;> omega)
              | (
                (try simp at hc3)
                refine Z.skip ?_
                refine Z.nblock ?_
                refine Z.nthen ?_
                refine Z.region ?_
                refine Z.l rfl rfl (by rfl) (Z.keepS hs) (Z.Yd.add rfl rfl (fun hG => Z.wi64 (by first | omega | (have hG' := Z.gh rfl hG; simp at hG'; omega)))) ?_
                refine Z.lb 1 rfl ?_
                refine Z.lnil ?_
                refine Z.only [0, 5, 6, 7] rfl ?_
                refine Z.nthen ?_
                exact Z.again (j + 1, Ly3_3) (by refine ⟨?_, ?_, ?_, ?_, trivial⟩ <;> (first | rfl | (refine Z.lookv rfl ?_; simp; done) | (refine Z.lookv rfl ?_; simp; omega))) ⟨⟨by simp only; omega, by rw [← take_snoc hxj]; exact hiy3_3⟩, (SX.St.rot (L2 := [_, _, _]) hs).tl⟩ (by simp only; omega)
                )
        · refine ⟨_, rfl, ?_⟩
          refine Z.lb 1 rfl ?_
          refine Z.lnil ?_
          refine Z.only [0, 5, 6, 7, 16] rfl ?_
          refine Z.nthen ?_
          refine Z.cond rfl (fun hc3 => ?_) (fun hc3 => ?_)
          · first
              | (exfalso; simp at hc3 <;> omega)
              | (
                (try simp at hc3)
                refine Z.ret ?_
                repeat (first | refine Z.rthen ?_ | refine Z.rblock ?_ | refine Z.rscope ?_)
                -- ret#1
                refine Z.out0 trivial ?_
                first
                | exact ⟨⟨_, rfl⟩, Ly3_3, .inr hiy3_3, SX.St.rot (L1 := [_, _]) (SX.St.rot (L2 := [_, _, _]) hs).tl⟩
                | exact ⟨⟨_, rfl⟩, L1, .inl (by rwa [List.take_of_length_le (by omega)] at hi), SX.St.rot (L1 := [_, _]) hs⟩
                )
          · first
              | (exfalso; simp at hc3 <;> omega)
              | (
                (try simp at hc3)
                refine Z.skip ?_
                refine Z.nblock ?_
                refine Z.nthen ?_
                refine Z.region ?_
                refine Z.l rfl rfl (by rfl) (Z.keepS hs) (Z.Yd.add rfl rfl (fun hG => Z.wi64 (by first | omega | (have hG' := Z.gh rfl hG; simp at hG'; omega)))) ?_
                refine Z.lb 1 rfl ?_
                refine Z.lnil ?_
                refine Z.only [0, 5, 6, 7] rfl ?_
                refine Z.nthen ?_
                exact Z.again (j + 1, Ly3_3) (by refine ⟨?_, ?_, ?_, ?_, trivial⟩ <;> (first | rfl | (refine Z.lookv rfl ?_; simp; done) | (refine Z.lookv rfl ?_; simp; omega))) ⟨⟨by simp only; omega, by rw [← take_snoc hxj]; exact hiy3_3⟩, (SX.St.rot (L2 := [_, _, _]) hs).tl⟩ (by simp only; omega)
                )
        )
  · first
      | (exfalso; simp at hc1 <;> omega)
      | (
        (try simp at hc1)
        refine Z.exit ?_
        refine Z.xthen ?_
        refine Z.xthen ?_
        refine Z.xblock ?_
        -- ret#2
        refine Z.out0n trivial ?_
        first
        | exact ⟨⟨_, rfl⟩, Ly3_3, .inr hiy3_3, SX.St.rot (L1 := [_, _]) (SX.St.rot (L2 := [_, _, _]) hs).tl⟩
        | exact ⟨⟨_, rfl⟩, L1, .inl (by rwa [List.take_of_length_le (by omega)] at hi), SX.St.rot (L1 := [_, _]) hs⟩
        )
theorem all_iter (B : Option Addr) (n c : Nat) (w : World) :
    Calls Try.prog 52 #[.slice B n c] w (SX.Ret fun r w' => ∃ g, r = .func (.func 72) #[] #[.pointer (some ⟨g, 0, none⟩)] ∧ SX.St w [] w' [SX.Ent.blk g 22 #[.slice B n c]]) := by
  have hs := SX.St.start w
  refine Z.enter Try.func52 rfl Try.ntmps52 rfl rfl ?_
  refine Z.seq ?_
  refine Z.region ?_
  refine Z.le rfl trivial ?_
  refine Z.ZO.box rfl rfl (by rfl) rfl rfl hs ?_
  clear hs; intro g1 w1 hs
  refine Z.lb 1 rfl ?_
  refine Z.lnil ?_
  refine Z.only [1] rfl ?_
  refine Z.nthen ?_
  refine Z.seq ?_
  refine Z.region ?_
  refine Z.lb 2 rfl ?_
  refine Z.lnil ?_
  refine Z.only [2] rfl ?_
  refine Z.nthen ?_
  refine Z.ret ?_
  -- ret#0
  refine Z.out1 (by exact ⟨rfl, trivial⟩) ?_
  exact ⟨_, rfl, _, rfl, hs⟩
/-- the missing bytes of an SN -/
def rgOf (x : NkV) : Int × Int := if x.part = true then (x.lo, x.hi) else (0, 32767)
def rgs (sn : Int) (l : List NkV) : List (Int × Int) := (l.filter fun x => x.sn == sn).map rgOf
theorem rgs_snoc (sn : Int) (l : List NkV) (x : NkV) : rgs sn (l ++ [x]) = if x.sn = sn then rgs sn l ++ [rgOf x] else rgs sn l := by
  unfold rgs
  rw [List.filter_append, List.map_append]
  by_cases h : x.sn = sn <;> simp [h]
theorem rgs_pre {sn : Int} {l m : List NkV} (h : l <+: m) : rgs sn l <+: rgs sn m := by
  obtain ⟨t, rfl⟩ := h
  exact ⟨rgs sn t, by simp [rgs]⟩
def RgA (p : Int × Int) (args : Array Value) (Lx : List SX.Ent) : Prop := args = #[.int .i64 p.1, .int .i64 p.2] ∧ Lx = []
set_option maxHeartbeats 1000000 in
set_option maxRecDepth 100000 in
theorem ranges_seq (go gs To Ts n cp co : Nat) (B : Option Addr) (l : List NkV) (sn : Int) (hl : l.length = n) (hn : n ≤ 1000000) :
    SX.SeqC Try.prog 51 #[.pointer (some ⟨go, 0, none⟩), .pointer (some ⟨gs, 0, none⟩)] RgA
      [SX.Ent.blk go To #[.slice B n cp], SX.Ent.blk gs Ts #[.int .i64 sn], SX.Ent.row (.slice B n co) 45 4 n (l.flatMap NkV.cells)] (fun _ _ => True) (rgs sn l) := by
  intro lp w0 M I Ix W L0 _ hY hI hs
  replace hs := hs.rot
  refine Z.enterM Try.func51 rfl Try.ntmps51 rfl rfl ?_
  refine Z.seq ?_
  refine Z.region ?_
  refine Z.le rfl trivial ?_
  refine Z.ZO.box rfl rfl (by rfl) rfl rfl hs ?_
  clear hs; intro g3 w3 hs
  refine Z.lnil ?_
  refine Z.only [1, 2, 3] rfl ?_
  refine Z.nthen ?_
  refine Z.scope ?_
  refine Z.seq ?_
  refine Z.label ?_
  refine Z.nthen ?_
  refine Z.seq ?_
  refine Z.region ?_
  refine Z.l rfl rfl (by rfl) (Z.keepS hs) (by first | exact Z.Yd.load rfl Try.isAgg22 (fun _ => Z.cellB (by first | ((repeat (first | exact List.mem_cons_self | refine List.mem_cons_of_mem _ ?_ | refine List.mem_append_right _ ?_)); done) | fail) rfl) | exact Z.Yd.load rfl Try.isAgg22 (fun _ => Z.cellO (by assumption) (by simp) (by assumption)) | fail "load 1.0") ?_
  refine Z.le rfl trivial ?_
  refine Z.ZO.call rfl rfl (by rfl) rfl rfl Try.call52 rfl (all_iter B n cp _) ?_
  rintro v1_1 w1_1 ⟨ga, rfl, hy⟩
  replace hs := hs.call hy
  clear hy
  try simp only [List.cons_append, List.nil_append, List.append_nil] at hs
  refine Z.lnil ?_
  refine Z.only [2, 3, 7] rfl ?_
  refine Z.nthen ?_
  refine Z.block ?_
  replace hs := (SX.St.selT (L1 := [_, _, _, _, _]) hs [1, 2, 3, 0, 4] (by decide))
  replace hs := SX.St.swap (L1 := []) (L2 := [_, _, _]) (L3 := L0 ++ [_, _]) (SX.St.swap (L1 := [_, _]) (L2 := [_, _, _] ++ L0) (L3 := []) (by simpa using SX.St.swap (L1 := [_, _, _]) (L2 := [_, _]) (L3 := L0) hs))
  refine Z.rangeFunc (ps := [8, 9]) (L0 := SX.Ent.blk g3 _ _ :: SX.Ent.blk go To #[.slice B n cp] :: SX.Ent.blk gs Ts #[.int .i64 sn] :: L0) (all_seq ga _ n cp co B l hl hn) rfl Try.call72 (hs) trivial (by rintro x args Lx ⟨⟨i, rfl⟩, rfl⟩; rfl) rfl (fun pre L => ∃ L', L = SX.Ent.blk g3 95 #[.func (.yield lp) #[] #[]] :: SX.Ent.blk go To #[.slice B n cp] :: SX.Ent.blk gs Ts #[.int .i64 sn] :: L' ∧ I (rgs sn pre) L') (fun c L => c = .exit 0 ∧ ∃ L', L = SX.Ent.blk g3 95 #[.func (.yield lp) #[] #[]] :: SX.Ent.blk go To #[.slice B n cp] :: SX.Ent.blk gs Ts #[.int .i64 sn] :: L' ∧ Ix L') ⟨L0, rfl, hI⟩ ?_ ?_ ?_
  · clear hs
    rintro l0 Z0 pre x args W0 L0 Lx ⟨L', rfl, hi⟩ hpre ⟨⟨ix, rfl⟩, rfl⟩ hs
    refine ⟨_, rfl, ?_⟩
    refine Z.region ?_
    have hone := nk_one x
    have hpx := rgs_pre (sn := sn) hpre
    have hpr := rgs_snoc sn pre x
    refine Z.le rfl trivial ?_
    refine Z.ZO.alloc rfl rfl (by rfl) Try.zeroValue45 rfl hs ?_
    clear hs; intro g5 w5 hs
    refine Z.le rfl trivial ?_
    first | refine Z.ZO.storeA rfl rfl hs rfl rfl (by kernel_rfl) (by first | (simp [Value.oneCell']; done) | (refine Z.all_one ?_; assumption)) (by first | exact SX.at0 | exact SX.at1 | exact SX.at2 | exact SX.at3 | exact SX.at4 | exact SX.at5 | exact Z.at6 | exact Z.at7 | exact Z.at8 | exact Z.at9 | exact Z.at10 | exact Z.at11 | exact Z.at12) (by rfl) ?_ | refine Z.ZO.storeP rfl rfl hs rfl rfl (by kernel_rfl) (by first | (simp [Value.oneCell']; done) | (refine Z.all_one ?_; assumption)) (by first | exact SX.at0 | exact SX.at1 | exact SX.at2 | exact SX.at3 | exact SX.at4 | exact SX.at5 | exact Z.at6 | exact Z.at7 | exact Z.at8 | exact Z.at9 | exact Z.at10 | exact Z.at11 | exact Z.at12) (by first | decide | (simp; done) | (simp; omega)) ?_ | refine Z.ZO.storePR rfl rfl hs rfl rfl (by kernel_rfl) (by first | (simp [Value.oneCell']; done) | (refine Z.all_one ?_; assumption)) (by first | exact SX.at0 | exact SX.at1 | exact SX.at2 | exact SX.at3 | exact SX.at4 | exact SX.at5 | exact Z.at6 | exact Z.at7 | exact Z.at8 | exact Z.at9 | exact Z.at10 | exact Z.at11 | exact Z.at12) (by first | decide | (simp; done) | (simp; omega)) ?_
    clear hs; intro ws hs
    simp only [Nat.zero_add, Nat.add_zero, Nat.reduceAdd, Int.reduceToNat, Nat.reduceMul, List.set_cons_zero, List.set_cons_succ, List.setIfInBounds_toArray] at hs
    try simp only [Z.putL, Nat.zero_add] at hs
    refine Z.lnil ?_
    refine Z.only [2, 3, 5] rfl ?_
    refine Z.nthen ?_
    refine Z.assigned (SX.Ent.blk g5 45 #[.int .i64 x.sn, .bool x.part, .int .i64 x.lo, .int .i64 x.hi] :: SX.Ent.blk g3 95 #[.func (.yield lp) #[] #[]] :: SX.Ent.blk go To #[.slice B n cp] :: SX.Ent.blk gs Ts #[.int .i64 sn] :: L') hs ?_
    clear hs
    intro Wb0 Zb0 hs
    refine Z.block ?_
    refine Z.seq ?_
    refine Z.seq ?_
    refine Z.region ?_
    simp only [List.cons_append] at hs
    refine Z.l rfl rfl (by rfl) (Z.keepS hs) (Z.Yd.fieldA (m := 0) rfl (by kernel_rfl)) ?_
    refine Z.l rfl rfl (by rfl) (Z.keepS hs) (by first | exact Z.Yd.load rfl Try.isAgg3 (fun _ => Z.cellB (by first | ((repeat (first | exact List.mem_cons_self | refine List.mem_cons_of_mem _ ?_ | refine List.mem_append_right _ ?_)); done) | fail) rfl) | exact Z.Yd.load rfl Try.isAgg3 (fun _ => Z.cellO (by assumption) (by simp) (by assumption)) | fail "load 3.1") ?_
    refine Z.l rfl rfl (by rfl) (Z.keepS hs) (by first | exact Z.Yd.load rfl Try.isAgg3 (fun _ => Z.cellB (by first | ((repeat (first | exact List.mem_cons_self | refine List.mem_cons_of_mem _ ?_ | refine List.mem_append_right _ ?_)); done) | fail) rfl) | exact Z.Yd.load rfl Try.isAgg3 (fun _ => Z.cellO (by assumption) (by simp) (by assumption)) | fail "load 3.2") ?_
    refine Z.lb 1 rfl ?_
    refine Z.lnil ?_
    refine Z.only [3, 5, 13] rfl ?_
    refine Z.nthen ?_
    refine Z.cond rfl (fun hc3 => ?_) (fun hc3 => ?_)
    · first
        | (exfalso; simp at hc3 <;> omega)
        | (
          (try simp at hc3)
          refine Z.exit ?_
          refine Z.xthen ?_
          refine Z.xblock ?_
          first
          | exact Z.rnorm _ ⟨Ly6_5, rfl, by rw [hpr]; exact hiy6_5⟩ ((SX.St.swap (L2 := [_, _, _, _]) hs).tl)
          | exact Z.rnorm _ ⟨L', rfl, by rw [hpr, if_neg (by assumption)]; exact hi⟩ hs.tl
          )
    · first
        | (exfalso; simp at hc3 <;> omega)
        | (
          (try simp at hc3)
          refine Z.skip ?_
          refine Z.nthen ?_
          refine Z.seq ?_
          refine Z.seq ?_
          refine Z.region ?_
          refine Z.l rfl rfl (by rfl) (Z.keepS hs) (Z.Yd.fieldA (m := 1) rfl (by kernel_rfl)) ?_
          refine Z.l rfl rfl (by rfl) (Z.keepS hs) (by first | exact Z.Yd.load rfl Try.isAgg4 (fun _ => Z.cellB (by first | ((repeat (first | exact List.mem_cons_self | refine List.mem_cons_of_mem _ ?_ | refine List.mem_append_right _ ?_)); done) | fail) rfl) | exact Z.Yd.load rfl Try.isAgg4 (fun _ => Z.cellO (by assumption) (by simp) (by assumption)) | fail "load 4.1") ?_
          refine Z.lb 1 rfl ?_
          refine Z.lnil ?_
          refine Z.only [3, 5, 16] rfl ?_
          refine Z.nthen ?_
          refine Z.cond rfl (fun hc4 => ?_) (fun hc4 => ?_)
          · first
              | (exfalso; simp at hc4 <;> omega)
              | (
                (try simp at hc4)
                refine Z.region ?_
                refine Z.l rfl rfl (by rfl) (Z.keepS hs) (Z.Yd.fieldA (m := 2) rfl (by kernel_rfl)) ?_
                refine Z.le rfl trivial ?_
                first | refine Z.ZO.store rfl rfl hs Try.sizeOf3 rfl rfl rfl (by first | exact SX.at0 | exact SX.at1 | exact SX.at2 | exact SX.at3 | exact SX.at4 | exact SX.at5 | exact Z.at6 | exact Z.at7 | exact Z.at8 | exact Z.at9 | exact Z.at10 | exact Z.at11 | exact Z.at12) (by first | (simp; done) | (simp; omega)) ?_ | refine Z.ZO.storeR rfl rfl hs Try.sizeOf3 rfl rfl rfl (by first | exact SX.at0 | exact SX.at1 | exact SX.at2 | exact SX.at3 | exact SX.at4 | exact SX.at5 | exact Z.at6 | exact Z.at7 | exact Z.at8 | exact Z.at9 | exact Z.at10 | exact Z.at11 | exact Z.at12) (by first | omega | (simp [ints_length]; done) | (simp [ints_length]; omega)) ?_
                clear hs; intro ws hs
                simp only [Nat.zero_add, Nat.add_zero, Nat.reduceAdd, Int.reduceToNat, Nat.reduceMul, List.set_cons_zero, List.set_cons_succ, List.setIfInBounds_toArray] at hs
                refine Z.l rfl rfl (by rfl) (Z.keepS hs) (Z.Yd.fieldA (m := 3) rfl (by kernel_rfl)) ?_
                refine Z.le rfl trivial ?_
                first | refine Z.ZO.store rfl rfl hs Try.sizeOf3 rfl rfl rfl (by first | exact SX.at0 | exact SX.at1 | exact SX.at2 | exact SX.at3 | exact SX.at4 | exact SX.at5 | exact Z.at6 | exact Z.at7 | exact Z.at8 | exact Z.at9 | exact Z.at10 | exact Z.at11 | exact Z.at12) (by first | (simp; done) | (simp; omega)) ?_ | refine Z.ZO.storeR rfl rfl hs Try.sizeOf3 rfl rfl rfl (by first | exact SX.at0 | exact SX.at1 | exact SX.at2 | exact SX.at3 | exact SX.at4 | exact SX.at5 | exact Z.at6 | exact Z.at7 | exact Z.at8 | exact Z.at9 | exact Z.at10 | exact Z.at11 | exact Z.at12) (by first | omega | (simp [ints_length]; done) | (simp [ints_length]; omega)) ?_
                clear hs; intro ws hs
                simp only [Nat.zero_add, Nat.add_zero, Nat.reduceAdd, Int.reduceToNat, Nat.reduceMul, List.set_cons_zero, List.set_cons_succ, List.setIfInBounds_toArray] at hs
                refine Z.lnil ?_
                refine Z.only [3, 5] rfl ?_
                refine Z.nthen ?_
                refine Z.seq ?_
                refine Z.region ?_
                refine Z.l rfl rfl (by rfl) (Z.keepS hs) (by first | exact Z.Yd.load rfl Try.isAgg95 (fun _ => Z.cellB (by first | ((repeat (first | exact List.mem_cons_self | refine List.mem_cons_of_mem _ ?_ | refine List.mem_append_right _ ?_)); done) | fail) rfl) | exact Z.Yd.load rfl Try.isAgg95 (fun _ => Z.cellO (by assumption) (by simp) (by assumption)) | fail "load 6.0") ?_
                refine Z.l rfl rfl (by rfl) (Z.keepS hs) (Z.Yd.fieldA (m := 2) rfl (by kernel_rfl)) ?_
                refine Z.l rfl rfl (by rfl) (Z.keepS hs) (by first | exact Z.Yd.load rfl Try.isAgg3 (fun _ => Z.cellB (by first | ((repeat (first | exact List.mem_cons_self | refine List.mem_cons_of_mem _ ?_ | refine List.mem_append_right _ ?_)); done) | fail) rfl) | exact Z.Yd.load rfl Try.isAgg3 (fun _ => Z.cellO (by assumption) (by simp) (by assumption)) | fail "load 6.2") ?_
                refine Z.l rfl rfl (by rfl) (Z.keepS hs) (Z.Yd.fieldA (m := 3) rfl (by kernel_rfl)) ?_
                refine Z.l rfl rfl (by rfl) (Z.keepS hs) (by first | exact Z.Yd.load rfl Try.isAgg3 (fun _ => Z.cellB (by first | ((repeat (first | exact List.mem_cons_self | refine List.mem_cons_of_mem _ ?_ | refine List.mem_append_right _ ?_)); done) | fail) rfl) | exact Z.Yd.load rfl Try.isAgg3 (fun _ => Z.cellO (by assumption) (by simp) (by assumption)) | fail "load 6.4") ?_
                rw [if_pos (by assumption)] at hpr
                rw [hpr] at hpx
                replace hs := SX.St.swap (L1 := [_, _, _, _]) hs
                refine Z.le rfl trivial ?_
                refine Z.ZO.yieldIn rfl rfl (by rfl) rfl rfl rfl (hY _ (rgs sn pre) (rgOf x) _ _ L' [] hi hpx ⟨by unfold rgOf; simp_all, rfl⟩ hs) ?_
                clear hs
                rintro e wy6_5 (⟨rfl, Ly6_5, hiy6_5, hs⟩ | ⟨rfl, Ly6_5, hiy6_5, hs⟩)
                · refine ⟨_, rfl, ?_⟩
                  refine Z.lb 1 rfl ?_
                  refine Z.lnil ?_
                  refine Z.only [25] rfl ?_
                  refine Z.nthen ?_
                  refine Z.cond rfl (fun hc6 => ?_) (fun hc6 => ?_)
                  · first
                      | (exfalso; simp at hc6 <;> omega)
                      | (
                        (try simp at hc6)
                        refine Z.exit ?_
                        refine Z.xblockn rfl ?_
                        exact Z.rexit _ ⟨rfl, Ly6_5, rfl, hiy6_5⟩ ((SX.St.swap (L2 := [_, _, _, _]) hs).tl)
                        )
                  · first
                      | (exfalso; simp at hc6 <;> omega)
                      | (
                        (try simp at hc6)
                        refine Z.skip ?_
                        refine Z.nblock ?_
                        first
                        | exact Z.rnorm _ ⟨Ly6_5, rfl, by rw [hpr]; exact hiy6_5⟩ ((SX.St.swap (L2 := [_, _, _, _]) hs).tl)
                        | exact Z.rnorm _ ⟨L', rfl, by rw [hpr, if_neg (by assumption)]; exact hi⟩ hs.tl
                        )
                · refine ⟨_, rfl, ?_⟩
                  refine Z.lb 1 rfl ?_
                  refine Z.lnil ?_
                  refine Z.only [25] rfl ?_
                  refine Z.nthen ?_
                  refine Z.cond rfl (fun hc6 => ?_) (fun hc6 => ?_)
                  · first
                      | (exfalso; simp at hc6 <;> omega)
                      | (
                        (try simp at hc6)
                        refine Z.exit ?_
                        refine Z.xblockn rfl ?_
                        exact Z.rexit _ ⟨rfl, Ly6_5, rfl, hiy6_5⟩ ((SX.St.swap (L2 := [_, _, _, _]) hs).tl)
                        )
                  · first
                      | (exfalso; simp at hc6 <;> omega)
                      | (
                        (try simp at hc6)
                        refine Z.skip ?_
                        refine Z.nblock ?_
                        first
                        | exact Z.rnorm _ ⟨Ly6_5, rfl, by rw [hpr]; exact hiy6_5⟩ ((SX.St.swap (L2 := [_, _, _, _]) hs).tl)
                        | exact Z.rnorm _ ⟨L', rfl, by rw [hpr, if_neg (by assumption)]; exact hi⟩ hs.tl
                        )
                )
          · first
              | (exfalso; simp at hc4 <;> omega)
              | (
                (try simp at hc4)
                refine Z.skip ?_
                refine Z.nthen ?_
                refine Z.seq ?_
                refine Z.region ?_
                refine Z.l rfl rfl (by rfl) (Z.keepS hs) (by first | exact Z.Yd.load rfl Try.isAgg95 (fun _ => Z.cellB (by first | ((repeat (first | exact List.mem_cons_self | refine List.mem_cons_of_mem _ ?_ | refine List.mem_append_right _ ?_)); done) | fail) rfl) | exact Z.Yd.load rfl Try.isAgg95 (fun _ => Z.cellO (by assumption) (by simp) (by assumption)) | fail "load 6.0") ?_
                refine Z.l rfl rfl (by rfl) (Z.keepS hs) (Z.Yd.fieldA (m := 2) rfl (by kernel_rfl)) ?_
                refine Z.l rfl rfl (by rfl) (Z.keepS hs) (by first | exact Z.Yd.load rfl Try.isAgg3 (fun _ => Z.cellB (by first | ((repeat (first | exact List.mem_cons_self | refine List.mem_cons_of_mem _ ?_ | refine List.mem_append_right _ ?_)); done) | fail) rfl) | exact Z.Yd.load rfl Try.isAgg3 (fun _ => Z.cellO (by assumption) (by simp) (by assumption)) | fail "load 6.2") ?_
                refine Z.l rfl rfl (by rfl) (Z.keepS hs) (Z.Yd.fieldA (m := 3) rfl (by kernel_rfl)) ?_
                refine Z.l rfl rfl (by rfl) (Z.keepS hs) (by first | exact Z.Yd.load rfl Try.isAgg3 (fun _ => Z.cellB (by first | ((repeat (first | exact List.mem_cons_self | refine List.mem_cons_of_mem _ ?_ | refine List.mem_append_right _ ?_)); done) | fail) rfl) | exact Z.Yd.load rfl Try.isAgg3 (fun _ => Z.cellO (by assumption) (by simp) (by assumption)) | fail "load 6.4") ?_
                rw [if_pos (by assumption)] at hpr
                rw [hpr] at hpx
                replace hs := SX.St.swap (L1 := [_, _, _, _]) hs
                refine Z.le rfl trivial ?_
                refine Z.ZO.yieldIn rfl rfl (by rfl) rfl rfl rfl (hY _ (rgs sn pre) (rgOf x) _ _ L' [] hi hpx ⟨by unfold rgOf; simp_all, rfl⟩ hs) ?_
                clear hs
                rintro e wy6_5 (⟨rfl, Ly6_5, hiy6_5, hs⟩ | ⟨rfl, Ly6_5, hiy6_5, hs⟩)
                · refine ⟨_, rfl, ?_⟩
                  refine Z.lb 1 rfl ?_
                  refine Z.lnil ?_
                  refine Z.only [25] rfl ?_
                  refine Z.nthen ?_
                  refine Z.cond rfl (fun hc6 => ?_) (fun hc6 => ?_)
                  · first
                      | (exfalso; simp at hc6 <;> omega)
                      | (
                        (try simp at hc6)
                        refine Z.exit ?_
                        refine Z.xblockn rfl ?_
                        exact Z.rexit _ ⟨rfl, Ly6_5, rfl, hiy6_5⟩ ((SX.St.swap (L2 := [_, _, _, _]) hs).tl)
                        )
                  · first
                      | (exfalso; simp at hc6 <;> omega)
                      | (
                        (try simp at hc6)
                        refine Z.skip ?_
                        refine Z.nblock ?_
                        first
                        | exact Z.rnorm _ ⟨Ly6_5, rfl, by rw [hpr]; exact hiy6_5⟩ ((SX.St.swap (L2 := [_, _, _, _]) hs).tl)
                        | exact Z.rnorm _ ⟨L', rfl, by rw [hpr, if_neg (by assumption)]; exact hi⟩ hs.tl
                        )
                · refine ⟨_, rfl, ?_⟩
                  refine Z.lb 1 rfl ?_
                  refine Z.lnil ?_
                  refine Z.only [25] rfl ?_
                  refine Z.nthen ?_
                  refine Z.cond rfl (fun hc6 => ?_) (fun hc6 => ?_)
                  · first
                      | (exfalso; simp at hc6 <;> omega)
                      | (
                        (try simp at hc6)
                        refine Z.exit ?_
                        refine Z.xblockn rfl ?_
                        exact Z.rexit _ ⟨rfl, Ly6_5, rfl, hiy6_5⟩ ((SX.St.swap (L2 := [_, _, _, _]) hs).tl)
                        )
                  · first
                      | (exfalso; simp at hc6 <;> omega)
                      | (
                        (try simp at hc6)
                        refine Z.skip ?_
                        refine Z.nblock ?_
                        first
                        | exact Z.rnorm _ ⟨Ly6_5, rfl, by rw [hpr]; exact hiy6_5⟩ ((SX.St.swap (L2 := [_, _, _, _]) hs).tl)
                        | exact Z.rnorm _ ⟨L', rfl, by rw [hpr, if_neg (by assumption)]; exact hi⟩ hs.tl
                        )
                )
          )
  · clear hs
    rintro Dd W0 L0 hi hs
    obtain ⟨L', rfl, hi⟩ := hi
    refine Z.nblock ?_
    refine Z.nscope ?_
    -- ret#0
    refine Z.outM1n (vs := []) hs (fun _ _ => trivial) trivial ?_
    clear hs
    intro wr hs
    refine ⟨⟨_, rfl⟩, L', by first | exact .inl hi | exact .inr hi, (SX.St.swap (L1 := [_, _]) hs.tl).sub (List.Sublist.append (List.Sublist.refl _) (List.Sublist.cons_cons _ (List.Sublist.cons_cons _ (List.Sublist.cons _ (List.Sublist.refl _)))))⟩
  · clear hs
    rintro Dd c W0 L0 hi hs
    obtain ⟨rfl, L', rfl, hi⟩ := hi
    refine Z.exit ?_
    refine Z.xblock ?_
    refine Z.nscope ?_
    -- ret#1
    refine Z.outM1n (vs := []) hs (fun _ _ => trivial) trivial ?_
    clear hs
    intro wr hs
    refine ⟨⟨_, rfl⟩, L', by first | exact .inl hi | exact .inr hi, (SX.St.swap (L1 := [_, _]) hs.tl).sub (List.Sublist.append (List.Sublist.refl _) (List.Sublist.cons_cons _ (List.Sublist.cons_cons _ (List.Sublist.cons _ (List.Sublist.refl _)))))⟩
theorem ranges_any (ack sn : Int) (A : Option Addr) (n c : Nat) (l : List NkV) (w : World) (hx : Sl w A (l.flatMap NkV.cells)) (hl : l.length = n) (hn : n ≤ 1000000) :
    Calls Try.prog 25 #[.agg #[.int .i64 ack, .slice A n c], .int .i64 sn] w (SX.Ret fun r w' => ∃ go gs B co, r = .func (.func 51) #[] #[.pointer (some ⟨go, 0, none⟩), .pointer (some ⟨gs, 0, none⟩)] ∧
      SX.St w [] w' [SX.Ent.blk go 22 #[.slice B n co], SX.Ent.blk gs 3 #[.int .i64 sn], SX.Ent.row (.slice B n co) 45 4 n (l.flatMap NkV.cells)]) := by
  have hs := SX.St.start w
  refine Z.enter Try.func25 rfl Try.ntmps25 rfl rfl ?_
  refine Z.seq ?_
  refine Z.region ?_
  refine Z.le rfl trivial ?_
  refine Z.ZO.box rfl rfl (by rfl) rfl rfl hs ?_
  clear hs; intro g2 w2 hs
  refine Z.le rfl trivial ?_
  refine Z.ZO.box rfl rfl (by rfl) rfl rfl hs ?_
  clear hs; intro g3 w3 hs
  refine Z.lb 1 rfl ?_
  refine Z.lnil ?_
  refine Z.only [2, 3] rfl ?_
  refine Z.nthen ?_
  refine Z.seq ?_
  refine Z.region ?_
  refine Z.l rfl rfl (by rfl) (Z.keepS hs) (Z.Yd.fieldA (m := 1) rfl (by kernel_rfl)) ?_
  refine Z.l rfl rfl (by rfl) (Z.keepS hs) (by first | exact Z.Yd.load rfl Try.isAgg22 (fun _ => Z.cellB (by first | ((repeat (first | exact List.mem_cons_self | refine List.mem_cons_of_mem _ ?_ | refine List.mem_append_right _ ?_)); done) | fail) rfl) | exact Z.Yd.load rfl Try.isAgg22 (fun _ => Z.cellO (by assumption) (by simp) (by assumption)) | fail "load 1.1") ?_
  refine Z.le rfl trivial ?_
  refine Z.ZO.call rfl rfl (by rfl) rfl rfl Try.call48 rfl (cloneN A n c l _ (hx.st (hs.sub (List.nil_sublist _))) hl hn) ?_
  rintro v1_2 w1_2 hy
  replace hs := hs.call hy
  clear hy
  try simp only [List.cons_append, List.nil_append, List.append_nil] at hs
  obtain ⟨Bv, cv, rfl, hcv, -, -⟩ := SX.row_slv hs (j := 0) rfl
  refine Z.le rfl trivial ?_
  refine Z.ZO.alloc rfl rfl (by rfl) Try.zeroValue22 rfl hs ?_
  clear hs; intro g5 w5 hs
  refine Z.le rfl trivial ?_
  first | refine Z.ZO.store rfl rfl hs Try.sizeOf22 rfl rfl rfl (by first | exact SX.at0 | exact SX.at1 | exact SX.at2 | exact SX.at3 | exact SX.at4 | exact SX.at5 | exact Z.at6 | exact Z.at7 | exact Z.at8 | exact Z.at9 | exact Z.at10 | exact Z.at11 | exact Z.at12) (by first | (simp; done) | (simp; omega)) ?_ | refine Z.ZO.storeR rfl rfl hs Try.sizeOf22 rfl rfl rfl (by first | exact SX.at0 | exact SX.at1 | exact SX.at2 | exact SX.at3 | exact SX.at4 | exact SX.at5 | exact Z.at6 | exact Z.at7 | exact Z.at8 | exact Z.at9 | exact Z.at10 | exact Z.at11 | exact Z.at12) (by first | omega | (simp [ints_length]; done) | (simp [ints_length]; omega)) ?_
  clear hs; intro ws hs
  simp only [Nat.zero_add, Nat.add_zero, Nat.reduceAdd, Int.reduceToNat, Nat.reduceMul, List.set_cons_zero, List.set_cons_succ, List.setIfInBounds_toArray] at hs
  refine Z.lnil ?_
  refine Z.only [3, 5] rfl ?_
  refine Z.nthen ?_
  refine Z.seq ?_
  refine Z.region ?_
  refine Z.lb 2 rfl ?_
  refine Z.lnil ?_
  refine Z.only [4] rfl ?_
  refine Z.nthen ?_
  refine Z.ret ?_
  -- ret#0
  refine Z.out1 (by exact ⟨rfl, trivial⟩) ?_
  exact ⟨_, rfl, _, _, _, _, rfl, hs.sel [0, 2, 1] (by decide)⟩
end Go.Proofs.Ytcieclifabbkjaa

/- Status reports: the iteration against the document. -/
namespace Go.Proofs.Ytcieclifabbkjaa
open Go.RowKit
set_option linter.unusedSimpArgs false
set_option linter.unusedVariables false
--newlaws

end Go.Proofs.Ytcieclifabbkjaa

/- Status reports shortened: nothing more is reported asz received (plain facts). -/
namespace Go.Proofs.Ytcieclifabbkjaa
open Go.RowKit
set_option linter.unusedSimpArgs false
set_option linter.unusedVariables false

theorem dist_bd (a s : Int) : 0 ≤ dist a s ∧ dist a s < 1024 := by unfold dist; omega
theorem vld_step {ack : Int} {l : List NkV} (hv : vldB ack l = true) {i : Nat} {x y : NkV} (hx : l[i]? = some x) (hy : l[i + 1]? = some y) : follows ack x y := by
  have h := (vldB_len hv).2.2 (i + 1) (List.getElem?_eq_some_iff.1 hy).1
  unfold stepB at h
  rw [hy] at h
  simp only [Bool.and_eq_true] at h
  have h2 := h.2
  rw [if_neg (by omega), Nat.add_sub_cancel, hx] at h2
  simpa using h2
/-- distances do not grow along a report -/
theorem vld_mono {ack : Int} {l : List NkV} (hv : vldB ack l = true) : ∀ (k i : Nat) (x y : NkV), l[i]? = some x → l[i + k]? = some y → dist ack y.sn ≤ dist ack x.sn
  | 0, i, x, y, hx, hy => by
    rw [Nat.add_zero, hx] at hy
    obtain rfl := Option.some.inj hy
    exact Int.le_refl _
  | k + 1, i, x, y, hx, hy => by
    have hlt := (List.getElem?_eq_some_iff.1 hy).1
    obtain ⟨z, hz⟩ : ∃ z, l[i + k]? = some z := ⟨_, List.getElem?_eq_getElem (by omega)⟩
    have h1 := vld_mono hv k i x z hx hz
    have h2 := vld_step hv hz hy
    rcases h2 with h2 | h2
    · omega
    · rw [← h2.1]; exact h1
theorem fitR_is {l : List NkV} {n : Int} (hn : 2 ≤ n) : ∀ k, (fitR l n k).1 = snK l (fitR l n k).2 ∧ szK l (fitR l n k).2 ≤ n ∧ ((fitR l n k).2 = 0 ∨ snK l (fitR l n k).2 ≠ snK l ((fitR l n k).2 - 1))
  | 0 => ⟨rfl, by show szK l 0 ≤ n; rw [szK0]; exact hn, .inl rfl⟩
  | k + 1 => by
    unfold fitR
    split
    · rename_i h
      exact ⟨rfl, h.1, .inr h.2⟩
    · exact fitR_is hn k
/-- what Fit returns: the whole report, or one that ends ahead of an entry with another SN -/
theorem fitK_is {l : List NkV} {ack n : Int} (hn : 2 ≤ n) : szK l (fitK l ack n).2 ≤ n ∧ (((fitK l ack n).1 = ack ∧ (fitK l ack n).2 = l.length) ∨ ((fitK l ack n).2 < l.length ∧ (fitK l ack n).1 = snK l (fitK l ack n).2 ∧ ((fitK l ack n).2 = 0 ∨ snK l (fitK l ack n).2 ≠ snK l ((fitK l ack n).2 - 1)))) := by
  unfold fitK
  split
  · rename_i h; exact ⟨h, .inl ⟨rfl, rfl⟩⟩
  · rename_i h
    have hpos : 0 < l.length := by
      rcases Nat.eq_zero_or_pos l.length with h0 | h0
      · rw [h0, szK0] at h; omega
      · exact h0
    obtain ⟨h1, h2, h3⟩ := fitR_is (l := l) hn (l.length - 1)
    have h4 := fitR_le l n (l.length - 1)
    exact ⟨h2, .inr ⟨by omega, h1, h3⟩⟩
theorem snK_some {l : List NkV} {j : Nat} {x : NkV} (h : l[j]? = some x) : snK l j = x.sn := by unfold snK; rw [h]
/-- the part of a valid report ahead of an entry with another SN is valid for that SN -/
theorem vld_cut {ack : Int} {l : List NkV} (hv : vldB ack l = true) {j : Nat} {y : NkV} (hy : l[j]? = some y) (hj : j = 0 ∨ snK l j ≠ snK l (j - 1)) : vldB y.sn (l.take j) = true := by
  obtain ⟨hack, h512, hst⟩ := vldB_len hv
  have hlt := (List.getElem?_eq_some_iff.1 hy).1
  have hay := vldB_alone hv hy
  have hlen : (l.take j).length = j := by rw [List.length_take]; omega
  have hfar : ∀ i < j, ∀ x, l[i]? = some x → dist ack y.sn < dist ack x.sn := by
    intro i hi x hx
    obtain ⟨p, hp⟩ : ∃ p, l[j - 1]? = some p := ⟨_, List.getElem?_eq_getElem (by omega)⟩
    have h1 := vld_mono hv (j - 1 - i) i x p hx (by rw [show i + (j - 1 - i) = j - 1 from by omega]; exact hp)
    have h2 := vld_step hv hp (by rw [show j - 1 + 1 = j from by omega]; exact hy)
    rcases hj with h0 | hj
    · omega
    · rw [snK_some hy, snK_some hp] at hj
      rcases h2 with h2 | h2
      · omega
      · exact absurd h2.1.symm hj
  have hdist : ∀ i < j, ∀ x, l[i]? = some x → dist y.sn x.sn = dist ack x.sn - dist ack y.sn := by
    intro i hi x hx
    have h1 := hfar i hi x hx
    have h2 := dist_bd ack x.sn
    have h3 := dist_bd ack y.sn
    have h4 := dist_bd y.sn x.sn
    unfold dist at *
    omega
  have hget : ∀ i < j, (l.take j)[i]? = l[i]? := fun i hi => by rw [List.getElem?_take, if_pos hi]
  unfold vldB
  simp only [Bool.and_eq_true, decide_eq_true_eq]
  refine ⟨by have := hay.1; omega, by omega, List.all_eq_true.2 fun k hk => ?_⟩
  have hk := List.mem_range.1 hk
  rw [hlen] at hk
  obtain ⟨x, hx⟩ : ∃ x, l[k]? = some x := ⟨_, List.getElem?_eq_getElem (by omega)⟩
  have hax := vldB_alone hv hx
  unfold stepB
  rw [hget k hk, hx]
  simp only [Bool.and_eq_true, decide_eq_true_eq]
  refine ⟨⟨hax.1, ?_, hax.2.2⟩, ?_⟩
  · have h1 := hdist k hk x hx
    have h2 := hfar k hk x hx
    have h3 := hax.2.1
    have h4 := dist_bd ack y.sn
    omega
  · by_cases h0 : k = 0
    · rw [if_pos h0]
    · obtain ⟨p, hp⟩ : ∃ p, l[k - 1]? = some p := ⟨_, List.getElem?_eq_getElem (by omega)⟩
      have h1 := vld_step hv hp (by rw [show k - 1 + 1 = k from by omega]; exact hx)
      rw [if_neg h0, hget (k - 1) (by omega), hp]
      simp only [decide_eq_true_eq]
      have h2 := hdist k hk x hx
      have h3 := hdist (k - 1) (by omega) p hp
      rcases h1 with h1 | h1
      · exact .inl (by omega)
      · exact .inr h1
theorem fit_valid {ack n : Int} {l : List NkV} (hv : vldB ack l = true) (hn : 2 ≤ n) : vldB (fitK l ack n).1 (l.take (fitK l ack n).2) = true := by
  obtain ⟨-, h | h⟩ := fitK_is (l := l) (ack := ack) hn
  · rw [h.1, h.2, List.take_length]; exact hv
  · obtain ⟨y, hy⟩ : ∃ y, l[(fitK l ack n).2]? = some y := ⟨_, List.getElem?_eq_getElem h.1⟩
    rw [h.2.1, snK_some hy]
    exact vld_cut hv hy h.2.2
/-- the distance of the last SN -/
theorem fit_cut {ack n : Int} {l : List NkV} (hv : vldB ack l = true) (hn : 2 ≤ n) : dist ack (fitK l ack n).1 ≤ 512 ∧ (0 ≤ (fitK l ack n).1 ∧ (fitK l ack n).1 ≤ 1023) ∧ ∀ i x, (fitK l ack n).2 ≤ i → l[i]? = some x → dist ack x.sn ≤ dist ack (fitK l ack n).1 := by
  obtain ⟨-, h | h⟩ := fitK_is (l := l) (ack := ack) hn
  · obtain ⟨hack, -, -⟩ := vldB_len hv
    refine ⟨by rw [h.1]; unfold dist; omega, by rw [h.1]; exact hack, fun i x hi hx => ?_⟩
    rw [h.2] at hi
    rw [List.getElem?_eq_none hi] at hx
    cases hx
  · obtain ⟨y, hy⟩ : ∃ y, l[(fitK l ack n).2]? = some y := ⟨_, List.getElem?_eq_getElem h.1⟩
    have hay := vldB_alone hv hy
    have e : (fitK l ack n).1 = y.sn := by rw [h.2.1, snK_some hy]
    refine ⟨by rw [e]; exact hay.2.1.2, by rw [e]; have := hay.1; omega, fun i x hi hx => ?_⟩
    rw [e]
    exact vld_mono hv (i - (fitK l ack n).2) (fitK l ack n).2 y x hy (by rw [show (fitK l ack n).2 + (i - (fitK l ack n).2) = i from by omega]; exact hx)
end Go.Proofs.Ytcieclifabbkjaa

/- Status reports shortened: the statement. -/
namespace Go.Proofs.Ytcieclifabbkjaa
open Go.RowKit
set_option linter.unusedSimpArgs false
set_option linter.unusedVariables false
--newlaws

def outR (a : Int) (p : Int × Int) : Bool := !(decide (p.1 ≤ a) && (decide (a ≤ p.2) || p.2 == 32767))
def rcvB (ack : Int) (l : List NkV) (base behind a : Int) : Bool :=
  decide (1 ≤ (ack - (base - behind + 2048) % 1024 + 1024) % 1024 ∧ (ack - (base - behind + 2048) % 1024 + 1024) % 1024 ≤ 512) && (rgs ((base - behind + 2048) % 1024) l).all (outR a)
set_option maxHeartbeats 1000000 in
set_option maxRecDepth 100000 in
theorem received_any (ack base behind a : Int) (A : Option Addr) (n c : Nat) (l : List NkV) (w : World) (hx : Sl w A (l.flatMap NkV.cells)) (hl : l.length = n) (hn : n ≤ 1000000) (h1 : 0 ≤ ack ∧ ack ≤ 1023) (h2 : 0 ≤ base ∧ base ≤ 1023) (h3 : 1 ≤ behind ∧ behind ≤ 512) :
    Calls Try.prog 23 #[.agg #[.int .i64 ack, .slice A n c], .int .i64 base, .int .i64 behind, .int .i64 a] w (SX.Ret fun v w' => v = .bool (rcvB ack l base behind a) ∧ SX.St w [] w' []) := by
  have hs := SX.St.start w
  obtain ⟨sn, hsn⟩ : ∃ sn, sn = (base - behind + 2048) % 1024 := ⟨_, rfl⟩
  have hsb : 0 ≤ sn ∧ sn < 1024 := by omega
  unfold rcvB
  rw [← hsn]
  refine Z.enterM Try.func23 rfl Try.ntmps23 rfl rfl ?_
  refine Z.seq ?_
  refine Z.region ?_
  refine Z.le rfl trivial ?_
  refine Z.ZO.box rfl rfl (by rfl) rfl rfl hs ?_
  clear hs; intro g4 w4 hs
  refine Z.le rfl trivial ?_
  refine Z.ZO.box rfl rfl (by rfl) rfl rfl hs ?_
  clear hs; intro g7 w7 hs
  refine Z.le rfl trivial ?_
  refine Z.ZO.alloc rfl rfl (by rfl) Try.zeroValue4 rfl hs ?_
  clear hs; intro g8 w8 hs
  refine Z.lnil ?_
  refine Z.only [1, 2, 4, 7, 8] rfl ?_
  refine Z.nthen ?_
  refine Z.seq ?_
  refine Z.region ?_
  refine Z.lb 2 rfl ?_
  refine Z.l rfl rfl (by rfl) (Z.keepS hs) (Z.Yd.sub rfl rfl (fun hG => Z.wi64 (by first | omega | (have hG' := Z.gh rfl hG; simp at hG'; omega)))) ?_
  refine Z.l rfl rfl (by rfl) (Z.keepS hs) (Z.Yd.add rfl rfl (fun hG => Z.wi64 (by first | omega | (have hG' := Z.gh rfl hG; simp at hG'; omega)))) ?_
  refine Z.l rfl rfl (by rfl) (Z.keepS hs) (Z.Yd.rem rfl rfl (by intro hG; first | decide | omega) (by intro hG; first | exact Z.tmodn (by omega) | exact rfl)) ?_
  refine Z.lb 1 rfl ?_
  refine Z.lnil ?_
  refine Z.only [4, 7, 8, 9] rfl ?_
  rw [← hsn]
  refine Z.nthen ?_
  refine Z.seq ?_
  refine Z.region ?_
  refine Z.l rfl rfl (by rfl) (Z.keepS hs) (Z.Yd.fieldA (m := 0) rfl (by kernel_rfl)) ?_
  refine Z.l rfl rfl (by rfl) (Z.keepS hs) (by first | exact Z.Yd.load rfl Try.isAgg3 (fun _ => Z.cellB (by first | ((repeat (first | exact List.mem_cons_self | refine List.mem_cons_of_mem _ ?_ | refine List.mem_append_right _ ?_)); done) | fail) rfl) | exact Z.Yd.load rfl Try.isAgg3 (fun _ => Z.cellO (by assumption) (by simp) (by assumption)) | fail "load 2.1") ?_
  refine Z.lb 1 rfl ?_
  refine Z.l rfl rfl (by rfl) (Z.keepS hs) (Z.Yd.sub rfl rfl (fun hG => Z.wi64 (by first | omega | (have hG' := Z.gh rfl hG; simp at hG'; omega)))) ?_
  refine Z.l rfl rfl (by rfl) (Z.keepS hs) (Z.Yd.add rfl rfl (fun hG => Z.wi64 (by first | omega | (have hG' := Z.gh rfl hG; simp at hG'; omega)))) ?_
  refine Z.l rfl rfl (by rfl) (Z.keepS hs) (Z.Yd.rem rfl rfl (by intro hG; first | decide | omega) (by intro hG; first | exact Z.tmodn (by omega) | exact rfl)) ?_
  refine Z.lb 1 rfl ?_
  refine Z.lnil ?_
  refine Z.only [4, 7, 8, 9, 10] rfl ?_
  refine Z.nthen ?_
  refine Z.seq ?_
  refine Z.seq ?_
  refine Z.region ?_
  refine Z.lb 3 rfl ?_
  refine Z.split (s := 27) rfl (fun hsp27 => ?_) (fun hsp27 => ?_)
  · first
      | (exfalso; simp at hsp27 <;> omega)
      | (
        refine Z.yes (s := 27) (b := true) rfl hsp27 rfl ?_
        (try simp at hsp27)
        refine Z.ls rfl rfl rfl (by rfl) ?_
        refine Z.ls rfl rfl rfl (by rfl) ?_
        refine Z.l rfl rfl (by rfl) (Z.keepS hs) (Z.Yd.pickT rfl rfl) ?_
        refine Z.lnil ?_
        refine Z.only [4, 7, 8, 9, 30] rfl ?_
        refine Z.nthen ?_
        refine Z.cond rfl (fun hc3 => ?_) (fun hc3 => ?_)
        · first
            | (exfalso; simp at hc3 <;> omega)
            | (
              (try simp at hc3)
              have hd0 : ¬ (1 ≤ (ack - sn + 1024) % 1024 ∧ (ack - sn + 1024) % 1024 ≤ 512) := by omega
              rw [decide_eq_false hd0, Bool.false_and]
              refine Z.seq ?_
              refine Z.region ?_
              refine Z.le rfl trivial ?_
              first | refine Z.ZO.store rfl rfl hs Try.sizeOf4 rfl rfl rfl (by first | exact SX.at0 | exact SX.at1 | exact SX.at2 | exact SX.at3 | exact SX.at4 | exact SX.at5 | exact Z.at6 | exact Z.at7 | exact Z.at8 | exact Z.at9 | exact Z.at10 | exact Z.at11 | exact Z.at12) (by first | (simp; done) | (simp; omega)) ?_ | refine Z.ZO.storeR rfl rfl hs Try.sizeOf4 rfl rfl rfl (by first | exact SX.at0 | exact SX.at1 | exact SX.at2 | exact SX.at3 | exact SX.at4 | exact SX.at5 | exact Z.at6 | exact Z.at7 | exact Z.at8 | exact Z.at9 | exact Z.at10 | exact Z.at11 | exact Z.at12) (by first | omega | (simp [ints_length]; done) | (simp [ints_length]; omega)) ?_
              clear hs; intro ws hs
              simp only [Nat.zero_add, Nat.add_zero, Nat.reduceAdd, Int.reduceToNat, Nat.reduceMul, List.set_cons_zero, List.set_cons_succ, List.setIfInBounds_toArray] at hs
              refine Z.lnil ?_
              refine Z.only [8] rfl ?_
              refine Z.nthen ?_
              refine Z.ret ?_
              repeat (first | refine Z.rthen ?_ | refine Z.rblock ?_ | refine Z.rscope ?_)
              -- ret#0
              refine Z.outM0 (vs := [_]) (by exact ⟨⟨_, rfl, Z.rvc hs Try.isAgg4 (by first | ((repeat (first | exact List.mem_cons_self | refine List.mem_cons_of_mem _ ?_ | refine List.mem_append_right _ ?_)); done) | fail) rfl⟩, trivial⟩) ?_
              exact ⟨_, rfl, rfl, hs.sub (List.nil_sublist _)⟩
              )
        · first
            | (exfalso; simp at hc3 <;> omega)
            | (
              (try simp at hc3)
              rw [decide_eq_true (show 1 ≤ (ack - sn + 1024) % 1024 ∧ (ack - sn + 1024) % 1024 ≤ 512 by omega), Bool.true_and]
              refine Z.skip ?_
              refine Z.nthen ?_
              refine Z.seq ?_
              refine Z.region ?_
              refine Z.l rfl rfl (by rfl) (Z.keepS hs) (by first | exact Z.Yd.loadA _ rfl Try.isAgg24 (fun _ => Z.cellsB (by first | ((repeat (first | exact List.mem_cons_self | refine List.mem_cons_of_mem _ ?_ | refine List.mem_append_right _ ?_)); done) | fail)) (by exact Try.sizeOf24) | fail "load 5.0") ?_
              refine Z.lb 1 rfl ?_
              refine Z.le rfl trivial ?_
              refine Z.ZO.call rfl rfl (by rfl) rfl rfl Try.call25 rfl (ranges_any ack sn A n c l _ (hx.st (hs.sub (List.nil_sublist _))) hl hn) ?_
              rintro v5_2 w5_2 ⟨go, gs, Br, cr, rfl, hy⟩
              replace hs := hs.call hy
              clear hy
              try simp only [List.cons_append, List.nil_append, List.append_nil] at hs
              refine Z.lb 1 rfl ?_
              refine Z.lnil ?_
              refine Z.only [7, 8, 11] rfl ?_
              refine Z.nthen ?_
              refine Z.seq ?_
              refine Z.seq ?_
              refine Z.region ?_
              refine Z.lb 1 rfl ?_
              refine Z.l rfl rfl (by rfl) (Z.keepS hs) (Z.Yd.fnNil rfl rfl Try.underlying52) ?_
              refine Z.lnil ?_
              refine Z.only [7, 8, 11, 35] rfl ?_
              refine Z.nthen ?_
              refine Z.cond rfl (fun h => absurd h (by simp)) (fun hc6 => ?_)
              refine Z.skip ?_
              refine Z.nthen ?_
              refine Z.seq ?_
              refine Z.seq ?_
              refine Z.region ?_
              refine Z.lb 1 rfl ?_
              refine Z.lnil ?_
              refine Z.only [7, 8, 36] rfl ?_
              refine Z.nthen ?_
              refine Z.block ?_
              replace hs := hs.sel [3, 4, 0, 1, 2] (by decide)
              refine Z.rangeFunc (ps := [37, 38]) (L0 := [SX.Ent.blk g8 4 #[.bool false], SX.Ent.blk g7 3 #[.int .i64 a]]) (ranges_seq go gs _ _ n cr cr Br l sn hl hn) rfl Try.call51 (hs) trivial (by rintro x args Lx ⟨rfl, rfl⟩; rfl) rfl (fun pre L => pre.all (outR a) = true ∧ L = [SX.Ent.blk g8 4 #[.bool false], SX.Ent.blk g7 3 #[.int .i64 a]]) (fun c L => (c = .ret ∧ (rgs sn l).all (outR a) = false) ∧ L = [SX.Ent.blk g8 4 #[.bool false], SX.Ent.blk g7 3 #[.int .i64 a]]) ⟨rfl, rfl⟩ ?_ ?_ ?_
              · clear hs
                rintro l0 Z0 pre x args W0 L0 Lx ⟨hi, rfl⟩ hpre ⟨rfl, rfl⟩ hs
                refine ⟨_, rfl, ?_⟩
                refine Z.seq ?_
                refine Z.region ?_
                refine Z.lb 1 rfl ?_
                refine Z.lnil ?_
                refine Z.only [7, 8, 12, 38] rfl ?_
                refine Z.nthen ?_
                refine Z.region ?_
                refine Z.lb 1 rfl ?_
                refine Z.lnil ?_
                refine Z.only [7, 8, 12, 13] rfl ?_
                refine Z.nthen ?_
                refine Z.assigned [SX.Ent.blk g8 4 #[.bool false], SX.Ent.blk g7 3 #[.int .i64 a]] hs ?_
                clear hs
                intro Wb0 Zb0 hs
                refine Z.block ?_
                refine Z.seq ?_
                refine Z.region ?_
                simp only [List.cons_append, List.nil_append] at hs
                refine Z.l rfl rfl (by rfl) (Z.keepS hs) (by first | exact Z.Yd.load rfl Try.isAgg3 (fun _ => Z.cellB (by first | ((repeat (first | exact List.mem_cons_self | refine List.mem_cons_of_mem _ ?_ | refine List.mem_append_right _ ?_)); done) | fail) rfl) | exact Z.Yd.load rfl Try.isAgg3 (fun _ => Z.cellO (by assumption) (by simp) (by assumption)) | fail "load 11.0") ?_
                refine Z.lb 3 rfl ?_
                refine Z.split (s := 42) rfl (fun hsp42 => ?_) (fun hsp42 => ?_)
                · first
                    | (exfalso; simp at hsp42 <;> omega)
                    | (
                      refine Z.yes (s := 42) (b := true) rfl hsp42 rfl ?_
                      (try simp at hsp42)
                      refine Z.l rfl rfl (by rfl) (Z.keepS hs) (by first | exact Z.Yd.load rfl Try.isAgg3 (fun _ => Z.cellB (by first | ((repeat (first | exact List.mem_cons_self | refine List.mem_cons_of_mem _ ?_ | refine List.mem_append_right _ ?_)); done) | fail) rfl) | exact Z.Yd.load rfl Try.isAgg3 (fun _ => Z.cellO (by assumption) (by simp) (by assumption)) | fail "load 11.4") ?_
                      refine Z.lb 3 rfl ?_
                      refine Z.yes (s := 42) (b := true) rfl rfl rfl ?_
                      refine Z.split (s := 46) rfl (fun hsp46 => ?_) (fun hsp46 => ?_)
                      · first
                          | (exfalso; simp at hsp46 <;> omega)
                          | (
                            refine Z.yes (s := 46) (b := true) rfl hsp46 rfl ?_
                            (try simp at hsp46)
                            refine Z.ls rfl rfl rfl (by rfl) ?_
                            refine Z.ls rfl rfl rfl (by rfl) ?_
                            refine Z.l rfl rfl (by rfl) (Z.keepS hs) (Z.Yd.pickT rfl rfl) ?_
                            refine Z.yes (s := 42) (b := true) rfl rfl rfl ?_
                            refine Z.l rfl rfl (by rfl) (Z.keepS hs) (Z.Yd.pickT rfl rfl) ?_
                            refine Z.lnil ?_
                            refine Z.only [8, 50] rfl ?_
                            refine Z.nthen ?_
                            refine Z.cond rfl (fun hc11 => ?_) (fun hc11 => ?_)
                            · first
                                | (exfalso; simp at hc11 <;> omega)
                                | (
                                  (try simp at hc11)
                                  refine Z.seq ?_
                                  refine Z.region ?_
                                  refine Z.le rfl trivial ?_
                                  first | refine Z.ZO.store rfl rfl hs Try.sizeOf4 rfl rfl rfl (by first | exact SX.at0 | exact SX.at1 | exact SX.at2 | exact SX.at3 | exact SX.at4 | exact SX.at5 | exact Z.at6 | exact Z.at7 | exact Z.at8 | exact Z.at9 | exact Z.at10 | exact Z.at11 | exact Z.at12) (by first | (simp; done) | (simp; omega)) ?_ | refine Z.ZO.storeR rfl rfl hs Try.sizeOf4 rfl rfl rfl (by first | exact SX.at0 | exact SX.at1 | exact SX.at2 | exact SX.at3 | exact SX.at4 | exact SX.at5 | exact Z.at6 | exact Z.at7 | exact Z.at8 | exact Z.at9 | exact Z.at10 | exact Z.at11 | exact Z.at12) (by first | omega | (simp [ints_length]; done) | (simp [ints_length]; omega)) ?_
                                  clear hs; intro ws hs
                                  simp only [Nat.zero_add, Nat.add_zero, Nat.reduceAdd, Int.reduceToNat, Nat.reduceMul, List.set_cons_zero, List.set_cons_succ, List.setIfInBounds_toArray] at hs
                                  refine Z.lnil ?_
                                  refine Z.only [8] rfl ?_
                                  refine Z.nthen ?_
                                  refine Z.ret ?_
                                  repeat (first | refine Z.rthen ?_ | refine Z.rblock ?_ | refine Z.rscope ?_)
                                  refine Z.rret _ ⟨⟨rfl, ?_⟩, rfl⟩ hs
                                  obtain ⟨t, ht⟩ := hpre
                                  rw [← ht, List.all_append, List.all_append]
                                  have hf : outR a x = false := by
                                    simp [outR]
                                    first | omega | (simp_all; done) | (simp_all; omega)
                                  simp [hf]
                                  )
                            · first
                                | (exfalso; simp at hc11 <;> omega)
                                | (
                                  (try simp at hc11)
                                  refine Z.skip ?_
                                  refine Z.nblock ?_
                                  refine Z.rnorm _ ⟨?_, rfl⟩ hs
                                  rw [List.all_append, hi]
                                  simp [outR]
                                  first | omega | (simp_all; done) | (simp_all; omega)
                                  )
                            )
                      · first
                          | (exfalso; simp at hsp46 <;> omega)
                          | (
                            refine Z.yes (s := 46) (b := false) rfl hsp46 rfl ?_
                            (try simp at hsp46)
                            refine Z.lb 2 rfl ?_
                            refine Z.yes (s := 46) (b := false) rfl rfl rfl ?_
                            refine Z.l rfl rfl (by rfl) (Z.keepS hs) (Z.Yd.pickF rfl rfl) ?_
                            refine Z.yes (s := 42) (b := true) rfl rfl rfl ?_
                            refine Z.l rfl rfl (by rfl) (Z.keepS hs) (Z.Yd.pickT rfl rfl) ?_
                            refine Z.lnil ?_
                            refine Z.only [8, 50] rfl ?_
                            refine Z.nthen ?_
                            refine Z.cond rfl (fun hc11 => ?_) (fun hc11 => ?_)
                            · first
                                | (exfalso; simp at hc11 <;> omega)
                                | (
                                  (try simp at hc11)
                                  refine Z.seq ?_
                                  refine Z.region ?_
                                  refine Z.le rfl trivial ?_
                                  first | refine Z.ZO.store rfl rfl hs Try.sizeOf4 rfl rfl rfl (by first | exact SX.at0 | exact SX.at1 | exact SX.at2 | exact SX.at3 | exact SX.at4 | exact SX.at5 | exact Z.at6 | exact Z.at7 | exact Z.at8 | exact Z.at9 | exact Z.at10 | exact Z.at11 | exact Z.at12) (by first | (simp; done) | (simp; omega)) ?_ | refine Z.ZO.storeR rfl rfl hs Try.sizeOf4 rfl rfl rfl (by first | exact SX.at0 | exact SX.at1 | exact SX.at2 | exact SX.at3 | exact SX.at4 | exact SX.at5 | exact Z.at6 | exact Z.at7 | exact Z.at8 | exact Z.at9 | exact Z.at10 | exact Z.at11 | exact Z.at12) (by first | omega | (simp [ints_length]; done) | (simp [ints_length]; omega)) ?_
                                  clear hs; intro ws hs
                                  simp only [Nat.zero_add, Nat.add_zero, Nat.reduceAdd, Int.reduceToNat, Nat.reduceMul, List.set_cons_zero, List.set_cons_succ, List.setIfInBounds_toArray] at hs
                                  refine Z.lnil ?_
                                  refine Z.only [8] rfl ?_
                                  refine Z.nthen ?_
                                  refine Z.ret ?_
                                  repeat (first | refine Z.rthen ?_ | refine Z.rblock ?_ | refine Z.rscope ?_)
                                  refine Z.rret _ ⟨⟨rfl, ?_⟩, rfl⟩ hs
                                  obtain ⟨t, ht⟩ := hpre
                                  rw [← ht, List.all_append, List.all_append]
                                  have hf : outR a x = false := by
                                    simp [outR]
                                    first | omega | (simp_all; done) | (simp_all; omega)
                                  simp [hf]
                                  )
                            · first
                                | (exfalso; simp at hc11 <;> omega)
                                | (
                                  (try simp at hc11)
                                  refine Z.skip ?_
                                  refine Z.nblock ?_
                                  refine Z.rnorm _ ⟨?_, rfl⟩ hs
                                  rw [List.all_append, hi]
                                  simp [outR]
                                  first | omega | (simp_all; done) | (simp_all; omega)
                                  )
                            )
                      )
                · first
                    | (exfalso; simp at hsp42 <;> omega)
                    | (
                      refine Z.yes (s := 42) (b := false) rfl hsp42 rfl ?_
                      (try simp at hsp42)
                      refine Z.ls rfl rfl rfl (by rfl) ?_
                      refine Z.ls rfl rfl rfl (by rfl) ?_
                      refine Z.ls rfl rfl rfl (by rfl) ?_
                      refine Z.ls rfl rfl rfl (by rfl) ?_
                      refine Z.lsU rfl rfl rfl (by rfl) ?_
                      refine Z.lsU rfl rfl rfl (by rfl) ?_
                      refine Z.ls rfl rfl rfl (by rfl) ?_
                      refine Z.l rfl rfl (by rfl) (Z.keepS hs) (Z.Yd.pickF rfl rfl) ?_
                      refine Z.lnil ?_
                      refine Z.only [8, 50] rfl ?_
                      refine Z.nthen ?_
                      refine Z.cond rfl (fun hc11 => ?_) (fun hc11 => ?_)
                      · first
                          | (exfalso; simp at hc11 <;> omega)
                          | (
                            (try simp at hc11)
                            refine Z.seq ?_
                            refine Z.region ?_
                            refine Z.le rfl trivial ?_
                            first | refine Z.ZO.store rfl rfl hs Try.sizeOf4 rfl rfl rfl (by first | exact SX.at0 | exact SX.at1 | exact SX.at2 | exact SX.at3 | exact SX.at4 | exact SX.at5 | exact Z.at6 | exact Z.at7 | exact Z.at8 | exact Z.at9 | exact Z.at10 | exact Z.at11 | exact Z.at12) (by first | (simp; done) | (simp; omega)) ?_ | refine Z.ZO.storeR rfl rfl hs Try.sizeOf4 rfl rfl rfl (by first | exact SX.at0 | exact SX.at1 | exact SX.at2 | exact SX.at3 | exact SX.at4 | exact SX.at5 | exact Z.at6 | exact Z.at7 | exact Z.at8 | exact Z.at9 | exact Z.at10 | exact Z.at11 | exact Z.at12) (by first | omega | (simp [ints_length]; done) | (simp [ints_length]; omega)) ?_
                            clear hs; intro ws hs
                            simp only [Nat.zero_add, Nat.add_zero, Nat.reduceAdd, Int.reduceToNat, Nat.reduceMul, List.set_cons_zero, List.set_cons_succ, List.setIfInBounds_toArray] at hs
                            refine Z.lnil ?_
                            refine Z.only [8] rfl ?_
                            refine Z.nthen ?_
                            refine Z.ret ?_
                            repeat (first | refine Z.rthen ?_ | refine Z.rblock ?_ | refine Z.rscope ?_)
                            refine Z.rret _ ⟨⟨rfl, ?_⟩, rfl⟩ hs
                            obtain ⟨t, ht⟩ := hpre
                            rw [← ht, List.all_append, List.all_append]
                            have hf : outR a x = false := by
                              simp [outR]
                              first | omega | (simp_all; done) | (simp_all; omega)
                            simp [hf]
                            )
                      · first
                          | (exfalso; simp at hc11 <;> omega)
                          | (
                            (try simp at hc11)
                            refine Z.skip ?_
                            refine Z.nblock ?_
                            refine Z.rnorm _ ⟨?_, rfl⟩ hs
                            rw [List.all_append, hi]
                            simp [outR]
                            first | omega | (simp_all; done) | (simp_all; omega)
                            )
                      )
              · clear hs
                rintro Dd W0 L0 hi hs
                obtain ⟨hi, rfl⟩ := hi
                rw [hi]
                simp only [List.cons_append, List.nil_append] at hs
                refine Z.nblock ?_
                refine Z.nthen ?_
                refine Z.seq ?_
                refine Z.region ?_
                refine Z.le rfl trivial ?_
                first | refine Z.ZO.store rfl rfl hs Try.sizeOf4 rfl rfl rfl (by first | exact SX.at0 | exact SX.at1 | exact SX.at2 | exact SX.at3 | exact SX.at4 | exact SX.at5 | exact Z.at6 | exact Z.at7 | exact Z.at8 | exact Z.at9 | exact Z.at10 | exact Z.at11 | exact Z.at12) (by first | (simp; done) | (simp; omega)) ?_ | refine Z.ZO.storeR rfl rfl hs Try.sizeOf4 rfl rfl rfl (by first | exact SX.at0 | exact SX.at1 | exact SX.at2 | exact SX.at3 | exact SX.at4 | exact SX.at5 | exact Z.at6 | exact Z.at7 | exact Z.at8 | exact Z.at9 | exact Z.at10 | exact Z.at11 | exact Z.at12) (by first | omega | (simp [ints_length]; done) | (simp [ints_length]; omega)) ?_
                clear hs; intro ws hs
                simp only [Nat.zero_add, Nat.add_zero, Nat.reduceAdd, Int.reduceToNat, Nat.reduceMul, List.set_cons_zero, List.set_cons_succ, List.setIfInBounds_toArray] at hs
                refine Z.lnil ?_
                refine Z.only [8] rfl ?_
                refine Z.nthen ?_
                refine Z.ret ?_
                -- ret#1
                refine Z.outM1 (vs := [_]) (show SX.St w [] _ ([_, _] ++ SX.Ent.obj Dd (.deferred (some [])) :: [_, _, _]) from hs) (fun wr hs => (by exact ⟨⟨_, rfl, Z.rvc hs Try.isAgg4 (by first | ((repeat (first | exact List.mem_cons_self | refine List.mem_cons_of_mem _ ?_ | refine List.mem_append_right _ ?_)); done) | fail) rfl⟩, trivial⟩)) (by exact ⟨⟨_, rfl, Z.rvc hs Try.isAgg4 (by first | ((repeat (first | exact List.mem_cons_self | refine List.mem_cons_of_mem _ ?_ | refine List.mem_append_right _ ?_)); done) | fail) rfl⟩, trivial⟩) ?_
                clear hs
                intro wr hs
                exact ⟨_, rfl, rfl, hs.sub (List.nil_sublist _)⟩
              · clear hs
                rintro Dd c W0 L0 hi hs
                obtain ⟨⟨rfl, hi⟩, rfl⟩ := hi
                rw [hi]
                simp only [List.cons_append, List.nil_append] at hs
                refine Z.ret ?_
                repeat (first | refine Z.rthen ?_ | refine Z.rblock ?_ | refine Z.rscope ?_)
                -- ret#2
                refine Z.outM1 (vs := [_]) (show SX.St w [] _ ([_, _] ++ SX.Ent.obj Dd (.deferred (some [])) :: [_, _, _]) from hs) (fun wr hs => (by exact ⟨⟨_, rfl, Z.rvc hs Try.isAgg4 (by first | ((repeat (first | exact List.mem_cons_self | refine List.mem_cons_of_mem _ ?_ | refine List.mem_append_right _ ?_)); done) | fail) rfl⟩, trivial⟩)) (by exact ⟨⟨_, rfl, Z.rvc hs Try.isAgg4 (by first | ((repeat (first | exact List.mem_cons_self | refine List.mem_cons_of_mem _ ?_ | refine List.mem_append_right _ ?_)); done) | fail) rfl⟩, trivial⟩) ?_
                clear hs
                intro wr hs
                exact ⟨_, rfl, rfl, hs.sub (List.nil_sublist _)⟩
              )
        )
  · first
      | (exfalso; simp at hsp27 <;> omega)
      | (
        refine Z.yes (s := 27) (b := false) rfl hsp27 rfl ?_
        (try simp at hsp27)
        refine Z.lb 2 rfl ?_
        refine Z.yes (s := 27) (b := false) rfl rfl rfl ?_
        refine Z.l rfl rfl (by rfl) (Z.keepS hs) (Z.Yd.pickF rfl rfl) ?_
        refine Z.lnil ?_
        refine Z.only [4, 7, 8, 9, 30] rfl ?_
        refine Z.nthen ?_
        refine Z.cond rfl (fun hc3 => ?_) (fun hc3 => ?_)
        · first
            | (exfalso; simp at hc3 <;> omega)
            | (
              (try simp at hc3)
              have hd0 : ¬ (1 ≤ (ack - sn + 1024) % 1024 ∧ (ack - sn + 1024) % 1024 ≤ 512) := by omega
              rw [decide_eq_false hd0, Bool.false_and]
              refine Z.seq ?_
              refine Z.region ?_
              refine Z.le rfl trivial ?_
              first | refine Z.ZO.store rfl rfl hs Try.sizeOf4 rfl rfl rfl (by first | exact SX.at0 | exact SX.at1 | exact SX.at2 | exact SX.at3 | exact SX.at4 | exact SX.at5 | exact Z.at6 | exact Z.at7 | exact Z.at8 | exact Z.at9 | exact Z.at10 | exact Z.at11 | exact Z.at12) (by first | (simp; done) | (simp; omega)) ?_ | refine Z.ZO.storeR rfl rfl hs Try.sizeOf4 rfl rfl rfl (by first | exact SX.at0 | exact SX.at1 | exact SX.at2 | exact SX.at3 | exact SX.at4 | exact SX.at5 | exact Z.at6 | exact Z.at7 | exact Z.at8 | exact Z.at9 | exact Z.at10 | exact Z.at11 | exact Z.at12) (by first | omega | (simp [ints_length]; done) | (simp [ints_length]; omega)) ?_
              clear hs; intro ws hs
              simp only [Nat.zero_add, Nat.add_zero, Nat.reduceAdd, Int.reduceToNat, Nat.reduceMul, List.set_cons_zero, List.set_cons_succ, List.setIfInBounds_toArray] at hs
              refine Z.lnil ?_
              refine Z.only [8] rfl ?_
              refine Z.nthen ?_
              refine Z.ret ?_
              repeat (first | refine Z.rthen ?_ | refine Z.rblock ?_ | refine Z.rscope ?_)
              -- ret#3
              refine Z.outM0 (vs := [_]) (by exact ⟨⟨_, rfl, Z.rvc hs Try.isAgg4 (by first | ((repeat (first | exact List.mem_cons_self | refine List.mem_cons_of_mem _ ?_ | refine List.mem_append_right _ ?_)); done) | fail) rfl⟩, trivial⟩) ?_
              exact ⟨_, rfl, rfl, hs.sub (List.nil_sublist _)⟩
              )
        · first
            | (exfalso; simp at hc3 <;> omega)
            | (
              (try simp at hc3)
              rw [decide_eq_true (show 1 ≤ (ack - sn + 1024) % 1024 ∧ (ack - sn + 1024) % 1024 ≤ 512 by omega), Bool.true_and]
              refine Z.skip ?_
              refine Z.nthen ?_
              refine Z.seq ?_
              refine Z.region ?_
              refine Z.l rfl rfl (by rfl) (Z.keepS hs) (by first | exact Z.Yd.loadA _ rfl Try.isAgg24 (fun _ => Z.cellsB (by first | ((repeat (first | exact List.mem_cons_self | refine List.mem_cons_of_mem _ ?_ | refine List.mem_append_right _ ?_)); done) | fail)) (by exact Try.sizeOf24) | fail "load 5.0") ?_
              refine Z.lb 1 rfl ?_
              refine Z.le rfl trivial ?_
              refine Z.ZO.call rfl rfl (by rfl) rfl rfl Try.call25 rfl (ranges_any ack sn A n c l _ (hx.st (hs.sub (List.nil_sublist _))) hl hn) ?_
              rintro v5_2 w5_2 ⟨go, gs, Br, cr, rfl, hy⟩
              replace hs := hs.call hy
              clear hy
              try simp only [List.cons_append, List.nil_append, List.append_nil] at hs
              refine Z.lb 1 rfl ?_
              refine Z.lnil ?_
              refine Z.only [7, 8, 11] rfl ?_
              refine Z.nthen ?_
              refine Z.seq ?_
              refine Z.seq ?_
              refine Z.region ?_
              refine Z.lb 1 rfl ?_
              refine Z.l rfl rfl (by rfl) (Z.keepS hs) (Z.Yd.fnNil rfl rfl Try.underlying52) ?_
              refine Z.lnil ?_
              refine Z.only [7, 8, 11, 35] rfl ?_
              refine Z.nthen ?_
              refine Z.cond rfl (fun h => absurd h (by simp)) (fun hc6 => ?_)
              refine Z.skip ?_
              refine Z.nthen ?_
              refine Z.seq ?_
              refine Z.seq ?_
              refine Z.region ?_
              refine Z.lb 1 rfl ?_
              refine Z.lnil ?_
              refine Z.only [7, 8, 36] rfl ?_
              refine Z.nthen ?_
              refine Z.block ?_
              replace hs := hs.sel [3, 4, 0, 1, 2] (by decide)
              refine Z.rangeFunc (ps := [37, 38]) (L0 := [SX.Ent.blk g8 4 #[.bool false], SX.Ent.blk g7 3 #[.int .i64 a]]) (ranges_seq go gs _ _ n cr cr Br l sn hl hn) rfl Try.call51 (hs) trivial (by rintro x args Lx ⟨rfl, rfl⟩; rfl) rfl (fun pre L => pre.all (outR a) = true ∧ L = [SX.Ent.blk g8 4 #[.bool false], SX.Ent.blk g7 3 #[.int .i64 a]]) (fun c L => (c = .ret ∧ (rgs sn l).all (outR a) = false) ∧ L = [SX.Ent.blk g8 4 #[.bool false], SX.Ent.blk g7 3 #[.int .i64 a]]) ⟨rfl, rfl⟩ ?_ ?_ ?_
              · clear hs
                rintro l0 Z0 pre x args W0 L0 Lx ⟨hi, rfl⟩ hpre ⟨rfl, rfl⟩ hs
                refine ⟨_, rfl, ?_⟩
                refine Z.seq ?_
                refine Z.region ?_
                refine Z.lb 1 rfl ?_
                refine Z.lnil ?_
                refine Z.only [7, 8, 12, 38] rfl ?_
                refine Z.nthen ?_
                refine Z.region ?_
                refine Z.lb 1 rfl ?_
                refine Z.lnil ?_
                refine Z.only [7, 8, 12, 13] rfl ?_
                refine Z.nthen ?_
                refine Z.assigned [SX.Ent.blk g8 4 #[.bool false], SX.Ent.blk g7 3 #[.int .i64 a]] hs ?_
                clear hs
                intro Wb0 Zb0 hs
                refine Z.block ?_
                refine Z.seq ?_
                refine Z.region ?_
                simp only [List.cons_append, List.nil_append] at hs
                refine Z.l rfl rfl (by rfl) (Z.keepS hs) (by first | exact Z.Yd.load rfl Try.isAgg3 (fun _ => Z.cellB (by first | ((repeat (first | exact List.mem_cons_self | refine List.mem_cons_of_mem _ ?_ | refine List.mem_append_right _ ?_)); done) | fail) rfl) | exact Z.Yd.load rfl Try.isAgg3 (fun _ => Z.cellO (by assumption) (by simp) (by assumption)) | fail "load 11.0") ?_
                refine Z.lb 3 rfl ?_
                refine Z.split (s := 42) rfl (fun hsp42 => ?_) (fun hsp42 => ?_)
                · first
                    | (exfalso; simp at hsp42 <;> omega)
                    | (
                      refine Z.yes (s := 42) (b := true) rfl hsp42 rfl ?_
                      (try simp at hsp42)
                      refine Z.l rfl rfl (by rfl) (Z.keepS hs) (by first | exact Z.Yd.load rfl Try.isAgg3 (fun _ => Z.cellB (by first | ((repeat (first | exact List.mem_cons_self | refine List.mem_cons_of_mem _ ?_ | refine List.mem_append_right _ ?_)); done) | fail) rfl) | exact Z.Yd.load rfl Try.isAgg3 (fun _ => Z.cellO (by assumption) (by simp) (by assumption)) | fail "load 11.4") ?_
                      refine Z.lb 3 rfl ?_
                      refine Z.yes (s := 42) (b := true) rfl rfl rfl ?_
                      refine Z.split (s := 46) rfl (fun hsp46 => ?_) (fun hsp46 => ?_)
                      · first
                          | (exfalso; simp at hsp46 <;> omega)
                          | (
                            refine Z.yes (s := 46) (b := true) rfl hsp46 rfl ?_
                            (try simp at hsp46)
                            refine Z.ls rfl rfl rfl (by rfl) ?_
                            refine Z.ls rfl rfl rfl (by rfl) ?_
                            refine Z.l rfl rfl (by rfl) (Z.keepS hs) (Z.Yd.pickT rfl rfl) ?_
                            refine Z.yes (s := 42) (b := true) rfl rfl rfl ?_
                            refine Z.l rfl rfl (by rfl) (Z.keepS hs) (Z.Yd.pickT rfl rfl) ?_
                            refine Z.lnil ?_
                            refine Z.only [8, 50] rfl ?_
                            refine Z.nthen ?_
                            refine Z.cond rfl (fun hc11 => ?_) (fun hc11 => ?_)
                            · first
                                | (exfalso; simp at hc11 <;> omega)
                                | (
                                  (try simp at hc11)
                                  refine Z.seq ?_
                                  refine Z.region ?_
                                  refine Z.le rfl trivial ?_
                                  first | refine Z.ZO.store rfl rfl hs Try.sizeOf4 rfl rfl rfl (by first | exact SX.at0 | exact SX.at1 | exact SX.at2 | exact SX.at3 | exact SX.at4 | exact SX.at5 | exact Z.at6 | exact Z.at7 | exact Z.at8 | exact Z.at9 | exact Z.at10 | exact Z.at11 | exact Z.at12) (by first | (simp; done) | (simp; omega)) ?_ | refine Z.ZO.storeR rfl rfl hs Try.sizeOf4 rfl rfl rfl (by first | exact SX.at0 | exact SX.at1 | exact SX.at2 | exact SX.at3 | exact SX.at4 | exact SX.at5 | exact Z.at6 | exact Z.at7 | exact Z.at8 | exact Z.at9 | exact Z.at10 | exact Z.at11 | exact Z.at12) (by first | omega | (simp [ints_length]; done) | (simp [ints_length]; omega)) ?_
                                  clear hs; intro ws hs
                                  simp only [Nat.zero_add, Nat.add_zero, Nat.reduceAdd, Int.reduceToNat, Nat.reduceMul, List.set_cons_zero, List.set_cons_succ, List.setIfInBounds_toArray] at hs
                                  refine Z.lnil ?_
                                  refine Z.only [8] rfl ?_
                                  refine Z.nthen ?_
                                  refine Z.ret ?_
                                  repeat (first | refine Z.rthen ?_ | refine Z.rblock ?_ | refine Z.rscope ?_)
                                  refine Z.rret _ ⟨⟨rfl, ?_⟩, rfl⟩ hs
                                  obtain ⟨t, ht⟩ := hpre
                                  rw [← ht, List.all_append, List.all_append]
                                  have hf : outR a x = false := by
                                    simp [outR]
                                    first | omega | (simp_all; done) | (simp_all; omega)
                                  simp [hf]
                                  )
                            · first
                                | (exfalso; simp at hc11 <;> omega)
                                | (
                                  (try simp at hc11)
                                  refine Z.skip ?_
                                  refine Z.nblock ?_
                                  refine Z.rnorm _ ⟨?_, rfl⟩ hs
                                  rw [List.all_append, hi]
                                  simp [outR]
                                  first | omega | (simp_all; done) | (simp_all; omega)
                                  )
                            )
                      · first
                          | (exfalso; simp at hsp46 <;> omega)
                          | (
                            refine Z.yes (s := 46) (b := false) rfl hsp46 rfl ?_
                            (try simp at hsp46)
                            refine Z.lb 2 rfl ?_
                            refine Z.yes (s := 46) (b := false) rfl rfl rfl ?_
                            refine Z.l rfl rfl (by rfl) (Z.keepS hs) (Z.Yd.pickF rfl rfl) ?_
                            refine Z.yes (s := 42) (b := true) rfl rfl rfl ?_
                            refine Z.l rfl rfl (by rfl) (Z.keepS hs) (Z.Yd.pickT rfl rfl) ?_
                            refine Z.lnil ?_
                            refine Z.only [8, 50] rfl ?_
                            refine Z.nthen ?_
                            refine Z.cond rfl (fun hc11 => ?_) (fun hc11 => ?_)
                            · first
                                | (exfalso; simp at hc11 <;> omega)
                                | (
                                  (try simp at hc11)
                                  refine Z.seq ?_
                                  refine Z.region ?_
                                  refine Z.le rfl trivial ?_
                                  first | refine Z.ZO.store rfl rfl hs Try.sizeOf4 rfl rfl rfl (by first | exact SX.at0 | exact SX.at1 | exact SX.at2 | exact SX.at3 | exact SX.at4 | exact SX.at5 | exact Z.at6 | exact Z.at7 | exact Z.at8 | exact Z.at9 | exact Z.at10 | exact Z.at11 | exact Z.at12) (by first | (simp; done) | (simp; omega)) ?_ | refine Z.ZO.storeR rfl rfl hs Try.sizeOf4 rfl rfl rfl (by first | exact SX.at0 | exact SX.at1 | exact SX.at2 | exact SX.at3 | exact SX.at4 | exact SX.at5 | exact Z.at6 | exact Z.at7 | exact Z.at8 | exact Z.at9 | exact Z.at10 | exact Z.at11 | exact Z.at12) (by first | omega | (simp [ints_length]; done) | (simp [ints_length]; omega)) ?_
                                  clear hs; intro ws hs
                                  simp only [Nat.zero_add, Nat.add_zero, Nat.reduceAdd, Int.reduceToNat, Nat.reduceMul, List.set_cons_zero, List.set_cons_succ, List.setIfInBounds_toArray] at hs
                                  refine Z.lnil ?_
                                  refine Z.only [8] rfl ?_
                                  refine Z.nthen ?_
                                  refine Z.ret ?_
                                  repeat (first | refine Z.rthen ?_ | refine Z.rblock ?_ | refine Z.rscope ?_)
                                  refine Z.rret _ ⟨⟨rfl, ?_⟩, rfl⟩ hs
                                  obtain ⟨t, ht⟩ := hpre
                                  rw [← ht, List.all_append, List.all_append]
                                  have hf : outR a x = false := by
                                    simp [outR]
                                    first | omega | (simp_all; done) | (simp_all; omega)
                                  simp [hf]
                                  )
                            · first
                                | (exfalso; simp at hc11 <;> omega)
                                | (
                                  (try simp at hc11)
                                  refine Z.skip ?_
                                  refine Z.nblock ?_
                                  refine Z.rnorm _ ⟨?_, rfl⟩ hs
                                  rw [List.all_append, hi]
                                  simp [outR]
                                  first | omega | (simp_all; done) | (simp_all; omega)
                                  )
                            )
                      )
                · first
                    | (exfalso; simp at hsp42 <;> omega)
                    | (
                      refine Z.yes (s := 42) (b := false) rfl hsp42 rfl ?_
                      (try simp at hsp42)
                      refine Z.ls rfl rfl rfl (by rfl) ?_
                      refine Z.ls rfl rfl rfl (by rfl) ?_
                      refine Z.ls rfl rfl rfl (by rfl) ?_
                      refine Z.ls rfl rfl rfl (by rfl) ?_
                      refine Z.lsU rfl rfl rfl (by rfl) ?_
                      refine Z.lsU rfl rfl rfl (by rfl) ?_
                      refine Z.ls rfl rfl rfl (by rfl) ?_
                      refine Z.l rfl rfl (by rfl) (Z.keepS hs) (Z.Yd.pickF rfl rfl) ?_
                      refine Z.lnil ?_
                      refine Z.only [8, 50] rfl ?_
                      refine Z.nthen ?_
                      refine Z.cond rfl (fun hc11 => ?_) (fun hc11 => ?_)
                      · first
                          | (exfalso; simp at hc11 <;> omega)
                          | (
                            (try simp at hc11)
                            refine Z.seq ?_
                            refine Z.region ?_
                            refine Z.le rfl trivial ?_
                            first | refine Z.ZO.store rfl rfl hs Try.sizeOf4 rfl rfl rfl (by first | exact SX.at0 | exact SX.at1 | exact SX.at2 | exact SX.at3 | exact SX.at4 | exact SX.at5 | exact Z.at6 | exact Z.at7 | exact Z.at8 | exact Z.at9 | exact Z.at10 | exact Z.at11 | exact Z.at12) (by first | (simp; done) | (simp; omega)) ?_ | refine Z.ZO.storeR rfl rfl hs Try.sizeOf4 rfl rfl rfl (by first | exact SX.at0 | exact SX.at1 | exact SX.at2 | exact SX.at3 | exact SX.at4 | exact SX.at5 | exact Z.at6 | exact Z.at7 | exact Z.at8 | exact Z.at9 | exact Z.at10 | exact Z.at11 | exact Z.at12) (by first | omega | (simp [ints_length]; done) | (simp [ints_length]; omega)) ?_
                            clear hs; intro ws hs
                            simp only [Nat.zero_add, Nat.add_zero, Nat.reduceAdd, Int.reduceToNat, Nat.reduceMul, List.set_cons_zero, List.set_cons_succ, List.setIfInBounds_toArray] at hs
                            refine Z.lnil ?_
                            refine Z.only [8] rfl ?_
                            refine Z.nthen ?_
                            refine Z.ret ?_
                            repeat (first | refine Z.rthen ?_ | refine Z.rblock ?_ | refine Z.rscope ?_)
                            refine Z.rret _ ⟨⟨rfl, ?_⟩, rfl⟩ hs
                            obtain ⟨t, ht⟩ := hpre
                            rw [← ht, List.all_append, List.all_append]
                            have hf : outR a x = false := by
                              simp [outR]
                              first | omega | (simp_all; done) | (simp_all; omega)
                            simp [hf]
                            )
                      · first
                          | (exfalso; simp at hc11 <;> omega)
                          | (
                            (try simp at hc11)
                            refine Z.skip ?_
                            refine Z.nblock ?_
                            refine Z.rnorm _ ⟨?_, rfl⟩ hs
                            rw [List.all_append, hi]
                            simp [outR]
                            first | omega | (simp_all; done) | (simp_all; omega)
                            )
                      )
              · clear hs
                rintro Dd W0 L0 hi hs
                obtain ⟨hi, rfl⟩ := hi
                rw [hi]
                simp only [List.cons_append, List.nil_append] at hs
                refine Z.nblock ?_
                refine Z.nthen ?_
                refine Z.seq ?_
                refine Z.region ?_
                refine Z.le rfl trivial ?_
                first | refine Z.ZO.store rfl rfl hs Try.sizeOf4 rfl rfl rfl (by first | exact SX.at0 | exact SX.at1 | exact SX.at2 | exact SX.at3 | exact SX.at4 | exact SX.at5 | exact Z.at6 | exact Z.at7 | exact Z.at8 | exact Z.at9 | exact Z.at10 | exact Z.at11 | exact Z.at12) (by first | (simp; done) | (simp; omega)) ?_ | refine Z.ZO.storeR rfl rfl hs Try.sizeOf4 rfl rfl rfl (by first | exact SX.at0 | exact SX.at1 | exact SX.at2 | exact SX.at3 | exact SX.at4 | exact SX.at5 | exact Z.at6 | exact Z.at7 | exact Z.at8 | exact Z.at9 | exact Z.at10 | exact Z.at11 | exact Z.at12) (by first | omega | (simp [ints_length]; done) | (simp [ints_length]; omega)) ?_
                clear hs; intro ws hs
                simp only [Nat.zero_add, Nat.add_zero, Nat.reduceAdd, Int.reduceToNat, Nat.reduceMul, List.set_cons_zero, List.set_cons_succ, List.setIfInBounds_toArray] at hs
                refine Z.lnil ?_
                refine Z.only [8] rfl ?_
                refine Z.nthen ?_
                refine Z.ret ?_
                -- ret#4
                refine Z.outM1 (vs := [_]) (show SX.St w [] _ ([_, _] ++ SX.Ent.obj Dd (.deferred (some [])) :: [_, _, _]) from hs) (fun wr hs => (by exact ⟨⟨_, rfl, Z.rvc hs Try.isAgg4 (by first | ((repeat (first | exact List.mem_cons_self | refine List.mem_cons_of_mem _ ?_ | refine List.mem_append_right _ ?_)); done) | fail) rfl⟩, trivial⟩)) (by exact ⟨⟨_, rfl, Z.rvc hs Try.isAgg4 (by first | ((repeat (first | exact List.mem_cons_self | refine List.mem_cons_of_mem _ ?_ | refine List.mem_append_right _ ?_)); done) | fail) rfl⟩, trivial⟩) ?_
                clear hs
                intro wr hs
                exact ⟨_, rfl, rfl, hs.sub (List.nil_sublist _)⟩
              · clear hs
                rintro Dd c W0 L0 hi hs
                obtain ⟨⟨rfl, hi⟩, rfl⟩ := hi
                rw [hi]
                simp only [List.cons_append, List.nil_append] at hs
                refine Z.ret ?_
                repeat (first | refine Z.rthen ?_ | refine Z.rblock ?_ | refine Z.rscope ?_)
                -- ret#5
                refine Z.outM1 (vs := [_]) (show SX.St w [] _ ([_, _] ++ SX.Ent.obj Dd (.deferred (some [])) :: [_, _, _]) from hs) (fun wr hs => (by exact ⟨⟨_, rfl, Z.rvc hs Try.isAgg4 (by first | ((repeat (first | exact List.mem_cons_self | refine List.mem_cons_of_mem _ ?_ | refine List.mem_append_right _ ?_)); done) | fail) rfl⟩, trivial⟩)) (by exact ⟨⟨_, rfl, Z.rvc hs Try.isAgg4 (by first | ((repeat (first | exact List.mem_cons_self | refine List.mem_cons_of_mem _ ?_ | refine List.mem_append_right _ ?_)); done) | fail) rfl⟩, trivial⟩) ?_
                clear hs
                intro wr hs
                exact ⟨_, rfl, rfl, hs.sub (List.nil_sublist _)⟩
              )
        )
theorem rgs_none {sn : Int} {l : List NkV} (h : ∀ x ∈ l, x.sn ≠ sn) : rgs sn l = [] := by
  unfold rgs
  rw [List.filter_eq_nil_iff.2 (fun x hx => by simpa using h x hx)]
  rfl
theorem rgs_app (sn : Int) (l m : List NkV) : rgs sn (l ++ m) = rgs sn l ++ rgs sn m := by simp [rgs]
/-- **what a shortened report says was received, the report itself says** -/
theorem rcv_fit {ack n behind a : Int} {l : List NkV} (hv : vldB ack l = true) (hn : 2 ≤ n) (hb : 1 ≤ behind ∧ behind ≤ 512) (hc : dist ack (fitK l ack n).1 < behind) (h : rcvB (fitK l ack n).1 (l.take (fitK l ack n).2) ack behind a = true) : rcvB ack l ack behind a = true := by
  obtain ⟨hack, -, -⟩ := vldB_len hv
  obtain ⟨-, -, h3⟩ := fit_cut hv hn
  unfold rcvB at h ⊢
  simp only [Bool.and_eq_true, decide_eq_true_eq] at h ⊢
  refine ⟨by omega, ?_⟩
  have e : l = l.take (fitK l ack n).2 ++ l.drop (fitK l ack n).2 := (List.take_append_drop _ _).symm
  rw [e, rgs_app, List.all_append, h.2, rgs_none (l := l.drop _)]
  · rfl
  · intro x hx hsn
    obtain ⟨i, hi⟩ := List.getElem?_of_mem hx
    rw [List.getElem?_drop] at hi
    have := h3 _ x (Nat.le_add_right _ _) hi
    have h4 : dist ack x.sn = behind := by rw [hsn]; unfold dist; omega
    omega
set_option maxHeartbeats 1000000 in
set_option maxRecDepth 100000 in
theorem statusSafe_walk (ack n behind a : Int) (A : Option Addr) (m c : Nat) (l : List NkV) (w : World) (hx : Sl w A (l.flatMap NkV.cells)) (hl : l.length = m) (hmc : m ≤ c) (hm : c ≤ maxLen) :
    Calls Try.prog 7 #[.agg #[.int .i64 ack, .slice A m c], .int .i64 n, .int .i64 behind, .int .i64 a] w (SX.Ret fun v w' => v = .bool true ∧ SX.St w [] w' []) := by
  have hs := SX.St.start w
  by_cases h : m ≤ 100 ∧ (1 ≤ behind ∧ behind ≤ 512) ∧ 0 ≤ a ∧ a ≤ 32767
  · obtain ⟨h1, h2, h3⟩ := h
    by_cases hE : fitE l ack n = 0
    · have hE2 := hE
      unfold fitE at hE2
      split at hE2
      · rename_i hv
        split at hE2
        · cases hE2
        · rename_i hn2
          have hn : 2 ≤ n := by omega
          obtain ⟨hack, -, -⟩ := vldB_len hv.1
          have hA : fitA l ack n = (fitK l ack n).1 := by unfold fitA; rw [if_pos hE]
          have hJ : fitJ l ack n = (fitK l ack n).2 := by unfold fitJ; rw [if_pos hE]
          have hval := fit_valid hv.1 hn
          obtain ⟨hcut, hna, -⟩ := fit_cut hv.1 hn
          obtain ⟨hsz, -⟩ := fitK_is (l := l) (ack := ack) hn
          have hrcv := fun hc => rcv_fit (a := a) hv.1 hn h2 hc
          rw [← hA, ← hJ] at hval hrcv
          rw [← hJ] at hsz
          rw [← hA] at hcut hna
          have hjl := fitJ_le l ack n
          have hlt : (l.take (fitJ l ack n)).length = fitJ l ack n := by rw [List.length_take]; omega
          have hsv : sizeV (fitA l ack n) (l.take (fitJ l ack n)) = szK l (fitJ l ack n) := if_pos hval
          have hs2 : 2 ≤ szK l (fitJ l ack n) := by unfold szK sizeN; omega
          have hcd : (ack - fitA l ack n + 1024) % 1024 = dist ack (fitA l ack n) := by unfold dist; omega
          refine Z.enter Try.func7 rfl Try.ntmps7 rfl rfl ?_
          refine Z.seq ?_
          refine Z.region ?_
          refine Z.le rfl trivial ?_
          refine Z.ZO.box rfl rfl (by rfl) rfl rfl hs ?_
          clear hs; intro g4 w4 hs
          refine Z.lb 1 rfl ?_
          refine Z.lnil ?_
          refine Z.only [1, 2, 3, 4] rfl ?_
          refine Z.nthen ?_
          refine Z.seq ?_
          refine Z.seq ?_
          refine Z.region ?_
          refine Z.l rfl rfl (by rfl) (Z.keepS hs) (Z.Yd.fieldA (m := 1) rfl (by kernel_rfl)) ?_
          refine Z.l rfl rfl (by rfl) (Z.keepS hs) (by first | exact Z.Yd.load rfl Try.isAgg22 (fun _ => Z.cellB (by first | ((repeat (first | exact List.mem_cons_self | refine List.mem_cons_of_mem _ ?_ | refine List.mem_append_right _ ?_)); done) | fail) rfl) | exact Z.Yd.load rfl Try.isAgg22 (fun _ => Z.cellO (by assumption) (by simp) (by assumption)) | fail "load 1.1") ?_
          refine Z.l rfl rfl (by rfl) (Z.keepS hs) (Z.Yd.lenS rfl Try.underlying22) ?_
          refine Z.lb 2 rfl ?_
          refine Z.yes (s := 16) (b := false) rfl ((by simp; omega)) rfl ?_
          refine Z.lb 2 rfl ?_
          refine Z.yes (s := 16) (b := false) rfl rfl rfl ?_
          refine Z.l rfl rfl (by rfl) (Z.keepS hs) (Z.Yd.pickF rfl rfl) ?_
          refine Z.lb 1 rfl ?_
          refine Z.yes (s := 20) (b := false) rfl ((by simp; omega)) rfl ?_
          refine Z.lb 2 rfl ?_
          refine Z.yes (s := 20) (b := false) rfl rfl rfl ?_
          refine Z.l rfl rfl (by rfl) (Z.keepS hs) (Z.Yd.pickF rfl rfl) ?_
          refine Z.lb 1 rfl ?_
          refine Z.yes (s := 24) (b := false) rfl ((by simp; omega)) rfl ?_
          refine Z.lb 2 rfl ?_
          refine Z.yes (s := 24) (b := false) rfl rfl rfl ?_
          refine Z.l rfl rfl (by rfl) (Z.keepS hs) (Z.Yd.pickF rfl rfl) ?_
          refine Z.lb 1 rfl ?_
          refine Z.yes (s := 28) (b := false) rfl ((by simp; omega)) rfl ?_
          refine Z.lb 2 rfl ?_
          refine Z.yes (s := 28) (b := false) rfl rfl rfl ?_
          refine Z.l rfl rfl (by rfl) (Z.keepS hs) (Z.Yd.pickF rfl rfl) ?_
          refine Z.lnil ?_
          refine Z.only [1, 2, 3, 4, 31] rfl ?_
          refine Z.nthen ?_
          refine Z.cond rfl (fun h => absurd h (by simp; omega)) (fun hc1 => ?_)
          refine Z.skip ?_
          refine Z.nthen ?_
          refine Z.seq ?_
          refine Z.region ?_
          refine Z.l rfl rfl (by rfl) (Z.keepS hs) (by first | exact Z.Yd.loadA _ rfl Try.isAgg24 (fun _ => Z.cellsB (by first | ((repeat (first | exact List.mem_cons_self | refine List.mem_cons_of_mem _ ?_ | refine List.mem_append_right _ ?_)); done) | fail)) (by exact Try.sizeOf24) | fail "load 3.0") ?_
          refine Z.lb 1 rfl ?_
          refine Z.le rfl trivial ?_
          refine Z.ZO.call rfl rfl (by rfl) rfl rfl Try.call20 rfl (fit_any ack n A m c l _ (hx.st (hs.sub (List.nil_sublist _))) hl (by omega)) ?_
          rintro v3_2 w3_2 ⟨B1, co1, cc1, lc, xs, rfl, hj1, hj2, hxs, hpre, hy⟩
          replace hs := hs.call hy
          clear hy
          try simp only [List.cons_append, List.nil_append, List.append_nil] at hs
          rw [hE]
          refine Z.lb 3 rfl ?_
          refine Z.le rfl trivial ?_
          refine Z.ZO.alloc rfl rfl (by rfl) Try.zeroValue24 rfl hs ?_
          clear hs; intro g9 w9 hs
          refine Z.le rfl trivial ?_
          first | refine Z.ZO.storeA rfl rfl hs rfl rfl (by kernel_rfl) (by first | (simp [Value.oneCell']; done) | (refine Z.all_one ?_; assumption)) (by first | exact SX.at0 | exact SX.at1 | exact SX.at2 | exact SX.at3 | exact SX.at4 | exact SX.at5 | exact Z.at6 | exact Z.at7 | exact Z.at8 | exact Z.at9 | exact Z.at10 | exact Z.at11 | exact Z.at12) (by rfl) ?_ | refine Z.ZO.storeP rfl rfl hs rfl rfl (by kernel_rfl) (by first | (simp [Value.oneCell']; done) | (refine Z.all_one ?_; assumption)) (by first | exact SX.at0 | exact SX.at1 | exact SX.at2 | exact SX.at3 | exact SX.at4 | exact SX.at5 | exact Z.at6 | exact Z.at7 | exact Z.at8 | exact Z.at9 | exact Z.at10 | exact Z.at11 | exact Z.at12) (by first | decide | (simp; done) | (simp; omega)) ?_ | refine Z.ZO.storePR rfl rfl hs rfl rfl (by kernel_rfl) (by first | (simp [Value.oneCell']; done) | (refine Z.all_one ?_; assumption)) (by first | exact SX.at0 | exact SX.at1 | exact SX.at2 | exact SX.at3 | exact SX.at4 | exact SX.at5 | exact Z.at6 | exact Z.at7 | exact Z.at8 | exact Z.at9 | exact Z.at10 | exact Z.at11 | exact Z.at12) (by first | decide | (simp; done) | (simp; omega)) ?_
          clear hs; intro ws hs
          simp only [Nat.zero_add, Nat.add_zero, Nat.reduceAdd, Int.reduceToNat, Nat.reduceMul, List.set_cons_zero, List.set_cons_succ, List.setIfInBounds_toArray] at hs
          try simp only [Z.putL, Nat.zero_add] at hs
          refine Z.lb 1 rfl ?_
          refine Z.lnil ?_
          refine Z.only [1, 2, 3, 4, 9, 10] rfl ?_
          refine Z.nthen ?_
          refine Z.seq ?_
          refine Z.seq ?_
          refine Z.region ?_
          refine Z.lb 1 rfl ?_
          refine Z.le rfl trivial ?_
          refine Z.ZO.call rfl rfl (by rfl) rfl rfl Try.call13 rfl (num34 _ _) ?_
          rintro v4_1 w4_1 ⟨rfl, hy⟩
          replace hs := hs.call hy
          clear hy
          try simp only [List.cons_append, List.nil_append, List.append_nil] at hs
          refine Z.lb 1 rfl ?_
          refine Z.lnil ?_
          refine Z.only [1, 2, 3, 4, 9, 41] rfl ?_
          refine Z.nthen ?_
          refine Z.cond rfl (fun h => absurd h (by simp)) (fun hc4 => ?_)
          refine Z.skip ?_
          refine Z.nthen ?_
          refine Z.seq ?_
          refine Z.seq ?_
          refine Z.region ?_
          refine Z.l rfl rfl (by rfl) (Z.keepS hs) (by first | exact Z.Yd.loadA _ rfl Try.isAgg24 (fun _ => Z.cellsB (by first | ((repeat (first | exact List.mem_cons_self | refine List.mem_cons_of_mem _ ?_ | refine List.mem_append_right _ ?_)); done) | fail)) (by exact Try.sizeOf24) | fail "load 6.0") ?_
          refine Z.le rfl trivial ?_
          refine Z.ZO.call rfl rfl (by rfl) rfl rfl Try.call14 rfl (svalid_any (fitA l ack n) B1 (fitJ l ack n) cc1 (l.take (fitJ l ack n)) _ (Sl.pre (hs.slm (A := B1) (by first | ((repeat (first | exact List.mem_cons_self | refine List.mem_cons_of_mem _ ?_ | refine List.mem_append_right _ ?_)); done) | fail)) hpre) hlt (by omega)) ?_
          rintro v6_1 w6_1 ⟨rfl, hy⟩
          replace hs := hs.call hy
          clear hy
          try simp only [List.cons_append, List.nil_append, List.append_nil] at hs
          rw [hval]
          refine Z.lb 2 rfl ?_
          refine Z.yes (s := 46) (b := false) rfl ((by simp)) rfl ?_
          refine Z.l rfl rfl (by rfl) (Z.keepS hs) (by first | exact Z.Yd.loadA _ rfl Try.isAgg24 (fun _ => Z.cellsB (by first | ((repeat (first | exact List.mem_cons_self | refine List.mem_cons_of_mem _ ?_ | refine List.mem_append_right _ ?_)); done) | fail)) (by exact Try.sizeOf24) | fail "load 6.4") ?_
          refine Z.yes (s := 46) (b := false) rfl rfl rfl ?_
          refine Z.le rfl (by exact ⟨rfl, trivial⟩) ?_
          refine Z.ZO.call rfl rfl (by rfl) rfl rfl Try.call16 rfl (Size_any (fitA l ack n) B1 (fitJ l ack n) cc1 (l.take (fitJ l ack n)) _ (Sl.pre (hs.slm (A := B1) (by first | ((repeat (first | exact List.mem_cons_self | refine List.mem_cons_of_mem _ ?_ | refine List.mem_append_right _ ?_)); done) | fail)) hpre) hlt (by omega)) ?_
          rintro v6_5 w6_5 ⟨rfl, hy⟩
          replace hs := hs.call hy
          clear hy
          try simp only [List.cons_append, List.nil_append, List.append_nil] at hs
          rw [hsv]
          refine Z.lb 2 rfl ?_
          refine Z.yes (s := 46) (b := false) rfl rfl rfl ?_
          refine Z.l rfl rfl (by rfl) (Z.keepS hs) (Z.Yd.pickF rfl rfl) ?_
          refine Z.lb 1 rfl ?_
          refine Z.yes (s := 52) (b := false) rfl ((by simp; omega)) rfl ?_
          refine Z.l rfl rfl (by rfl) (Z.keepS hs) (by first | exact Z.Yd.loadA _ rfl Try.isAgg24 (fun _ => Z.cellsB (by first | ((repeat (first | exact List.mem_cons_self | refine List.mem_cons_of_mem _ ?_ | refine List.mem_append_right _ ?_)); done) | fail)) (by exact Try.sizeOf24) | fail "load 6.10") ?_
          refine Z.yes (s := 52) (b := false) rfl rfl rfl ?_
          refine Z.le rfl (by exact ⟨rfl, trivial⟩) ?_
          refine Z.ZO.call rfl rfl (by rfl) rfl rfl Try.call16 rfl (Size_any (fitA l ack n) B1 (fitJ l ack n) cc1 (l.take (fitJ l ack n)) _ (Sl.pre (hs.slm (A := B1) (by first | ((repeat (first | exact List.mem_cons_self | refine List.mem_cons_of_mem _ ?_ | refine List.mem_append_right _ ?_)); done) | fail)) hpre) hlt (by omega)) ?_
          rintro v6_11 w6_11 ⟨rfl, hy⟩
          replace hs := hs.call hy
          clear hy
          try simp only [List.cons_append, List.nil_append, List.append_nil] at hs
          rw [hsv]
          refine Z.lb 1 rfl ?_
          refine Z.yes (s := 52) (b := false) rfl rfl rfl ?_
          refine Z.l rfl rfl (by rfl) (Z.keepS hs) (Z.Yd.pickF rfl rfl) ?_
          refine Z.lb 1 rfl ?_
          refine Z.yes (s := 57) (b := false) rfl ((by simp; omega)) rfl ?_
          refine Z.l rfl rfl (by rfl) (Z.keepS hs) (Z.Yd.fieldA (m := 1) rfl (by kernel_rfl)) ?_
          refine Z.l rfl rfl (by rfl) (Z.keepS hs) (by first | exact Z.Yd.load rfl Try.isAgg22 (fun _ => Z.cellB (by first | ((repeat (first | exact List.mem_cons_self | refine List.mem_cons_of_mem _ ?_ | refine List.mem_append_right _ ?_)); done) | fail) rfl) | exact Z.Yd.load rfl Try.isAgg22 (fun _ => Z.cellO (by assumption) (by simp) (by assumption)) | fail "load 6.16") ?_
          refine Z.l rfl rfl (by rfl) (Z.keepS hs) (Z.Yd.lenS rfl Try.underlying22) ?_
          refine Z.l rfl rfl (by rfl) (Z.keepS hs) (Z.Yd.fieldA (m := 1) rfl (by kernel_rfl)) ?_
          refine Z.l rfl rfl (by rfl) (Z.keepS hs) (by first | exact Z.Yd.load rfl Try.isAgg22 (fun _ => Z.cellB (by first | ((repeat (first | exact List.mem_cons_self | refine List.mem_cons_of_mem _ ?_ | refine List.mem_append_right _ ?_)); done) | fail) rfl) | exact Z.Yd.load rfl Try.isAgg22 (fun _ => Z.cellO (by assumption) (by simp) (by assumption)) | fail "load 6.19") ?_
          refine Z.l rfl rfl (by rfl) (Z.keepS hs) (Z.Yd.lenS rfl Try.underlying22) ?_
          refine Z.lb 1 rfl ?_
          refine Z.yes (s := 57) (b := false) rfl rfl rfl ?_
          refine Z.l rfl rfl (by rfl) (Z.keepS hs) (Z.Yd.pickF rfl rfl) ?_
          refine Z.lnil ?_
          refine Z.only [2, 3, 4, 9, 65] rfl ?_
          refine Z.nthen ?_
          refine Z.cond rfl (fun h => absurd h (by simp; omega)) (fun hc6 => ?_)
          refine Z.skip ?_
          refine Z.nthen ?_
          refine Z.seq ?_
          refine Z.region ?_
          refine Z.l rfl rfl (by rfl) (Z.keepS hs) (Z.Yd.fieldA (m := 0) rfl (by kernel_rfl)) ?_
          refine Z.l rfl rfl (by rfl) (Z.keepS hs) (by first | exact Z.Yd.load rfl Try.isAgg3 (fun _ => Z.cellB (by first | ((repeat (first | exact List.mem_cons_self | refine List.mem_cons_of_mem _ ?_ | refine List.mem_append_right _ ?_)); done) | fail) rfl) | exact Z.Yd.load rfl Try.isAgg3 (fun _ => Z.cellO (by assumption) (by simp) (by assumption)) | fail "load 8.1") ?_
          refine Z.l rfl rfl (by rfl) (Z.keepS hs) (Z.Yd.fieldA (m := 0) rfl (by kernel_rfl)) ?_
          refine Z.l rfl rfl (by rfl) (Z.keepS hs) (by first | exact Z.Yd.load rfl Try.isAgg3 (fun _ => Z.cellB (by first | ((repeat (first | exact List.mem_cons_self | refine List.mem_cons_of_mem _ ?_ | refine List.mem_append_right _ ?_)); done) | fail) rfl) | exact Z.Yd.load rfl Try.isAgg3 (fun _ => Z.cellO (by assumption) (by simp) (by assumption)) | fail "load 8.3") ?_
          refine Z.l rfl rfl (by rfl) (Z.keepS hs) (Z.Yd.sub rfl rfl (fun hG => Z.wi64 (by first | omega | (have hG' := Z.gh rfl hG; simp at hG'; omega)))) ?_
          refine Z.l rfl rfl (by rfl) (Z.keepS hs) (Z.Yd.add rfl rfl (fun hG => Z.wi64 (by first | omega | (have hG' := Z.gh rfl hG; simp at hG'; omega)))) ?_
          refine Z.l rfl rfl (by rfl) (Z.keepS hs) (Z.Yd.rem rfl rfl (by intro hG; first | decide | omega) (by intro hG; first | exact Z.tmodn (by omega) | exact rfl)) ?_
          refine Z.lb 1 rfl ?_
          refine Z.lnil ?_
          refine Z.only [2, 3, 4, 9, 11] rfl ?_
          rw [hcd]
          refine Z.nthen ?_
          refine Z.seq ?_
          refine Z.seq ?_
          refine Z.region ?_
          refine Z.lb 3 rfl ?_
          refine Z.yes (s := 75) (b := false) rfl ((by simp; omega)) rfl ?_
          refine Z.lb 3 rfl ?_
          refine Z.yes (s := 75) (b := false) rfl rfl rfl ?_
          refine Z.l rfl rfl (by rfl) (Z.keepS hs) (Z.Yd.pickF rfl rfl) ?_
          refine Z.lnil ?_
          refine Z.only [2, 3, 4, 9, 11, 79] rfl ?_
          refine Z.nthen ?_
          refine Z.cond rfl (fun hc9 => ?_) (fun hc9 => ?_)
          · first
              | (exfalso; simp at hc9 <;> omega)
              | (
                (try simp at hc9)
                refine Z.seq ?_
                refine Z.region ?_
                refine Z.lb 3 rfl ?_
                refine Z.yes (s := 82) (b := true) rfl ((by simp; omega)) rfl ?_
                refine Z.le rfl (by exact ⟨rfl, trivial⟩) ?_
                refine Z.ZO.call rfl rfl (by rfl) rfl rfl Try.call9 rfl (works34 _) ?_
                rintro v10_3 w10_3 ⟨rfl, hy⟩
                replace hs := hs.call hy
                clear hy
                try simp only [List.cons_append, List.nil_append, List.append_nil] at hs
                refine Z.l rfl rfl (by rfl) (Z.keepS hs) (Z.Yd.pickT rfl rfl) ?_
                refine Z.lb 1 rfl ?_
                refine Z.lnil ?_
                refine Z.only [8] rfl ?_
                refine Z.nthen ?_
                refine Z.ret ?_
                repeat (first | refine Z.rthen ?_ | refine Z.rblock ?_ | refine Z.rscope ?_)
                -- ret#0
                refine Z.out1 (by exact ⟨rfl, trivial⟩) ?_
                first | exact ⟨_, rfl, rfl, hs⟩ | exact ⟨_, rfl, rfl, hs.sub (List.nil_sublist _)⟩
                )
          · first
              | (exfalso; simp at hc9 <;> omega)
              | (
                (try simp at hc9)
                refine Z.skip ?_
                refine Z.nthen ?_
                refine Z.seq ?_
                refine Z.region ?_
                refine Z.l rfl rfl (by rfl) (Z.keepS hs) (by first | exact Z.Yd.loadA _ rfl Try.isAgg24 (fun _ => Z.cellsB (by first | ((repeat (first | exact List.mem_cons_self | refine List.mem_cons_of_mem _ ?_ | refine List.mem_append_right _ ?_)); done) | fail)) (by exact Try.sizeOf24) | fail "load 11.0") ?_
                refine Z.l rfl rfl (by rfl) (Z.keepS hs) (Z.Yd.fieldA (m := 0) rfl (by kernel_rfl)) ?_
                refine Z.l rfl rfl (by rfl) (Z.keepS hs) (by first | exact Z.Yd.load rfl Try.isAgg3 (fun _ => Z.cellB (by first | ((repeat (first | exact List.mem_cons_self | refine List.mem_cons_of_mem _ ?_ | refine List.mem_append_right _ ?_)); done) | fail) rfl) | exact Z.Yd.load rfl Try.isAgg3 (fun _ => Z.cellO (by assumption) (by simp) (by assumption)) | fail "load 11.2") ?_
                refine Z.lb 2 rfl ?_
                refine Z.le rfl trivial ?_
                refine Z.ZO.call rfl rfl (by rfl) rfl rfl Try.call23 rfl (received_any (fitA l ack n) ack behind a B1 (fitJ l ack n) cc1 (l.take (fitJ l ack n)) _ (Sl.pre (hs.slm (A := B1) (by first | ((repeat (first | exact List.mem_cons_self | refine List.mem_cons_of_mem _ ?_ | refine List.mem_append_right _ ?_)); done) | fail)) hpre) hlt (by omega) hna hack h2) ?_
                rintro v11_5 w11_5 ⟨rfl, hy⟩
                replace hs := hs.call hy
                clear hy
                try simp only [List.cons_append, List.nil_append, List.append_nil] at hs
                refine Z.lb 2 rfl ?_
                refine Z.split (s := 92) rfl (fun hsp92 => ?_) (fun hsp92 => ?_)
                · first
                    | (exfalso; simp at hsp92 <;> omega)
                    | (
                      refine Z.yes (s := 92) (b := true) rfl hsp92 rfl ?_
                      (try simp at hsp92)
                      refine Z.ls rfl rfl rfl (by rfl) ?_
                      refine Z.ls rfl rfl rfl (by rfl) ?_
                      refine Z.ls rfl rfl rfl (by rfl) ?_
                      refine Z.ls rfl rfl rfl (by rfl) ?_
                      refine Z.ls rfl rfl rfl (by rfl) ?_
                      refine Z.ls rfl rfl rfl (by rfl) ?_
                      refine Z.l rfl rfl (by rfl) (Z.keepS hs) (Z.Yd.pickT rfl rfl) ?_
                      refine Z.lb 1 rfl ?_
                      refine Z.yes (s := 100) (b := true) rfl ((by simp_all)) rfl ?_
                      refine Z.le rfl (by exact ⟨rfl, trivial⟩) ?_
                      refine Z.ZO.call rfl rfl (by rfl) rfl rfl Try.call9 rfl (works34 _) ?_
                      rintro v11_16 w11_16 ⟨rfl, hy⟩
                      replace hs := hs.call hy
                      clear hy
                      try simp only [List.cons_append, List.nil_append, List.append_nil] at hs
                      refine Z.l rfl rfl (by rfl) (Z.keepS hs) (Z.Yd.pickT rfl rfl) ?_
                      refine Z.lb 1 rfl ?_
                      refine Z.lnil ?_
                      refine Z.only [8] rfl ?_
                      refine Z.nthen ?_
                      refine Z.ret ?_
                      -- ret#1
                      refine Z.out1 (by exact ⟨rfl, trivial⟩) ?_
                      first | exact ⟨_, rfl, rfl, hs⟩ | exact ⟨_, rfl, rfl, hs.sub (List.nil_sublist _)⟩
                      )
                · first
                    | (exfalso; simp at hsp92 <;> omega)
                    | (
                      refine Z.yes (s := 92) (b := false) rfl hsp92 rfl ?_
                      (try simp at hsp92)
                      have hr := hrcv (by omega) (by assumption)
                      refine Z.l rfl rfl (by rfl) (Z.keepS hs) (by first | exact Z.Yd.loadA _ rfl Try.isAgg24 (fun _ => Z.cellsB (by first | ((repeat (first | exact List.mem_cons_self | refine List.mem_cons_of_mem _ ?_ | refine List.mem_append_right _ ?_)); done) | fail)) (by exact Try.sizeOf24) | fail "load 11.8") ?_
                      refine Z.l rfl rfl (by rfl) (Z.keepS hs) (Z.Yd.fieldA (m := 0) rfl (by kernel_rfl)) ?_
                      refine Z.l rfl rfl (by rfl) (Z.keepS hs) (by first | exact Z.Yd.load rfl Try.isAgg3 (fun _ => Z.cellB (by first | ((repeat (first | exact List.mem_cons_self | refine List.mem_cons_of_mem _ ?_ | refine List.mem_append_right _ ?_)); done) | fail) rfl) | exact Z.Yd.load rfl Try.isAgg3 (fun _ => Z.cellO (by assumption) (by simp) (by assumption)) | fail "load 11.10") ?_
                      refine Z.lb 2 rfl ?_
                      refine Z.yes (s := 92) (b := false) rfl rfl rfl ?_
                      refine Z.le rfl (by exact ⟨rfl, trivial⟩) ?_
                      refine Z.ZO.call rfl rfl (by rfl) rfl rfl Try.call23 rfl (received_any ack ack behind a A m c l _ (hx.st (hs.sub (List.nil_sublist _))) hl (by omega) hack hack h2) ?_
                      rintro v11_13 w11_13 ⟨rfl, hy⟩
                      replace hs := hs.call hy
                      clear hy
                      try simp only [List.cons_append, List.nil_append, List.append_nil] at hs
                      refine Z.l rfl rfl (by rfl) (Z.keepS hs) (Z.Yd.pickF rfl rfl) ?_
                      refine Z.lb 1 rfl ?_
                      refine Z.yes (s := 100) (b := true) rfl ((by simp_all)) rfl ?_
                      refine Z.le rfl (by exact ⟨rfl, trivial⟩) ?_
                      refine Z.ZO.call rfl rfl (by rfl) rfl rfl Try.call9 rfl (works34 _) ?_
                      rintro v11_16 w11_16 ⟨rfl, hy⟩
                      replace hs := hs.call hy
                      clear hy
                      try simp only [List.cons_append, List.nil_append, List.append_nil] at hs
                      refine Z.l rfl rfl (by rfl) (Z.keepS hs) (Z.Yd.pickT rfl rfl) ?_
                      refine Z.lb 1 rfl ?_
                      refine Z.lnil ?_
                      refine Z.only [8] rfl ?_
                      refine Z.nthen ?_
                      refine Z.ret ?_
                      -- ret#2
                      refine Z.out1 (by exact ⟨rfl, trivial⟩) ?_
                      first | exact ⟨_, rfl, rfl, hs⟩ | exact ⟨_, rfl, rfl, hs.sub (List.nil_sublist _)⟩
                      )
                )
      · cases hE2
    · skip
      refine Z.enter Try.func7 rfl Try.ntmps7 rfl rfl ?_
      refine Z.seq ?_
      refine Z.region ?_
      refine Z.le rfl trivial ?_
      refine Z.ZO.box rfl rfl (by rfl) rfl rfl hs ?_
      clear hs; intro g4 w4 hs
      refine Z.lb 1 rfl ?_
      refine Z.lnil ?_
      refine Z.only [1, 2, 3, 4] rfl ?_
      refine Z.nthen ?_
      refine Z.seq ?_
      refine Z.seq ?_
      refine Z.region ?_
      refine Z.l rfl rfl (by rfl) (Z.keepS hs) (Z.Yd.fieldA (m := 1) rfl (by kernel_rfl)) ?_
      refine Z.l rfl rfl (by rfl) (Z.keepS hs) (by first | exact Z.Yd.load rfl Try.isAgg22 (fun _ => Z.cellB (by first | ((repeat (first | exact List.mem_cons_self | refine List.mem_cons_of_mem _ ?_ | refine List.mem_append_right _ ?_)); done) | fail) rfl) | exact Z.Yd.load rfl Try.isAgg22 (fun _ => Z.cellO (by assumption) (by simp) (by assumption)) | fail "load 1.1") ?_
      refine Z.l rfl rfl (by rfl) (Z.keepS hs) (Z.Yd.lenS rfl Try.underlying22) ?_
      refine Z.lb 2 rfl ?_
      refine Z.yes (s := 16) (b := false) rfl ((by simp; omega)) rfl ?_
      refine Z.lb 2 rfl ?_
      refine Z.yes (s := 16) (b := false) rfl rfl rfl ?_
      refine Z.l rfl rfl (by rfl) (Z.keepS hs) (Z.Yd.pickF rfl rfl) ?_
      refine Z.lb 1 rfl ?_
      refine Z.yes (s := 20) (b := false) rfl ((by simp; omega)) rfl ?_
      refine Z.lb 2 rfl ?_
      refine Z.yes (s := 20) (b := false) rfl rfl rfl ?_
      refine Z.l rfl rfl (by rfl) (Z.keepS hs) (Z.Yd.pickF rfl rfl) ?_
      refine Z.lb 1 rfl ?_
      refine Z.yes (s := 24) (b := false) rfl ((by simp; omega)) rfl ?_
      refine Z.lb 2 rfl ?_
      refine Z.yes (s := 24) (b := false) rfl rfl rfl ?_
      refine Z.l rfl rfl (by rfl) (Z.keepS hs) (Z.Yd.pickF rfl rfl) ?_
      refine Z.lb 1 rfl ?_
      refine Z.yes (s := 28) (b := false) rfl ((by simp; omega)) rfl ?_
      refine Z.lb 2 rfl ?_
      refine Z.yes (s := 28) (b := false) rfl rfl rfl ?_
      refine Z.l rfl rfl (by rfl) (Z.keepS hs) (Z.Yd.pickF rfl rfl) ?_
      refine Z.lnil ?_
      refine Z.only [1, 2, 3, 4, 31] rfl ?_
      refine Z.nthen ?_
      refine Z.cond rfl (fun h => absurd h (by simp; omega)) (fun hc1 => ?_)
      refine Z.skip ?_
      refine Z.nthen ?_
      refine Z.seq ?_
      refine Z.region ?_
      refine Z.l rfl rfl (by rfl) (Z.keepS hs) (by first | exact Z.Yd.loadA _ rfl Try.isAgg24 (fun _ => Z.cellsB (by first | ((repeat (first | exact List.mem_cons_self | refine List.mem_cons_of_mem _ ?_ | refine List.mem_append_right _ ?_)); done) | fail)) (by exact Try.sizeOf24) | fail "load 3.0") ?_
      refine Z.lb 1 rfl ?_
      refine Z.le rfl trivial ?_
      refine Z.ZO.call rfl rfl (by rfl) rfl rfl Try.call20 rfl (fit_any ack n A m c l _ (hx.st (hs.sub (List.nil_sublist _))) hl (by omega)) ?_
      rintro v3_2 w3_2 ⟨B1, co1, cc1, lc, xs, rfl, hj1, hj2, hxs, hpre, hy⟩
      replace hs := hs.call hy
      clear hy
      try simp only [List.cons_append, List.nil_append, List.append_nil] at hs
      refine Z.lb 3 rfl ?_
      refine Z.le rfl trivial ?_
      refine Z.ZO.alloc rfl rfl (by rfl) Try.zeroValue24 rfl hs ?_
      clear hs; intro g9 w9 hs
      refine Z.le rfl trivial ?_
      first | refine Z.ZO.storeA rfl rfl hs rfl rfl (by kernel_rfl) (by first | (simp [Value.oneCell']; done) | (refine Z.all_one ?_; assumption)) (by first | exact SX.at0 | exact SX.at1 | exact SX.at2 | exact SX.at3 | exact SX.at4 | exact SX.at5 | exact Z.at6 | exact Z.at7 | exact Z.at8 | exact Z.at9 | exact Z.at10 | exact Z.at11 | exact Z.at12) (by rfl) ?_ | refine Z.ZO.storeP rfl rfl hs rfl rfl (by kernel_rfl) (by first | (simp [Value.oneCell']; done) | (refine Z.all_one ?_; assumption)) (by first | exact SX.at0 | exact SX.at1 | exact SX.at2 | exact SX.at3 | exact SX.at4 | exact SX.at5 | exact Z.at6 | exact Z.at7 | exact Z.at8 | exact Z.at9 | exact Z.at10 | exact Z.at11 | exact Z.at12) (by first | decide | (simp; done) | (simp; omega)) ?_ | refine Z.ZO.storePR rfl rfl hs rfl rfl (by kernel_rfl) (by first | (simp [Value.oneCell']; done) | (refine Z.all_one ?_; assumption)) (by first | exact SX.at0 | exact SX.at1 | exact SX.at2 | exact SX.at3 | exact SX.at4 | exact SX.at5 | exact Z.at6 | exact Z.at7 | exact Z.at8 | exact Z.at9 | exact Z.at10 | exact Z.at11 | exact Z.at12) (by first | decide | (simp; done) | (simp; omega)) ?_
      clear hs; intro ws hs
      simp only [Nat.zero_add, Nat.add_zero, Nat.reduceAdd, Int.reduceToNat, Nat.reduceMul, List.set_cons_zero, List.set_cons_succ, List.setIfInBounds_toArray] at hs
      try simp only [Z.putL, Nat.zero_add] at hs
      refine Z.lb 1 rfl ?_
      refine Z.lnil ?_
      refine Z.only [1, 2, 3, 4, 9, 10] rfl ?_
      refine Z.nthen ?_
      refine Z.seq ?_
      refine Z.seq ?_
      refine Z.region ?_
      refine Z.lb 1 rfl ?_
      refine Z.le rfl trivial ?_
      refine Z.ZO.call rfl rfl (by rfl) rfl rfl Try.call13 rfl (num34 _ _) ?_
      rintro v4_1 w4_1 ⟨rfl, hy⟩
      replace hs := hs.call hy
      clear hy
      try simp only [List.cons_append, List.nil_append, List.append_nil] at hs
      refine Z.lb 1 rfl ?_
      refine Z.lnil ?_
      refine Z.only [1, 2, 3, 4, 9, 41] rfl ?_
      refine Z.nthen ?_
      refine Z.cond rfl (fun hc4 => ?_) (fun h => absurd h (by simpa using hE))
      refine Z.seq ?_
      refine Z.region ?_
      refine Z.le rfl trivial ?_
      refine Z.ZO.call rfl rfl (by rfl) rfl rfl Try.call9 rfl (works34 _) ?_
      rintro v5_0 w5_0 ⟨rfl, hy⟩
      replace hs := hs.call hy
      clear hy
      try simp only [List.cons_append, List.nil_append, List.append_nil] at hs
      refine Z.lb 1 rfl ?_
      refine Z.lnil ?_
      refine Z.only [8] rfl ?_
      refine Z.nthen ?_
      refine Z.ret ?_
      repeat (first | refine Z.rthen ?_ | refine Z.rblock ?_ | refine Z.rscope ?_)
      -- ret#0
      refine Z.out1 (by exact ⟨rfl, trivial⟩) ?_
      first | exact ⟨_, rfl, rfl, hs⟩ | exact ⟨_, rfl, rfl, hs.sub (List.nil_sublist _)⟩
  · skip
    refine Z.enter Try.func7 rfl Try.ntmps7 rfl rfl ?_
    refine Z.seq ?_
    refine Z.region ?_
    refine Z.le rfl trivial ?_
    refine Z.ZO.box rfl rfl (by rfl) rfl rfl hs ?_
    clear hs; intro g4 w4 hs
    refine Z.lb 1 rfl ?_
    refine Z.lnil ?_
    refine Z.only [1, 2, 3, 4] rfl ?_
    refine Z.nthen ?_
    refine Z.seq ?_
    refine Z.seq ?_
    refine Z.region ?_
    refine Z.l rfl rfl (by rfl) (Z.keepS hs) (Z.Yd.fieldA (m := 1) rfl (by kernel_rfl)) ?_
    refine Z.l rfl rfl (by rfl) (Z.keepS hs) (by first | exact Z.Yd.load rfl Try.isAgg22 (fun _ => Z.cellB (by first | ((repeat (first | exact List.mem_cons_self | refine List.mem_cons_of_mem _ ?_ | refine List.mem_append_right _ ?_)); done) | fail) rfl) | exact Z.Yd.load rfl Try.isAgg22 (fun _ => Z.cellO (by assumption) (by simp) (by assumption)) | fail "load 1.1") ?_
    refine Z.l rfl rfl (by rfl) (Z.keepS hs) (Z.Yd.lenS rfl Try.underlying22) ?_
    refine Z.lb 2 rfl ?_
    refine Z.split (s := 16) rfl (fun hsp16 => ?_) (fun hsp16 => ?_)
    · first
        | (exfalso; simp at hsp16 <;> omega)
        | (
          refine Z.yes (s := 16) (b := true) rfl hsp16 rfl ?_
          (try simp at hsp16)
          refine Z.ls rfl rfl rfl (by rfl) ?_
          refine Z.ls rfl rfl rfl (by rfl) ?_
          refine Z.l rfl rfl (by rfl) (Z.keepS hs) (Z.Yd.pickT rfl rfl) ?_
          refine Z.lb 1 rfl ?_
          refine Z.split (s := 20) rfl (fun hsp20 => ?_) (fun hsp20 => ?_)
          · first
              | (exfalso; simp at hsp20 <;> omega)
              | (
                refine Z.yes (s := 20) (b := true) rfl hsp20 rfl ?_
                (try simp at hsp20)
                refine Z.ls rfl rfl rfl (by rfl) ?_
                refine Z.ls rfl rfl rfl (by rfl) ?_
                refine Z.l rfl rfl (by rfl) (Z.keepS hs) (Z.Yd.pickT rfl rfl) ?_
                refine Z.lb 1 rfl ?_
                refine Z.split (s := 24) rfl (fun hsp24 => ?_) (fun hsp24 => ?_)
                · first
                    | (exfalso; simp at hsp24 <;> omega)
                    | (
                      refine Z.yes (s := 24) (b := true) rfl hsp24 rfl ?_
                      (try simp at hsp24)
                      refine Z.ls rfl rfl rfl (by rfl) ?_
                      refine Z.ls rfl rfl rfl (by rfl) ?_
                      refine Z.l rfl rfl (by rfl) (Z.keepS hs) (Z.Yd.pickT rfl rfl) ?_
                      refine Z.lb 1 rfl ?_
                      refine Z.split (s := 28) rfl (fun hsp28 => ?_) (fun hsp28 => ?_)
                      · first
                          | (exfalso; simp at hsp28 <;> omega)
                          | (
                            refine Z.yes (s := 28) (b := true) rfl hsp28 rfl ?_
                            (try simp at hsp28)
                            refine Z.ls rfl rfl rfl (by rfl) ?_
                            refine Z.ls rfl rfl rfl (by rfl) ?_
                            refine Z.l rfl rfl (by rfl) (Z.keepS hs) (Z.Yd.pickT rfl rfl) ?_
                            refine Z.lnil ?_
                            refine Z.only [1, 2, 3, 4, 31] rfl ?_
                            refine Z.nthen ?_
                            refine Z.cond rfl (fun hc1 => ?_) (fun h => absurd h (by first | (simp; done) | (simp; omega)))
                            refine Z.seq ?_
                            refine Z.region ?_
                            refine Z.le rfl trivial ?_
                            refine Z.ZO.call rfl rfl (by rfl) rfl rfl Try.call9 rfl (works34 _) ?_
                            rintro v2_0 w2_0 ⟨rfl, hy⟩
                            replace hs := hs.call hy
                            clear hy
                            try simp only [List.cons_append, List.nil_append, List.append_nil] at hs
                            refine Z.lb 1 rfl ?_
                            refine Z.lnil ?_
                            refine Z.only [8] rfl ?_
                            refine Z.nthen ?_
                            refine Z.ret ?_
                            repeat (first | refine Z.rthen ?_ | refine Z.rblock ?_ | refine Z.rscope ?_)
                            -- ret#0
                            refine Z.out1 (by exact ⟨rfl, trivial⟩) ?_
                            first | exact ⟨_, rfl, rfl, hs⟩ | exact ⟨_, rfl, rfl, hs.sub (List.nil_sublist _)⟩
                            )
                      · first
                          | (exfalso; simp at hsp28 <;> omega)
                          | (
                            refine Z.yes (s := 28) (b := false) rfl hsp28 rfl ?_
                            (try simp at hsp28)
                            refine Z.lb 2 rfl ?_
                            refine Z.yes (s := 28) (b := false) rfl rfl rfl ?_
                            refine Z.l rfl rfl (by rfl) (Z.keepS hs) (Z.Yd.pickF rfl rfl) ?_
                            refine Z.lnil ?_
                            refine Z.only [1, 2, 3, 4, 31] rfl ?_
                            refine Z.nthen ?_
                            refine Z.cond rfl (fun hc1 => ?_) (fun h => absurd h (by first | (simp; done) | (simp; omega)))
                            refine Z.seq ?_
                            refine Z.region ?_
                            refine Z.le rfl trivial ?_
                            refine Z.ZO.call rfl rfl (by rfl) rfl rfl Try.call9 rfl (works34 _) ?_
                            rintro v2_0 w2_0 ⟨rfl, hy⟩
                            replace hs := hs.call hy
                            clear hy
                            try simp only [List.cons_append, List.nil_append, List.append_nil] at hs
                            refine Z.lb 1 rfl ?_
                            refine Z.lnil ?_
                            refine Z.only [8] rfl ?_
                            refine Z.nthen ?_
                            refine Z.ret ?_
                            repeat (first | refine Z.rthen ?_ | refine Z.rblock ?_ | refine Z.rscope ?_)
                            -- ret#1
                            refine Z.out1 (by exact ⟨rfl, trivial⟩) ?_
                            first | exact ⟨_, rfl, rfl, hs⟩ | exact ⟨_, rfl, rfl, hs.sub (List.nil_sublist _)⟩
                            )
                      )
                · first
                    | (exfalso; simp at hsp24 <;> omega)
                    | (
                      refine Z.yes (s := 24) (b := false) rfl hsp24 rfl ?_
                      (try simp at hsp24)
                      refine Z.lb 2 rfl ?_
                      refine Z.yes (s := 24) (b := false) rfl rfl rfl ?_
                      refine Z.l rfl rfl (by rfl) (Z.keepS hs) (Z.Yd.pickF rfl rfl) ?_
                      refine Z.lb 1 rfl ?_
                      refine Z.split (s := 28) rfl (fun hsp28 => ?_) (fun hsp28 => ?_)
                      · first
                          | (exfalso; simp at hsp28 <;> omega)
                          | (
                            refine Z.yes (s := 28) (b := true) rfl hsp28 rfl ?_
                            (try simp at hsp28)
                            refine Z.ls rfl rfl rfl (by rfl) ?_
                            refine Z.ls rfl rfl rfl (by rfl) ?_
                            refine Z.l rfl rfl (by rfl) (Z.keepS hs) (Z.Yd.pickT rfl rfl) ?_
                            refine Z.lnil ?_
                            refine Z.only [1, 2, 3, 4, 31] rfl ?_
                            refine Z.nthen ?_
                            refine Z.cond rfl (fun hc1 => ?_) (fun h => absurd h (by first | (simp; done) | (simp; omega)))
                            refine Z.seq ?_
                            refine Z.region ?_
                            refine Z.le rfl trivial ?_
                            refine Z.ZO.call rfl rfl (by rfl) rfl rfl Try.call9 rfl (works34 _) ?_
                            rintro v2_0 w2_0 ⟨rfl, hy⟩
                            replace hs := hs.call hy
                            clear hy
                            try simp only [List.cons_append, List.nil_append, List.append_nil] at hs
                            refine Z.lb 1 rfl ?_
                            refine Z.lnil ?_
                            refine Z.only [8] rfl ?_
                            refine Z.nthen ?_
                            refine Z.ret ?_
                            repeat (first | refine Z.rthen ?_ | refine Z.rblock ?_ | refine Z.rscope ?_)
                            -- ret#2
                            refine Z.out1 (by exact ⟨rfl, trivial⟩) ?_
                            first | exact ⟨_, rfl, rfl, hs⟩ | exact ⟨_, rfl, rfl, hs.sub (List.nil_sublist _)⟩
                            )
                      · first
                          | (exfalso; simp at hsp28 <;> omega)
                          | (
                            refine Z.yes (s := 28) (b := false) rfl hsp28 rfl ?_
                            (try simp at hsp28)
                            refine Z.lb 2 rfl ?_
                            refine Z.yes (s := 28) (b := false) rfl rfl rfl ?_
                            refine Z.l rfl rfl (by rfl) (Z.keepS hs) (Z.Yd.pickF rfl rfl) ?_
                            refine Z.lnil ?_
                            refine Z.only [1, 2, 3, 4, 31] rfl ?_
                            refine Z.nthen ?_
                            refine Z.cond rfl (fun hc1 => ?_) (fun h => absurd h (by first | (simp; done) | (simp; omega)))
                            refine Z.seq ?_
                            refine Z.region ?_
                            refine Z.le rfl trivial ?_
                            refine Z.ZO.call rfl rfl (by rfl) rfl rfl Try.call9 rfl (works34 _) ?_
                            rintro v2_0 w2_0 ⟨rfl, hy⟩
                            replace hs := hs.call hy
                            clear hy
                            try simp only [List.cons_append, List.nil_append, List.append_nil] at hs
                            refine Z.lb 1 rfl ?_
                            refine Z.lnil ?_
                            refine Z.only [8] rfl ?_
                            refine Z.nthen ?_
                            refine Z.ret ?_
                            repeat (first | refine Z.rthen ?_ | refine Z.rblock ?_ | refine Z.rscope ?_)
                            -- ret#3
                            refine Z.out1 (by exact ⟨rfl, trivial⟩) ?_
                            first | exact ⟨_, rfl, rfl, hs⟩ | exact ⟨_, rfl, rfl, hs.sub (List.nil_sublist _)⟩
                            )
                      )
                )
          · first
              | (exfalso; simp at hsp20 <;> omega)
              | (
                refine Z.yes (s := 20) (b := false) rfl hsp20 rfl ?_
                (try simp at hsp20)
                refine Z.lb 2 rfl ?_
                refine Z.yes (s := 20) (b := false) rfl rfl rfl ?_
                refine Z.l rfl rfl (by rfl) (Z.keepS hs) (Z.Yd.pickF rfl rfl) ?_
                refine Z.lb 1 rfl ?_
                refine Z.split (s := 24) rfl (fun hsp24 => ?_) (fun hsp24 => ?_)
                · first
                    | (exfalso; simp at hsp24 <;> omega)
                    | (
                      refine Z.yes (s := 24) (b := true) rfl hsp24 rfl ?_
                      (try simp at hsp24)
                      refine Z.ls rfl rfl rfl (by rfl) ?_
                      refine Z.ls rfl rfl rfl (by rfl) ?_
                      refine Z.l rfl rfl (by rfl) (Z.keepS hs) (Z.Yd.pickT rfl rfl) ?_
                      refine Z.lb 1 rfl ?_
                      refine Z.split (s := 28) rfl (fun hsp28 => ?_) (fun hsp28 => ?_)
                      · first
                          | (exfalso; simp at hsp28 <;> omega)
                          | (
                            refine Z.yes (s := 28) (b := true) rfl hsp28 rfl ?_
                            (try simp at hsp28)
                            refine Z.ls rfl rfl rfl (by rfl) ?_
                            refine Z.ls rfl rfl rfl (by rfl) ?_
                            refine Z.l rfl rfl (by rfl) (Z.keepS hs) (Z.Yd.pickT rfl rfl) ?_
                            refine Z.lnil ?_
                            refine Z.only [1, 2, 3, 4, 31] rfl ?_
                            refine Z.nthen ?_
                            refine Z.cond rfl (fun hc1 => ?_) (fun h => absurd h (by first | (simp; done) | (simp; omega)))
                            refine Z.seq ?_
                            refine Z.region ?_
                            refine Z.le rfl trivial ?_
                            refine Z.ZO.call rfl rfl (by rfl) rfl rfl Try.call9 rfl (works34 _) ?_
                            rintro v2_0 w2_0 ⟨rfl, hy⟩
                            replace hs := hs.call hy
                            clear hy
                            try simp only [List.cons_append, List.nil_append, List.append_nil] at hs
                            refine Z.lb 1 rfl ?_
                            refine Z.lnil ?_
                            refine Z.only [8] rfl ?_
                            refine Z.nthen ?_
                            refine Z.ret ?_
                            repeat (first | refine Z.rthen ?_ | refine Z.rblock ?_ | refine Z.rscope ?_)
                            -- ret#4
                            refine Z.out1 (by exact ⟨rfl, trivial⟩) ?_
                            first | exact ⟨_, rfl, rfl, hs⟩ | exact ⟨_, rfl, rfl, hs.sub (List.nil_sublist _)⟩
                            )
                      · first
                          | (exfalso; simp at hsp28 <;> omega)
                          | (
                            refine Z.yes (s := 28) (b := false) rfl hsp28 rfl ?_
                            (try simp at hsp28)
                            refine Z.lb 2 rfl ?_
                            refine Z.yes (s := 28) (b := false) rfl rfl rfl ?_
                            refine Z.l rfl rfl (by rfl) (Z.keepS hs) (Z.Yd.pickF rfl rfl) ?_
                            refine Z.lnil ?_
                            refine Z.only [1, 2, 3, 4, 31] rfl ?_
                            refine Z.nthen ?_
                            refine Z.cond rfl (fun hc1 => ?_) (fun h => absurd h (by first | (simp; done) | (simp; omega)))
                            refine Z.seq ?_
                            refine Z.region ?_
                            refine Z.le rfl trivial ?_
                            refine Z.ZO.call rfl rfl (by rfl) rfl rfl Try.call9 rfl (works34 _) ?_
                            rintro v2_0 w2_0 ⟨rfl, hy⟩
                            replace hs := hs.call hy
                            clear hy
                            try simp only [List.cons_append, List.nil_append, List.append_nil] at hs
                            refine Z.lb 1 rfl ?_
                            refine Z.lnil ?_
                            refine Z.only [8] rfl ?_
                            refine Z.nthen ?_
                            refine Z.ret ?_
                            repeat (first | refine Z.rthen ?_ | refine Z.rblock ?_ | refine Z.rscope ?_)
                            -- ret#5
                            refine Z.out1 (by exact ⟨rfl, trivial⟩) ?_
                            first | exact ⟨_, rfl, rfl, hs⟩ | exact ⟨_, rfl, rfl, hs.sub (List.nil_sublist _)⟩
                            )
                      )
                · first
                    | (exfalso; simp at hsp24 <;> omega)
                    | (
                      refine Z.yes (s := 24) (b := false) rfl hsp24 rfl ?_
                      (try simp at hsp24)
                      refine Z.lb 2 rfl ?_
                      refine Z.yes (s := 24) (b := false) rfl rfl rfl ?_
                      refine Z.l rfl rfl (by rfl) (Z.keepS hs) (Z.Yd.pickF rfl rfl) ?_
                      refine Z.lb 1 rfl ?_
                      refine Z.split (s := 28) rfl (fun hsp28 => ?_) (fun hsp28 => ?_)
                      · first
                          | (exfalso; simp at hsp28 <;> omega)
                          | (
                            refine Z.yes (s := 28) (b := true) rfl hsp28 rfl ?_
                            (try simp at hsp28)
                            refine Z.ls rfl rfl rfl (by rfl) ?_
                            refine Z.ls rfl rfl rfl (by rfl) ?_
                            refine Z.l rfl rfl (by rfl) (Z.keepS hs) (Z.Yd.pickT rfl rfl) ?_
                            refine Z.lnil ?_
                            refine Z.only [1, 2, 3, 4, 31] rfl ?_
                            refine Z.nthen ?_
                            refine Z.cond rfl (fun hc1 => ?_) (fun h => absurd h (by first | (simp; done) | (simp; omega)))
                            refine Z.seq ?_
                            refine Z.region ?_
                            refine Z.le rfl trivial ?_
                            refine Z.ZO.call rfl rfl (by rfl) rfl rfl Try.call9 rfl (works34 _) ?_
                            rintro v2_0 w2_0 ⟨rfl, hy⟩
                            replace hs := hs.call hy
                            clear hy
                            try simp only [List.cons_append, List.nil_append, List.append_nil] at hs
                            refine Z.lb 1 rfl ?_
                            refine Z.lnil ?_
                            refine Z.only [8] rfl ?_
                            refine Z.nthen ?_
                            refine Z.ret ?_
                            repeat (first | refine Z.rthen ?_ | refine Z.rblock ?_ | refine Z.rscope ?_)
                            -- ret#6
                            refine Z.out1 (by exact ⟨rfl, trivial⟩) ?_
                            first | exact ⟨_, rfl, rfl, hs⟩ | exact ⟨_, rfl, rfl, hs.sub (List.nil_sublist _)⟩
                            )
                      · first
                          | (exfalso; simp at hsp28 <;> omega)
                          | (
                            refine Z.yes (s := 28) (b := false) rfl hsp28 rfl ?_
                            (try simp at hsp28)
                            refine Z.lb 2 rfl ?_
                            refine Z.yes (s := 28) (b := false) rfl rfl rfl ?_
                            refine Z.l rfl rfl (by rfl) (Z.keepS hs) (Z.Yd.pickF rfl rfl) ?_
                            refine Z.lnil ?_
                            refine Z.only [1, 2, 3, 4, 31] rfl ?_
                            refine Z.nthen ?_
                            refine Z.cond rfl (fun hc1 => ?_) (fun h => absurd h (by first | (simp; done) | (simp; omega)))
                            refine Z.seq ?_
                            refine Z.region ?_
                            refine Z.le rfl trivial ?_
                            refine Z.ZO.call rfl rfl (by rfl) rfl rfl Try.call9 rfl (works34 _) ?_
                            rintro v2_0 w2_0 ⟨rfl, hy⟩
                            replace hs := hs.call hy
                            clear hy
                            try simp only [List.cons_append, List.nil_append, List.append_nil] at hs
                            refine Z.lb 1 rfl ?_
                            refine Z.lnil ?_
                            refine Z.only [8] rfl ?_
                            refine Z.nthen ?_
                            refine Z.ret ?_
                            repeat (first | refine Z.rthen ?_ | refine Z.rblock ?_ | refine Z.rscope ?_)
                            -- ret#7
                            refine Z.out1 (by exact ⟨rfl, trivial⟩) ?_
                            first | exact ⟨_, rfl, rfl, hs⟩ | exact ⟨_, rfl, rfl, hs.sub (List.nil_sublist _)⟩
                            )
                      )
                )
          )
    · first
        | (exfalso; simp at hsp16 <;> omega)
        | (
          refine Z.yes (s := 16) (b := false) rfl hsp16 rfl ?_
          (try simp at hsp16)
          refine Z.lb 2 rfl ?_
          refine Z.yes (s := 16) (b := false) rfl rfl rfl ?_
          refine Z.l rfl rfl (by rfl) (Z.keepS hs) (Z.Yd.pickF rfl rfl) ?_
          refine Z.lb 1 rfl ?_
          refine Z.split (s := 20) rfl (fun hsp20 => ?_) (fun hsp20 => ?_)
          · first
              | (exfalso; simp at hsp20 <;> omega)
              | (
                refine Z.yes (s := 20) (b := true) rfl hsp20 rfl ?_
                (try simp at hsp20)
                refine Z.ls rfl rfl rfl (by rfl) ?_
                refine Z.ls rfl rfl rfl (by rfl) ?_
                refine Z.l rfl rfl (by rfl) (Z.keepS hs) (Z.Yd.pickT rfl rfl) ?_
                refine Z.lb 1 rfl ?_
                refine Z.split (s := 24) rfl (fun hsp24 => ?_) (fun hsp24 => ?_)
                · first
                    | (exfalso; simp at hsp24 <;> omega)
                    | (
                      refine Z.yes (s := 24) (b := true) rfl hsp24 rfl ?_
                      (try simp at hsp24)
                      refine Z.ls rfl rfl rfl (by rfl) ?_
                      refine Z.ls rfl rfl rfl (by rfl) ?_
                      refine Z.l rfl rfl (by rfl) (Z.keepS hs) (Z.Yd.pickT rfl rfl) ?_
                      refine Z.lb 1 rfl ?_
                      refine Z.split (s := 28) rfl (fun hsp28 => ?_) (fun hsp28 => ?_)
                      · first
                          | (exfalso; simp at hsp28 <;> omega)
                          | (
                            refine Z.yes (s := 28) (b := true) rfl hsp28 rfl ?_
                            (try simp at hsp28)
                            refine Z.ls rfl rfl rfl (by rfl) ?_
                            refine Z.ls rfl rfl rfl (by rfl) ?_
                            refine Z.l rfl rfl (by rfl) (Z.keepS hs) (Z.Yd.pickT rfl rfl) ?_
                            refine Z.lnil ?_
                            refine Z.only [1, 2, 3, 4, 31] rfl ?_
                            refine Z.nthen ?_
                            refine Z.cond rfl (fun hc1 => ?_) (fun h => absurd h (by first | (simp; done) | (simp; omega)))
                            refine Z.seq ?_
                            refine Z.region ?_
                            refine Z.le rfl trivial ?_
                            refine Z.ZO.call rfl rfl (by rfl) rfl rfl Try.call9 rfl (works34 _) ?_
                            rintro v2_0 w2_0 ⟨rfl, hy⟩
                            replace hs := hs.call hy
                            clear hy
                            try simp only [List.cons_append, List.nil_append, List.append_nil] at hs
                            refine Z.lb 1 rfl ?_
                            refine Z.lnil ?_
                            refine Z.only [8] rfl ?_
                            refine Z.nthen ?_
                            refine Z.ret ?_
                            repeat (first | refine Z.rthen ?_ | refine Z.rblock ?_ | refine Z.rscope ?_)
                            -- ret#8
                            refine Z.out1 (by exact ⟨rfl, trivial⟩) ?_
                            first | exact ⟨_, rfl, rfl, hs⟩ | exact ⟨_, rfl, rfl, hs.sub (List.nil_sublist _)⟩
                            )
                      · first
                          | (exfalso; simp at hsp28 <;> omega)
                          | (
                            refine Z.yes (s := 28) (b := false) rfl hsp28 rfl ?_
                            (try simp at hsp28)
                            refine Z.lb 2 rfl ?_
                            refine Z.yes (s := 28) (b := false) rfl rfl rfl ?_
                            refine Z.l rfl rfl (by rfl) (Z.keepS hs) (Z.Yd.pickF rfl rfl) ?_
                            refine Z.lnil ?_
                            refine Z.only [1, 2, 3, 4, 31] rfl ?_
                            refine Z.nthen ?_
                            refine Z.cond rfl (fun hc1 => ?_) (fun h => absurd h (by first | (simp; done) | (simp; omega)))
                            refine Z.seq ?_
                            refine Z.region ?_
                            refine Z.le rfl trivial ?_
                            refine Z.ZO.call rfl rfl (by rfl) rfl rfl Try.call9 rfl (works34 _) ?_
                            rintro v2_0 w2_0 ⟨rfl, hy⟩
                            replace hs := hs.call hy
                            clear hy
                            try simp only [List.cons_append, List.nil_append, List.append_nil] at hs
                            refine Z.lb 1 rfl ?_
                            refine Z.lnil ?_
                            refine Z.only [8] rfl ?_
                            refine Z.nthen ?_
                            refine Z.ret ?_
                            repeat (first | refine Z.rthen ?_ | refine Z.rblock ?_ | refine Z.rscope ?_)
                            -- ret#9
                            refine Z.out1 (by exact ⟨rfl, trivial⟩) ?_
                            first | exact ⟨_, rfl, rfl, hs⟩ | exact ⟨_, rfl, rfl, hs.sub (List.nil_sublist _)⟩
                            )
                      )
                · first
                    | (exfalso; simp at hsp24 <;> omega)
                    | (
                      refine Z.yes (s := 24) (b := false) rfl hsp24 rfl ?_
                      (try simp at hsp24)
                      refine Z.lb 2 rfl ?_
                      refine Z.yes (s := 24) (b := false) rfl rfl rfl ?_
                      refine Z.l rfl rfl (by rfl) (Z.keepS hs) (Z.Yd.pickF rfl rfl) ?_
                      refine Z.lb 1 rfl ?_
                      refine Z.split (s := 28) rfl (fun hsp28 => ?_) (fun hsp28 => ?_)
                      · first
                          | (exfalso; simp at hsp28 <;> omega)
                          | (
                            refine Z.yes (s := 28) (b := true) rfl hsp28 rfl ?_
                            (try simp at hsp28)
                            refine Z.ls rfl rfl rfl (by rfl) ?_
                            refine Z.ls rfl rfl rfl (by rfl) ?_
                            refine Z.l rfl rfl (by rfl) (Z.keepS hs) (Z.Yd.pickT rfl rfl) ?_
                            refine Z.lnil ?_
                            refine Z.only [1, 2, 3, 4, 31] rfl ?_
                            refine Z.nthen ?_
                            refine Z.cond rfl (fun hc1 => ?_) (fun h => absurd h (by first | (simp; done) | (simp; omega)))
                            refine Z.seq ?_
                            refine Z.region ?_
                            refine Z.le rfl trivial ?_
                            refine Z.ZO.call rfl rfl (by rfl) rfl rfl Try.call9 rfl (works34 _) ?_
                            rintro v2_0 w2_0 ⟨rfl, hy⟩
                            replace hs := hs.call hy
                            clear hy
                            try simp only [List.cons_append, List.nil_append, List.append_nil] at hs
                            refine Z.lb 1 rfl ?_
                            refine Z.lnil ?_
                            refine Z.only [8] rfl ?_
                            refine Z.nthen ?_
                            refine Z.ret ?_
                            repeat (first | refine Z.rthen ?_ | refine Z.rblock ?_ | refine Z.rscope ?_)
                            -- ret#10
                            refine Z.out1 (by exact ⟨rfl, trivial⟩) ?_
                            first | exact ⟨_, rfl, rfl, hs⟩ | exact ⟨_, rfl, rfl, hs.sub (List.nil_sublist _)⟩
                            )
                      · first
                          | (exfalso; simp at hsp28 <;> omega)
                          | (
                            refine Z.yes (s := 28) (b := false) rfl hsp28 rfl ?_
                            (try simp at hsp28)
                            refine Z.lb 2 rfl ?_
                            refine Z.yes (s := 28) (b := false) rfl rfl rfl ?_
                            refine Z.l rfl rfl (by rfl) (Z.keepS hs) (Z.Yd.pickF rfl rfl) ?_
                            refine Z.lnil ?_
                            refine Z.only [1, 2, 3, 4, 31] rfl ?_
                            refine Z.nthen ?_
                            refine Z.cond rfl (fun hc1 => ?_) (fun h => absurd h (by first | (simp; done) | (simp; omega)))
                            refine Z.seq ?_
                            refine Z.region ?_
                            refine Z.le rfl trivial ?_
                            refine Z.ZO.call rfl rfl (by rfl) rfl rfl Try.call9 rfl (works34 _) ?_
                            rintro v2_0 w2_0 ⟨rfl, hy⟩
                            replace hs := hs.call hy
                            clear hy
                            try simp only [List.cons_append, List.nil_append, List.append_nil] at hs
                            refine Z.lb 1 rfl ?_
                            refine Z.lnil ?_
                            refine Z.only [8] rfl ?_
                            refine Z.nthen ?_
                            refine Z.ret ?_
                            repeat (first | refine Z.rthen ?_ | refine Z.rblock ?_ | refine Z.rscope ?_)
                            -- ret#11
                            refine Z.out1 (by exact ⟨rfl, trivial⟩) ?_
                            first | exact ⟨_, rfl, rfl, hs⟩ | exact ⟨_, rfl, rfl, hs.sub (List.nil_sublist _)⟩
                            )
                      )
                )
          · first
              | (exfalso; simp at hsp20 <;> omega)
              | (
                refine Z.yes (s := 20) (b := false) rfl hsp20 rfl ?_
                (try simp at hsp20)
                refine Z.lb 2 rfl ?_
                refine Z.yes (s := 20) (b := false) rfl rfl rfl ?_
                refine Z.l rfl rfl (by rfl) (Z.keepS hs) (Z.Yd.pickF rfl rfl) ?_
                refine Z.lb 1 rfl ?_
                refine Z.split (s := 24) rfl (fun hsp24 => ?_) (fun hsp24 => ?_)
                · first
                    | (exfalso; simp at hsp24 <;> omega)
                    | (
                      refine Z.yes (s := 24) (b := true) rfl hsp24 rfl ?_
                      (try simp at hsp24)
                      refine Z.ls rfl rfl rfl (by rfl) ?_
                      refine Z.ls rfl rfl rfl (by rfl) ?_
                      refine Z.l rfl rfl (by rfl) (Z.keepS hs) (Z.Yd.pickT rfl rfl) ?_
                      refine Z.lb 1 rfl ?_
                      refine Z.split (s := 28) rfl (fun hsp28 => ?_) (fun hsp28 => ?_)
                      · first
                          | (exfalso; simp at hsp28 <;> omega)
                          | (
                            refine Z.yes (s := 28) (b := true) rfl hsp28 rfl ?_
                            (try simp at hsp28)
                            refine Z.ls rfl rfl rfl (by rfl) ?_
                            refine Z.ls rfl rfl rfl (by rfl) ?_
                            refine Z.l rfl rfl (by rfl) (Z.keepS hs) (Z.Yd.pickT rfl rfl) ?_
                            refine Z.lnil ?_
                            refine Z.only [1, 2, 3, 4, 31] rfl ?_
                            refine Z.nthen ?_
                            refine Z.cond rfl (fun hc1 => ?_) (fun h => absurd h (by first | (simp; done) | (simp; omega)))
                            refine Z.seq ?_
                            refine Z.region ?_
                            refine Z.le rfl trivial ?_
                            refine Z.ZO.call rfl rfl (by rfl) rfl rfl Try.call9 rfl (works34 _) ?_
                            rintro v2_0 w2_0 ⟨rfl, hy⟩
                            replace hs := hs.call hy
                            clear hy
                            try simp only [List.cons_append, List.nil_append, List.append_nil] at hs
                            refine Z.lb 1 rfl ?_
                            refine Z.lnil ?_
                            refine Z.only [8] rfl ?_
                            refine Z.nthen ?_
                            refine Z.ret ?_
                            repeat (first | refine Z.rthen ?_ | refine Z.rblock ?_ | refine Z.rscope ?_)
                            -- ret#12
                            refine Z.out1 (by exact ⟨rfl, trivial⟩) ?_
                            first | exact ⟨_, rfl, rfl, hs⟩ | exact ⟨_, rfl, rfl, hs.sub (List.nil_sublist _)⟩
                            )
                      · first
                          | (exfalso; simp at hsp28 <;> omega)
                          | (
                            refine Z.yes (s := 28) (b := false) rfl hsp28 rfl ?_
                            (try simp at hsp28)
                            refine Z.lb 2 rfl ?_
                            refine Z.yes (s := 28) (b := false) rfl rfl rfl ?_
                            refine Z.l rfl rfl (by rfl) (Z.keepS hs) (Z.Yd.pickF rfl rfl) ?_
                            refine Z.lnil ?_
                            refine Z.only [1, 2, 3, 4, 31] rfl ?_
                            refine Z.nthen ?_
                            refine Z.cond rfl (fun hc1 => ?_) (fun h => absurd h (by first | (simp; done) | (simp; omega)))
                            refine Z.seq ?_
                            refine Z.region ?_
                            refine Z.le rfl trivial ?_
                            refine Z.ZO.call rfl rfl (by rfl) rfl rfl Try.call9 rfl (works34 _) ?_
                            rintro v2_0 w2_0 ⟨rfl, hy⟩
                            replace hs := hs.call hy
                            clear hy
                            try simp only [List.cons_append, List.nil_append, List.append_nil] at hs
                            refine Z.lb 1 rfl ?_
                            refine Z.lnil ?_
                            refine Z.only [8] rfl ?_
                            refine Z.nthen ?_
                            refine Z.ret ?_
                            repeat (first | refine Z.rthen ?_ | refine Z.rblock ?_ | refine Z.rscope ?_)
                            -- ret#13
                            refine Z.out1 (by exact ⟨rfl, trivial⟩) ?_
                            first | exact ⟨_, rfl, rfl, hs⟩ | exact ⟨_, rfl, rfl, hs.sub (List.nil_sublist _)⟩
                            )
                      )
                · first
                    | (exfalso; simp at hsp24 <;> omega)
                    | (
                      refine Z.yes (s := 24) (b := false) rfl hsp24 rfl ?_
                      (try simp at hsp24)
                      refine Z.lb 2 rfl ?_
                      refine Z.yes (s := 24) (b := false) rfl rfl rfl ?_
                      refine Z.l rfl rfl (by rfl) (Z.keepS hs) (Z.Yd.pickF rfl rfl) ?_
                      refine Z.lb 1 rfl ?_
                      refine Z.split (s := 28) rfl (fun hsp28 => ?_) (fun hsp28 => ?_)
                      · first
                          | (exfalso; simp at hsp28 <;> omega)
                          | (
                            refine Z.yes (s := 28) (b := true) rfl hsp28 rfl ?_
                            (try simp at hsp28)
                            refine Z.ls rfl rfl rfl (by rfl) ?_
                            refine Z.ls rfl rfl rfl (by rfl) ?_
                            refine Z.l rfl rfl (by rfl) (Z.keepS hs) (Z.Yd.pickT rfl rfl) ?_
                            refine Z.lnil ?_
                            refine Z.only [1, 2, 3, 4, 31] rfl ?_
                            refine Z.nthen ?_
                            refine Z.cond rfl (fun hc1 => ?_) (fun h => absurd h (by first | (simp; done) | (simp; omega)))
                            refine Z.seq ?_
                            refine Z.region ?_
                            refine Z.le rfl trivial ?_
                            refine Z.ZO.call rfl rfl (by rfl) rfl rfl Try.call9 rfl (works34 _) ?_
                            rintro v2_0 w2_0 ⟨rfl, hy⟩
                            replace hs := hs.call hy
                            clear hy
                            try simp only [List.cons_append, List.nil_append, List.append_nil] at hs
                            refine Z.lb 1 rfl ?_
                            refine Z.lnil ?_
                            refine Z.only [8] rfl ?_
                            refine Z.nthen ?_
                            refine Z.ret ?_
                            repeat (first | refine Z.rthen ?_ | refine Z.rblock ?_ | refine Z.rscope ?_)
                            -- ret#14
                            refine Z.out1 (by exact ⟨rfl, trivial⟩) ?_
                            first | exact ⟨_, rfl, rfl, hs⟩ | exact ⟨_, rfl, rfl, hs.sub (List.nil_sublist _)⟩
                            )
                      · first
                          | (exfalso; simp at hsp28 <;> omega)
                          | (
                            refine Z.yes (s := 28) (b := false) rfl hsp28 rfl ?_
                            (try simp at hsp28)
                            refine Z.lb 2 rfl ?_
                            refine Z.yes (s := 28) (b := false) rfl rfl rfl ?_
                            refine Z.l rfl rfl (by rfl) (Z.keepS hs) (Z.Yd.pickF rfl rfl) ?_
                            refine Z.lnil ?_
                            refine Z.only [1, 2, 3, 4, 31] rfl ?_
                            refine Z.nthen ?_
                            refine Z.cond rfl (fun hc1 => ?_) (fun h => absurd h (by first | (simp; done) | (simp; omega)))
                            refine Z.seq ?_
                            refine Z.region ?_
                            refine Z.le rfl trivial ?_
                            refine Z.ZO.call rfl rfl (by rfl) rfl rfl Try.call9 rfl (works34 _) ?_
                            rintro v2_0 w2_0 ⟨rfl, hy⟩
                            replace hs := hs.call hy
                            clear hy
                            try simp only [List.cons_append, List.nil_append, List.append_nil] at hs
                            refine Z.lb 1 rfl ?_
                            refine Z.lnil ?_
                            refine Z.only [8] rfl ?_
                            refine Z.nthen ?_
                            refine Z.ret ?_
                            repeat (first | refine Z.rthen ?_ | refine Z.rblock ?_ | refine Z.rscope ?_)
                            -- ret#15
                            refine Z.out1 (by exact ⟨rfl, trivial⟩) ?_
                            first | exact ⟨_, rfl, rfl, hs⟩ | exact ⟨_, rfl, rfl, hs.sub (List.nil_sublist _)⟩
                            )
                      )
                )
          )
theorem statusSafe_rd (cs0 : Array Value) (a1 a2 a3 : Int) (w : World) (z0 : Rd Try.prog w 24 (Value.agg cs0).cells.toList) (z1 : Rd Try.prog w 3 (Value.int .i64 a1).cells.toList) (z2 : Rd Try.prog w 3 (Value.int .i64 a2).cells.toList) (z3 : Rd Try.prog w 3 (Value.int .i64 a3).cells.toList) :
    Calls Try.prog 7 #[.agg cs0, .int .i64 a1, .int .i64 a2, .int .i64 a3] w fun e w' => e = .returned (.bool true) ∧ Below w.heap.size w w' := by
  obtain ⟨ack, A, n, c, l, hr, h1, h2, h3, h4⟩ := rd_status z0
  have e : cs0 = #[.int .i64 ack, .slice A n c] := by
    have : cs0.toList = [.int .i64 ack, .slice A n c] := by simpa [Value.cells] using hr
    exact Array.toList_inj.1 this
  rw [e]
  refine (statusSafe_walk ack a1 a2 a3 A n c l w h4 h1 h2 h3).mono ?_
  rintro e w' ⟨v, rfl, rfl, h⟩
  exact ⟨rfl, h.below⟩
end Go.Proofs.Ytcieclifabbkjaa
