/- Part 7 of the proofs that lead to the statement. -/
import Derived.Test.YtogjkgoiofngaaaY6
import Derived.Test.YtogjkgoiofngaaaRows
import Derived.WalkKit
import Derived.ProofKit
import Derived.OpenShut
import Derived.ShutString
import Derived.ChangeOld
import Derived.Below
/- MAC PDUs: the examples hold. -/
namespace Go.Proofs.Ytogjkgoiofngaaa
open Go.RowKit
set_option linter.unusedSimpArgs false
set_option linter.unusedVariables false
--newlaws

def exA (B : Option Addr) : MpV := ⟨29, B, 1, [7]⟩
def exS (B : Option Addr) : MpV := ⟨3, B, 2, [1, 2]⟩
theorem ex_pl {B C : Option Addr} : [exA B, exS C].map MpV.plain = [(29, [7]), (3, [1, 2])] := rfl
theorem ex_lp {B C : Option Addr} : [exS C, exA B].map MpV.plain = [(3, [1, 2]), (29, [7])] := rfl
theorem ex_f {B C : Option Addr} : ∀ q ∈ [exA B, exS C], q.l.length ≤ 100000 := by
  intro q hq
  simp only [List.mem_cons, List.mem_nil_iff, or_false] at hq
  rcases hq with rfl | rfl <;> simp [exA, exS]
theorem ex_fr {B C : Option Addr} : ∀ q ∈ [exS C, exA B], q.l.length ≤ 100000 := by
  intro q hq
  simp only [List.mem_cons, List.mem_nil_iff, or_false] at hq
  rcases hq with rfl | rfl <;> simp [exA, exS]
theorem ex_by {B C : Option Addr} : ∀ q ∈ [exA B, exS C], ∀ x ∈ q.l, 0 ≤ x ∧ x < 256 := by
  intro q hq
  simp only [List.mem_cons, List.mem_nil_iff, or_false] at hq
  rcases hq with rfl | rfl <;> simp [exA, exS]
theorem ex_sl {w : World} {B C : Option Addr} (h1 : Sl w B (ints .u8 [7])) (h2 : Sl w C (ints .u8 [1, 2])) : ∀ q ∈ [exA B, exS C], Sl w q.B (ints .u8 q.l) := by
  intro q hq
  simp only [List.mem_cons, List.mem_nil_iff, or_false] at hq
  rcases hq with rfl | rfl
  · exact h1
  · exact h2
theorem by23 {l : List Int} (h : l.all (fun x => decide (0 ≤ x ∧ x < 256)) = true) : ∀ x ∈ l, 0 ≤ x ∧ x < 256 := fun x hx => by simpa using List.all_eq_true.1 h x hx
theorem sl_nil23 {w : World} {A : Option Addr} : Sl w A [] := fun h => absurd h (by decide)
theorem cellsQ_fst (qs : List (MpV × Nat)) : cellsQ qs = (qs.map Prod.fst).flatMap MpV.cells := by simp [cellsQ, List.flatMap_map]
theorem plainQ_fst (qs : List (MpV × Nat)) : (qs.map Prod.fst).map MpV.plain = plainQ qs := by simp [plainQ]
theorem rowsQ_sl {w0 w : World} {M : List Nat} {L : List SX.Ent} {qs : List (MpV × Nat)} (hs : SX.St w0 M w L) (h : ∀ e ∈ rowsQ qs, e ∈ L) : ∀ q ∈ qs.map Prod.fst, Sl w q.B (ints .u8 q.l) := by
  intro q hq
  obtain ⟨x, hx, rfl⟩ := List.mem_map.1 hq
  exact hs.slm (h _ (List.mem_map_of_mem hx))
theorem plain_by {qs : List (MpV × Nat)} {r : List Prt} (h : plainQ qs = r) (hr : ∀ p ∈ r, ∀ x ∈ p.2, 0 ≤ x ∧ x < 256) : ∀ q ∈ qs.map Prod.fst, ∀ x ∈ q.l, 0 ≤ x ∧ x < 256 := by
  intro q hq
  refine hr q.plain ?_
  rw [← h, ← plainQ_fst]
  exact List.mem_map_of_mem hq
set_option maxHeartbeats 4000000 in
set_option maxRecDepth 100000 in
theorem works23 (w : World) : Calls Try.prog 10 #[] w (SX.Ret fun v w' => v = .bool true ∧ SX.St w [] w' []) := by
  have hs := SX.St.start w
  have n1 : needV [(29, [7]), (3, [1, 2])] = (5, 0) := by decide +kernel
  have n2 : needV [(3, [1, 2]), (29, [7])] = (0, 2) := by decide +kernel
  have n3 : needV (([] : List MpV).map MpV.plain) = (0, 2) := by decide +kernel
  have b5 : bldV 5 [(29, [7]), (3, [1, 2])] = ([61, 3, 7, 1, 2], 0) := by decide +kernel
  have b6 : bldV 6 [(29, [7]), (3, [1, 2])] = ([63, 61, 3, 7, 1, 2], 0) := by decide +kernel
  have b9 : bldV 9 [(29, [7]), (3, [1, 2])] = ([61, 35, 2, 31, 7, 1, 2, 0, 0], 0) := by decide +kernel
  have b4 : bldV 4 [(29, [7]), (3, [1, 2])] = ([], 4) := by decide +kernel
  have f10 : fitV 10 [(29, [7]), (3, [1, 2])] = (3, 0) := by decide +kernel
  have f5 : fitV 5 [(29, [7]), (3, [1, 2])] = (0, 0) := by decide +kernel
  have c30 : ctlN 30 = 3 := by decide +kernel
  have p1 : parV [63, 61, 3, 7, 1, 2] = (0, [(29, [7]), (3, [1, 2])]) := by decide +kernel
  have p2 : parV [3] = (9, []) := by decide +kernel
  have p3 : parV [131, 1] = (9, []) := by decide +kernel
  have p4 : parV [31, 0] = (9, []) := by decide +kernel
  have p5 : parV [12, 1] = (9, []) := by decide +kernel
  refine Z.enter Try.func10 rfl Try.ntmps10 rfl rfl ?_
  refine Z.seq ?_
  refine Z.region ?_
  refine Z.lb 1 rfl ?_
  refine Z.lnil ?_
  refine Z.only [] rfl ?_
  refine Z.nthen ?_
  refine Z.seq ?_
  refine Z.region ?_
  refine Z.le rfl trivial ?_
  refine Z.ZO.litL (T' := 5) [(0, 1)] [.int .u8 0] rfl rfl (by rfl) rfl rfl (by intro W; kernel_rfl) hs ?_
  clear hs; intro g25 w25 hs
  refine Z.l rfl rfl (by rfl) (Z.keepS hs) (Z.Yd.buildL [(0, 1), (1, 1)] [.int .i64 0, .slice none 0 0] rfl rfl (by intro w; kernel_rfl)) ?_
  refine Z.le rfl trivial ?_
  refine Z.ZO.litL (T' := 5) [(0, 1), (1, 1)] [.int .u8 0, .int .u8 0] rfl rfl (by rfl) rfl rfl (by intro W; kernel_rfl) hs ?_
  clear hs; intro g27 w27 hs
  refine Z.l rfl rfl (by rfl) (Z.keepS hs) (Z.Yd.buildL [(0, 1), (1, 1)] [.int .i64 0, .slice none 0 0] rfl rfl (by intro w; kernel_rfl)) ?_
  refine Z.le rfl trivial ?_
  refine Z.ZO.alloc rfl rfl (by rfl) Try.zeroValue47 rfl hs ?_
  clear hs; intro g1 w1 hs
  refine Z.le rfl trivial ?_
  refine Z.ZO.alloc rfl rfl (by rfl) Try.zeroValue47 rfl hs ?_
  clear hs; intro g2 w2 hs
  refine Z.le rfl trivial ?_
  first | refine Z.ZO.storeA rfl rfl hs rfl rfl (by kernel_rfl) (by first | (simp [Value.oneCell']; done) | (refine Z.all_one ?_; assumption)) (by first | exact SX.at0 | exact SX.at1 | exact SX.at2 | exact SX.at3 | exact SX.at4 | exact SX.at5 | exact Z.at6 | exact Z.at7 | exact Z.at8 | exact Z.at9 | exact Z.at10 | exact Z.at11 | exact Z.at12) (by rfl) ?_ | refine Z.ZO.storeP rfl rfl hs rfl rfl (by kernel_rfl) (by first | (simp [Value.oneCell']; done) | (refine Z.all_one ?_; assumption)) (by first | exact SX.at0 | exact SX.at1 | exact SX.at2 | exact SX.at3 | exact SX.at4 | exact SX.at5 | exact Z.at6 | exact Z.at7 | exact Z.at8 | exact Z.at9 | exact Z.at10 | exact Z.at11 | exact Z.at12) (by first | decide | (simp; done) | (simp; omega)) ?_ | refine Z.ZO.storePR rfl rfl hs rfl rfl (by kernel_rfl) (by first | (simp [Value.oneCell']; done) | (refine Z.all_one ?_; assumption)) (by first | exact SX.at0 | exact SX.at1 | exact SX.at2 | exact SX.at3 | exact SX.at4 | exact SX.at5 | exact Z.at6 | exact Z.at7 | exact Z.at8 | exact Z.at9 | exact Z.at10 | exact Z.at11 | exact Z.at12) (by first | decide | (simp; done) | (simp; omega)) ?_
  clear hs; intro ws hs
  simp only [Nat.zero_add, Nat.add_zero, Nat.reduceAdd, Int.reduceToNat, Nat.reduceMul, List.set_cons_zero, List.set_cons_succ, List.setIfInBounds_toArray] at hs
  try simp only [Z.putL, Nat.zero_add] at hs
  refine Z.le rfl trivial ?_
  first | refine Z.ZO.storeA rfl rfl hs rfl rfl (by kernel_rfl) (by first | (simp [Value.oneCell']; done) | (refine Z.all_one ?_; assumption)) (by first | exact SX.at0 | exact SX.at1 | exact SX.at2 | exact SX.at3 | exact SX.at4 | exact SX.at5 | exact Z.at6 | exact Z.at7 | exact Z.at8 | exact Z.at9 | exact Z.at10 | exact Z.at11 | exact Z.at12) (by rfl) ?_ | refine Z.ZO.storeP rfl rfl hs rfl rfl (by kernel_rfl) (by first | (simp [Value.oneCell']; done) | (refine Z.all_one ?_; assumption)) (by first | exact SX.at0 | exact SX.at1 | exact SX.at2 | exact SX.at3 | exact SX.at4 | exact SX.at5 | exact Z.at6 | exact Z.at7 | exact Z.at8 | exact Z.at9 | exact Z.at10 | exact Z.at11 | exact Z.at12) (by first | decide | (simp; done) | (simp; omega)) ?_ | refine Z.ZO.storePR rfl rfl hs rfl rfl (by kernel_rfl) (by first | (simp [Value.oneCell']; done) | (refine Z.all_one ?_; assumption)) (by first | exact SX.at0 | exact SX.at1 | exact SX.at2 | exact SX.at3 | exact SX.at4 | exact SX.at5 | exact Z.at6 | exact Z.at7 | exact Z.at8 | exact Z.at9 | exact Z.at10 | exact Z.at11 | exact Z.at12) (by first | decide | (simp; done) | (simp; omega)) ?_
  clear hs; intro ws hs
  simp only [Nat.zero_add, Nat.add_zero, Nat.reduceAdd, Int.reduceToNat, Nat.reduceMul, List.set_cons_zero, List.set_cons_succ, List.setIfInBounds_toArray] at hs
  try simp only [Z.putL, Nat.zero_add] at hs
  refine Z.lnil ?_
  refine Z.only [1, 2] rfl ?_
  refine Z.nthen ?_
  refine Z.seq ?_
  refine Z.region ?_
  refine Z.l rfl rfl (by rfl) (Z.keepS hs) (by first | exact Z.Yd.loadA _ rfl Try.isAgg47 (fun _ => Z.cellsB (by first | ((repeat (first | exact List.mem_cons_self | refine List.mem_cons_of_mem _ ?_ | refine List.mem_append_right _ ?_)); done) | fail)) (by exact Try.sizeOf47) | fail "load 2.0") ?_
  refine Z.l rfl rfl (by rfl) (Z.keepS hs) (by first | exact Z.Yd.loadA _ rfl Try.isAgg47 (fun _ => Z.cellsB (by first | ((repeat (first | exact List.mem_cons_self | refine List.mem_cons_of_mem _ ?_ | refine List.mem_append_right _ ?_)); done) | fail)) (by exact Try.sizeOf47) | fail "load 2.1") ?_
  refine Z.le rfl trivial ?_
  refine Z.ZO.litL (T' := 47) [(0, 2), (2, 2)] [.int .i64 0, .slice none 0 0, .int .i64 0, .slice none 0 0] rfl rfl (by rfl) rfl rfl (by intro W; kernel_rfl) hs ?_
  clear hs; intro g32 w32 hs
  refine Z.le rfl trivial ?_
  refine Z.ZO.call rfl rfl (by rfl) rfl rfl Try.call14 rfl (mc_Need (some ⟨g32, 0, none⟩) 2 2 [exA (some ⟨g25, 0, none⟩), exS (some ⟨g27, 0, none⟩)] _ (by have h0 := hs.blkSl (g := g32) (by first | ((repeat (first | exact List.mem_cons_self | refine List.mem_cons_of_mem _ ?_ | refine List.mem_append_right _ ?_)); done) | fail); exact h0) rfl (by decide) ex_f) ?_
  rintro v2_3 w2_3 ⟨rfl, hy⟩
  replace hs := hs.call hy
  clear hy
  try simp only [List.cons_append, List.nil_append, List.append_nil] at hs
  rw [ex_pl, n1]
  refine Z.lb 5 rfl ?_
  refine Z.lnil ?_
  refine Z.only [1, 2, 3, 4] rfl ?_
  refine Z.nthen ?_
  refine Z.seq ?_
  refine Z.region ?_
  refine Z.l rfl rfl (by rfl) (Z.keepS hs) (by first | exact Z.Yd.loadA _ rfl Try.isAgg47 (fun _ => Z.cellsB (by first | ((repeat (first | exact List.mem_cons_self | refine List.mem_cons_of_mem _ ?_ | refine List.mem_append_right _ ?_)); done) | fail)) (by exact Try.sizeOf47) | fail "load 3.0") ?_
  refine Z.l rfl rfl (by rfl) (Z.keepS hs) (by first | exact Z.Yd.loadA _ rfl Try.isAgg47 (fun _ => Z.cellsB (by first | ((repeat (first | exact List.mem_cons_self | refine List.mem_cons_of_mem _ ?_ | refine List.mem_append_right _ ?_)); done) | fail)) (by exact Try.sizeOf47) | fail "load 3.1") ?_
  refine Z.le rfl trivial ?_
  refine Z.ZO.litL (T' := 47) [(0, 2), (2, 2)] [.int .i64 0, .slice none 0 0, .int .i64 0, .slice none 0 0] rfl rfl (by rfl) rfl rfl (by intro W; kernel_rfl) hs ?_
  clear hs; intro g39 w39 hs
  refine Z.le rfl trivial ?_
  refine Z.ZO.call rfl rfl (by rfl) rfl rfl Try.call12 rfl (mc_Build 5 (some ⟨g39, 0, none⟩) 2 2 [exA (some ⟨g25, 0, none⟩), exS (some ⟨g27, 0, none⟩)] _ (by have h0 := hs.blkSl (g := g39) (by first | ((repeat (first | exact List.mem_cons_self | refine List.mem_cons_of_mem _ ?_ | refine List.mem_append_right _ ?_)); done) | fail); exact h0) rfl (by decide) ex_f (ex_sl (by have h0 := hs.blkSl (g := g25) (by first | ((repeat (first | exact List.mem_cons_self | refine List.mem_cons_of_mem _ ?_ | refine List.mem_append_right _ ?_)); done) | fail); exact h0) (by have h0 := hs.blkSl (g := g27) (by first | ((repeat (first | exact List.mem_cons_self | refine List.mem_cons_of_mem _ ?_ | refine List.mem_append_right _ ?_)); done) | fail); exact h0)) ex_by) ?_
  rintro v3_3 w3_3 ⟨sv3, rfl, hy⟩
  replace hs := hs.call hy
  clear hy
  try simp only [List.cons_append, List.nil_append, List.append_nil] at hs
  rw [ex_pl, b5]
  rw [ex_pl, b5] at hs
  obtain ⟨B3, c3, rfl, -, -, -⟩ := SX.row_slv hs (j := 0) rfl
  refine Z.lb 5 rfl ?_
  refine Z.lnil ?_
  refine Z.only [1, 2, 3, 4, 5, 6] rfl ?_
  refine Z.nthen ?_
  refine Z.seq ?_
  refine Z.region ?_
  refine Z.l rfl rfl (by rfl) (Z.keepS hs) (by first | exact Z.Yd.loadA _ rfl Try.isAgg47 (fun _ => Z.cellsB (by first | ((repeat (first | exact List.mem_cons_self | refine List.mem_cons_of_mem _ ?_ | refine List.mem_append_right _ ?_)); done) | fail)) (by exact Try.sizeOf47) | fail "load 4.0") ?_
  refine Z.l rfl rfl (by rfl) (Z.keepS hs) (by first | exact Z.Yd.loadA _ rfl Try.isAgg47 (fun _ => Z.cellsB (by first | ((repeat (first | exact List.mem_cons_self | refine List.mem_cons_of_mem _ ?_ | refine List.mem_append_right _ ?_)); done) | fail)) (by exact Try.sizeOf47) | fail "load 4.1") ?_
  refine Z.le rfl trivial ?_
  refine Z.ZO.litL (T' := 47) [(0, 2), (2, 2)] [.int .i64 0, .slice none 0 0, .int .i64 0, .slice none 0 0] rfl rfl (by rfl) rfl rfl (by intro W; kernel_rfl) hs ?_
  clear hs; intro g46 w46 hs
  refine Z.le rfl trivial ?_
  refine Z.ZO.call rfl rfl (by rfl) rfl rfl Try.call12 rfl (mc_Build 6 (some ⟨g46, 0, none⟩) 2 2 [exA (some ⟨g25, 0, none⟩), exS (some ⟨g27, 0, none⟩)] _ (by have h0 := hs.blkSl (g := g46) (by first | ((repeat (first | exact List.mem_cons_self | refine List.mem_cons_of_mem _ ?_ | refine List.mem_append_right _ ?_)); done) | fail); exact h0) rfl (by decide) ex_f (ex_sl (by have h0 := hs.blkSl (g := g25) (by first | ((repeat (first | exact List.mem_cons_self | refine List.mem_cons_of_mem _ ?_ | refine List.mem_append_right _ ?_)); done) | fail); exact h0) (by have h0 := hs.blkSl (g := g27) (by first | ((repeat (first | exact List.mem_cons_self | refine List.mem_cons_of_mem _ ?_ | refine List.mem_append_right _ ?_)); done) | fail); exact h0)) ex_by) ?_
  rintro v4_3 w4_3 ⟨sv4, rfl, hy⟩
  replace hs := hs.call hy
  clear hy
  try simp only [List.cons_append, List.nil_append, List.append_nil] at hs
  rw [ex_pl, b6]
  rw [ex_pl, b6] at hs
  obtain ⟨B4, c4, rfl, -, -, -⟩ := SX.row_slv hs (j := 0) rfl
  refine Z.lb 5 rfl ?_
  refine Z.lnil ?_
  refine Z.only [1, 2, 3, 4, 5, 6, 7, 8] rfl ?_
  refine Z.nthen ?_
  refine Z.seq ?_
  refine Z.region ?_
  refine Z.l rfl rfl (by rfl) (Z.keepS hs) (by first | exact Z.Yd.loadA _ rfl Try.isAgg47 (fun _ => Z.cellsB (by first | ((repeat (first | exact List.mem_cons_self | refine List.mem_cons_of_mem _ ?_ | refine List.mem_append_right _ ?_)); done) | fail)) (by exact Try.sizeOf47) | fail "load 5.0") ?_
  refine Z.l rfl rfl (by rfl) (Z.keepS hs) (by first | exact Z.Yd.loadA _ rfl Try.isAgg47 (fun _ => Z.cellsB (by first | ((repeat (first | exact List.mem_cons_self | refine List.mem_cons_of_mem _ ?_ | refine List.mem_append_right _ ?_)); done) | fail)) (by exact Try.sizeOf47) | fail "load 5.1") ?_
  refine Z.le rfl trivial ?_
  refine Z.ZO.litL (T' := 47) [(0, 2), (2, 2)] [.int .i64 0, .slice none 0 0, .int .i64 0, .slice none 0 0] rfl rfl (by rfl) rfl rfl (by intro W; kernel_rfl) hs ?_
  clear hs; intro g53 w53 hs
  refine Z.le rfl trivial ?_
  refine Z.ZO.call rfl rfl (by rfl) rfl rfl Try.call12 rfl (mc_Build 9 (some ⟨g53, 0, none⟩) 2 2 [exA (some ⟨g25, 0, none⟩), exS (some ⟨g27, 0, none⟩)] _ (by have h0 := hs.blkSl (g := g53) (by first | ((repeat (first | exact List.mem_cons_self | refine List.mem_cons_of_mem _ ?_ | refine List.mem_append_right _ ?_)); done) | fail); exact h0) rfl (by decide) ex_f (ex_sl (by have h0 := hs.blkSl (g := g25) (by first | ((repeat (first | exact List.mem_cons_self | refine List.mem_cons_of_mem _ ?_ | refine List.mem_append_right _ ?_)); done) | fail); exact h0) (by have h0 := hs.blkSl (g := g27) (by first | ((repeat (first | exact List.mem_cons_self | refine List.mem_cons_of_mem _ ?_ | refine List.mem_append_right _ ?_)); done) | fail); exact h0)) ex_by) ?_
  rintro v5_3 w5_3 ⟨sv5, rfl, hy⟩
  replace hs := hs.call hy
  clear hy
  try simp only [List.cons_append, List.nil_append, List.append_nil] at hs
  rw [ex_pl, b9]
  rw [ex_pl, b9] at hs
  obtain ⟨B5, c5, rfl, -, -, -⟩ := SX.row_slv hs (j := 0) rfl
  refine Z.lb 5 rfl ?_
  refine Z.lnil ?_
  refine Z.only [1, 2, 3, 4, 5, 6, 7, 8, 9, 10] rfl ?_
  refine Z.nthen ?_
  refine Z.seq ?_
  refine Z.seq ?_
  refine Z.region ?_
  refine Z.lb 2 rfl ?_
  refine Z.le rfl trivial ?_
  refine Z.ZO.call rfl rfl (by rfl) rfl rfl Try.call17 rfl (counts23 _ _ _ _ _) ?_
  rintro v6_2 w6_2 ⟨rfl, hy⟩
  replace hs := hs.call hy
  clear hy
  try simp only [List.cons_append, List.nil_append, List.append_nil] at hs
  refine Z.lb 2 rfl ?_
  refine Z.yes (s := 61) (b := false) rfl ((by simp)) rfl ?_
  refine Z.lb 2 rfl ?_
  refine Z.yes (s := 61) (b := false) rfl rfl rfl ?_
  refine Z.le rfl (by exact ⟨rfl, trivial⟩) ?_
  refine Z.ZO.call rfl rfl (by rfl) rfl rfl Try.call16 rfl (is23 _ _ B3 _ _ [61, 3, 7, 1, 2] _ _ (hs.slm (by first | ((repeat (first | exact List.mem_cons_self | refine List.mem_cons_of_mem _ ?_ | refine List.mem_append_right _ ?_)); done) | fail)) rfl) ?_
  rintro v6_7 w6_7 ⟨rfl, hy⟩
  replace hs := hs.call hy
  clear hy
  try simp only [List.cons_append, List.nil_append, List.append_nil] at hs
  refine Z.lb 1 rfl ?_
  refine Z.yes (s := 61) (b := false) rfl rfl rfl ?_
  refine Z.l rfl rfl (by rfl) (Z.keepS hs) (Z.Yd.pickF rfl rfl) ?_
  refine Z.lb 1 rfl ?_
  refine Z.yes (s := 67) (b := false) rfl ((by decide +kernel)) rfl ?_
  refine Z.lb 2 rfl ?_
  refine Z.yes (s := 67) (b := false) rfl rfl rfl ?_
  refine Z.le rfl (by exact ⟨rfl, trivial⟩) ?_
  refine Z.ZO.call rfl rfl (by rfl) rfl rfl Try.call16 rfl (is23 _ _ B4 _ _ [63, 61, 3, 7, 1, 2] _ _ (hs.slm (by first | ((repeat (first | exact List.mem_cons_self | refine List.mem_cons_of_mem _ ?_ | refine List.mem_append_right _ ?_)); done) | fail)) rfl) ?_
  rintro v6_13 w6_13 ⟨rfl, hy⟩
  replace hs := hs.call hy
  clear hy
  try simp only [List.cons_append, List.nil_append, List.append_nil] at hs
  refine Z.lb 1 rfl ?_
  refine Z.yes (s := 67) (b := false) rfl rfl rfl ?_
  refine Z.l rfl rfl (by rfl) (Z.keepS hs) (Z.Yd.pickF rfl rfl) ?_
  refine Z.lb 1 rfl ?_
  refine Z.yes (s := 73) (b := false) rfl ((by decide +kernel)) rfl ?_
  refine Z.lb 2 rfl ?_
  refine Z.yes (s := 73) (b := false) rfl rfl rfl ?_
  refine Z.le rfl (by exact ⟨rfl, trivial⟩) ?_
  refine Z.ZO.call rfl rfl (by rfl) rfl rfl Try.call16 rfl (is23 _ _ B5 _ _ [61, 35, 2, 31, 7, 1, 2, 0, 0] _ _ (hs.slm (by first | ((repeat (first | exact List.mem_cons_self | refine List.mem_cons_of_mem _ ?_ | refine List.mem_append_right _ ?_)); done) | fail)) rfl) ?_
  rintro v6_19 w6_19 ⟨rfl, hy⟩
  replace hs := hs.call hy
  clear hy
  try simp only [List.cons_append, List.nil_append, List.append_nil] at hs
  refine Z.lb 1 rfl ?_
  refine Z.yes (s := 73) (b := false) rfl rfl rfl ?_
  refine Z.l rfl rfl (by rfl) (Z.keepS hs) (Z.Yd.pickF rfl rfl) ?_
  refine Z.lnil ?_
  refine Z.only [1, 2, 7, 78] rfl ?_
  refine Z.nthen ?_
  refine Z.cond rfl (fun h => absurd h (by decide +kernel)) (fun hc6 => ?_)
  refine Z.skip ?_
  refine Z.nthen ?_
  refine Z.seq ?_
  refine Z.region ?_
  refine Z.l rfl rfl (by rfl) (Z.keepS hs) (by first | exact Z.Yd.loadA _ rfl Try.isAgg47 (fun _ => Z.cellsB (by first | ((repeat (first | exact List.mem_cons_self | refine List.mem_cons_of_mem _ ?_ | refine List.mem_append_right _ ?_)); done) | fail)) (by exact Try.sizeOf47) | fail "load 8.0") ?_
  refine Z.l rfl rfl (by rfl) (Z.keepS hs) (by first | exact Z.Yd.loadA _ rfl Try.isAgg47 (fun _ => Z.cellsB (by first | ((repeat (first | exact List.mem_cons_self | refine List.mem_cons_of_mem _ ?_ | refine List.mem_append_right _ ?_)); done) | fail)) (by exact Try.sizeOf47) | fail "load 8.1") ?_
  refine Z.le rfl trivial ?_
  refine Z.ZO.litL (T' := 47) [(0, 2), (2, 2)] [.int .i64 0, .slice none 0 0, .int .i64 0, .slice none 0 0] rfl rfl (by rfl) rfl rfl (by intro W; kernel_rfl) hs ?_
  clear hs; intro g82 w82 hs
  refine Z.le rfl trivial ?_
  refine Z.ZO.call rfl rfl (by rfl) rfl rfl Try.call14 rfl (mc_Need (some ⟨g82, 0, none⟩) 2 2 [exS (some ⟨g27, 0, none⟩), exA (some ⟨g25, 0, none⟩)] _ (by have h0 := hs.blkSl (g := g82) (by first | ((repeat (first | exact List.mem_cons_self | refine List.mem_cons_of_mem _ ?_ | refine List.mem_append_right _ ?_)); done) | fail); exact h0) rfl (by decide) ex_fr) ?_
  rintro v8_3 w8_3 ⟨rfl, hy⟩
  replace hs := hs.call hy
  clear hy
  try simp only [List.cons_append, List.nil_append, List.append_nil] at hs
  rw [ex_lp, n2]
  refine Z.lb 5 rfl ?_
  refine Z.lnil ?_
  refine Z.only [1, 2, 7, 11, 12] rfl ?_
  refine Z.nthen ?_
  refine Z.seq ?_
  refine Z.region ?_
  refine Z.le rfl trivial ?_
  refine Z.ZO.call rfl rfl (by rfl) rfl rfl Try.call14 rfl (mc_Need none 0 0 [] _ sl_nil23 rfl (by decide) (by simp)) ?_
  rintro v9_0 w9_0 ⟨rfl, hy⟩
  replace hs := hs.call hy
  clear hy
  try simp only [List.cons_append, List.nil_append, List.append_nil] at hs
  rw [n3]
  refine Z.lb 5 rfl ?_
  refine Z.lnil ?_
  refine Z.only [1, 2, 7, 11, 12, 13, 14] rfl ?_
  refine Z.nthen ?_
  refine Z.seq ?_
  refine Z.region ?_
  refine Z.l rfl rfl (by rfl) (Z.keepS hs) (by first | exact Z.Yd.loadA _ rfl Try.isAgg47 (fun _ => Z.cellsB (by first | ((repeat (first | exact List.mem_cons_self | refine List.mem_cons_of_mem _ ?_ | refine List.mem_append_right _ ?_)); done) | fail)) (by exact Try.sizeOf47) | fail "load 10.0") ?_
  refine Z.l rfl rfl (by rfl) (Z.keepS hs) (by first | exact Z.Yd.loadA _ rfl Try.isAgg47 (fun _ => Z.cellsB (by first | ((repeat (first | exact List.mem_cons_self | refine List.mem_cons_of_mem _ ?_ | refine List.mem_append_right _ ?_)); done) | fail)) (by exact Try.sizeOf47) | fail "load 10.1") ?_
  refine Z.le rfl trivial ?_
  refine Z.ZO.litL (T' := 47) [(0, 2), (2, 2)] [.int .i64 0, .slice none 0 0, .int .i64 0, .slice none 0 0] rfl rfl (by rfl) rfl rfl (by intro W; kernel_rfl) hs ?_
  clear hs; intro g93 w93 hs
  refine Z.le rfl trivial ?_
  refine Z.ZO.call rfl rfl (by rfl) rfl rfl Try.call12 rfl (mc_Build 4 (some ⟨g93, 0, none⟩) 2 2 [exA (some ⟨g25, 0, none⟩), exS (some ⟨g27, 0, none⟩)] _ (by have h0 := hs.blkSl (g := g93) (by first | ((repeat (first | exact List.mem_cons_self | refine List.mem_cons_of_mem _ ?_ | refine List.mem_append_right _ ?_)); done) | fail); exact h0) rfl (by decide) ex_f (ex_sl (by have h0 := hs.blkSl (g := g25) (by first | ((repeat (first | exact List.mem_cons_self | refine List.mem_cons_of_mem _ ?_ | refine List.mem_append_right _ ?_)); done) | fail); exact h0) (by have h0 := hs.blkSl (g := g27) (by first | ((repeat (first | exact List.mem_cons_self | refine List.mem_cons_of_mem _ ?_ | refine List.mem_append_right _ ?_)); done) | fail); exact h0)) ex_by) ?_
  rintro v10_3 w10_3 ⟨sv10, rfl, hy⟩
  replace hs := hs.call hy
  clear hy
  try simp only [List.cons_append, List.nil_append, List.append_nil] at hs
  rw [ex_pl, b4]
  rw [ex_pl, b4] at hs
  obtain ⟨B10, c10, rfl, -, -, -⟩ := SX.row_slv hs (j := 0) rfl
  refine Z.lb 5 rfl ?_
  refine Z.lnil ?_
  refine Z.only [1, 2, 7, 11, 12, 13, 14, 15, 16] rfl ?_
  refine Z.nthen ?_
  refine Z.seq ?_
  refine Z.region ?_
  refine Z.l rfl rfl (by rfl) (Z.keepS hs) (by first | exact Z.Yd.loadA _ rfl Try.isAgg47 (fun _ => Z.cellsB (by first | ((repeat (first | exact List.mem_cons_self | refine List.mem_cons_of_mem _ ?_ | refine List.mem_append_right _ ?_)); done) | fail)) (by exact Try.sizeOf47) | fail "load 11.0") ?_
  refine Z.l rfl rfl (by rfl) (Z.keepS hs) (by first | exact Z.Yd.loadA _ rfl Try.isAgg47 (fun _ => Z.cellsB (by first | ((repeat (first | exact List.mem_cons_self | refine List.mem_cons_of_mem _ ?_ | refine List.mem_append_right _ ?_)); done) | fail)) (by exact Try.sizeOf47) | fail "load 11.1") ?_
  refine Z.le rfl trivial ?_
  refine Z.ZO.litL (T' := 47) [(0, 2), (2, 2)] [.int .i64 0, .slice none 0 0, .int .i64 0, .slice none 0 0] rfl rfl (by rfl) rfl rfl (by intro W; kernel_rfl) hs ?_
  clear hs; intro g100 w100 hs
  refine Z.le rfl trivial ?_
  refine Z.ZO.call rfl rfl (by rfl) rfl rfl Try.call19 rfl (mc_Fit 10 (some ⟨g100, 0, none⟩) 2 2 [exA (some ⟨g25, 0, none⟩), exS (some ⟨g27, 0, none⟩)] _ (by have h0 := hs.blkSl (g := g100) (by first | ((repeat (first | exact List.mem_cons_self | refine List.mem_cons_of_mem _ ?_ | refine List.mem_append_right _ ?_)); done) | fail); exact h0) rfl (by decide) ex_f) ?_
  rintro v11_3 w11_3 ⟨rfl, hy⟩
  replace hs := hs.call hy
  clear hy
  try simp only [List.cons_append, List.nil_append, List.append_nil] at hs
  rw [ex_pl, f10]
  refine Z.lb 5 rfl ?_
  refine Z.lnil ?_
  refine Z.only [1, 2, 7, 11, 12, 13, 14, 15, 16, 17, 18] rfl ?_
  refine Z.nthen ?_
  refine Z.seq ?_
  refine Z.region ?_
  refine Z.l rfl rfl (by rfl) (Z.keepS hs) (by first | exact Z.Yd.loadA _ rfl Try.isAgg47 (fun _ => Z.cellsB (by first | ((repeat (first | exact List.mem_cons_self | refine List.mem_cons_of_mem _ ?_ | refine List.mem_append_right _ ?_)); done) | fail)) (by exact Try.sizeOf47) | fail "load 12.0") ?_
  refine Z.l rfl rfl (by rfl) (Z.keepS hs) (by first | exact Z.Yd.loadA _ rfl Try.isAgg47 (fun _ => Z.cellsB (by first | ((repeat (first | exact List.mem_cons_self | refine List.mem_cons_of_mem _ ?_ | refine List.mem_append_right _ ?_)); done) | fail)) (by exact Try.sizeOf47) | fail "load 12.1") ?_
  refine Z.le rfl trivial ?_
  refine Z.ZO.litL (T' := 47) [(0, 2), (2, 2)] [.int .i64 0, .slice none 0 0, .int .i64 0, .slice none 0 0] rfl rfl (by rfl) rfl rfl (by intro W; kernel_rfl) hs ?_
  clear hs; intro g107 w107 hs
  refine Z.le rfl trivial ?_
  refine Z.ZO.call rfl rfl (by rfl) rfl rfl Try.call19 rfl (mc_Fit 5 (some ⟨g107, 0, none⟩) 2 2 [exA (some ⟨g25, 0, none⟩), exS (some ⟨g27, 0, none⟩)] _ (by have h0 := hs.blkSl (g := g107) (by first | ((repeat (first | exact List.mem_cons_self | refine List.mem_cons_of_mem _ ?_ | refine List.mem_append_right _ ?_)); done) | fail); exact h0) rfl (by decide) ex_f) ?_
  rintro v12_3 w12_3 ⟨rfl, hy⟩
  replace hs := hs.call hy
  clear hy
  try simp only [List.cons_append, List.nil_append, List.append_nil] at hs
  rw [ex_pl, f5]
  refine Z.lb 5 rfl ?_
  refine Z.lnil ?_
  refine Z.only [1, 2, 7, 11, 12, 13, 14, 15, 16, 17, 18, 19, 20] rfl ?_
  refine Z.nthen ?_
  refine Z.seq ?_
  refine Z.region ?_
  refine Z.le rfl trivial ?_
  refine Z.ZO.call rfl rfl (by rfl) rfl rfl Try.call21 rfl (mc_Control 30 _) ?_
  rintro v13_0 w13_0 ⟨rfl, hy⟩
  replace hs := hs.call hy
  clear hy
  try simp only [List.cons_append, List.nil_append, List.append_nil] at hs
  rw [c30]
  refine Z.lb 5 rfl ?_
  refine Z.lnil ?_
  refine Z.only [1, 2, 7, 11, 12, 13, 14, 15, 16, 17, 18, 19, 20, 21, 22] rfl ?_
  refine Z.nthen ?_
  refine Z.seq ?_
  refine Z.region ?_
  refine Z.lb 1 rfl ?_
  refine Z.le rfl trivial ?_
  refine Z.ZO.call rfl rfl (by rfl) rfl rfl Try.call23 rfl (mc_Parse B4 6 c4 [63, 61, 3, 7, 1, 2] _ (hs.slm (by first | ((repeat (first | exact List.mem_cons_self | refine List.mem_cons_of_mem _ ?_ | refine List.mem_append_right _ ?_)); done) | fail)) rfl (by decide) (by23 (by decide))) ?_
  rintro v14_1 w14_1 ⟨qs, sv, rfl, hpq, hy⟩
  replace hs := hs.call hy
  clear hy
  try simp only [List.cons_append, List.nil_append, List.append_nil] at hs
  rw [p1]
  rw [p1] at hpq
  rw [cellsQ_fst] at hs
  obtain ⟨B14, c14, rfl, -, -, -⟩ := SX.row_slv hs (j := 0) rfl
  refine Z.lb 5 rfl ?_
  refine Z.lnil ?_
  refine Z.only [1, 2, 11, 12, 13, 14, 15, 16, 17, 18, 19, 20, 21, 22, 23, 24] rfl ?_
  refine Z.nthen ?_
  refine Z.seq ?_
  refine Z.region ?_
  refine Z.lb 2 rfl ?_
  refine Z.le rfl trivial ?_
  refine Z.ZO.call rfl rfl (by rfl) rfl rfl Try.call17 rfl (counts23 _ _ _ _ _) ?_
  rintro v15_2 w15_2 ⟨rfl, hy⟩
  replace hs := hs.call hy
  clear hy
  try simp only [List.cons_append, List.nil_append, List.append_nil] at hs
  refine Z.lb 1 rfl ?_
  refine Z.yes (s := 123) (b := true) rfl ((by decide +kernel)) rfl ?_
  refine Z.lb 2 rfl ?_
  refine Z.yes (s := 123) (b := true) rfl rfl rfl ?_
  refine Z.le rfl (by exact ⟨rfl, trivial⟩) ?_
  refine Z.ZO.call rfl rfl (by rfl) rfl rfl Try.call17 rfl (counts23 _ _ _ _ _) ?_
  rintro v15_6 w15_6 ⟨rfl, hy⟩
  replace hs := hs.call hy
  clear hy
  try simp only [List.cons_append, List.nil_append, List.append_nil] at hs
  refine Z.l rfl rfl (by rfl) (Z.keepS hs) (Z.Yd.pickT rfl rfl) ?_
  refine Z.lb 1 rfl ?_
  refine Z.yes (s := 128) (b := true) rfl ((by decide +kernel)) rfl ?_
  refine Z.lb 2 rfl ?_
  refine Z.yes (s := 128) (b := true) rfl rfl rfl ?_
  refine Z.le rfl (by exact ⟨rfl, trivial⟩) ?_
  refine Z.ZO.call rfl rfl (by rfl) rfl rfl Try.call16 rfl (is23 _ _ B10 _ _ [] _ _ (hs.slm (by first | ((repeat (first | exact List.mem_cons_self | refine List.mem_cons_of_mem _ ?_ | refine List.mem_append_right _ ?_)); done) | fail)) rfl) ?_
  rintro v15_11 w15_11 ⟨rfl, hy⟩
  replace hs := hs.call hy
  clear hy
  try simp only [List.cons_append, List.nil_append, List.append_nil] at hs
  refine Z.l rfl rfl (by rfl) (Z.keepS hs) (Z.Yd.pickT rfl rfl) ?_
  refine Z.lb 1 rfl ?_
  refine Z.yes (s := 133) (b := true) rfl ((by decide +kernel)) rfl ?_
  refine Z.lb 2 rfl ?_
  refine Z.yes (s := 133) (b := true) rfl rfl rfl ?_
  refine Z.le rfl (by exact ⟨rfl, trivial⟩) ?_
  refine Z.ZO.call rfl rfl (by rfl) rfl rfl Try.call17 rfl (counts23 _ _ _ _ _) ?_
  rintro v15_16 w15_16 ⟨rfl, hy⟩
  replace hs := hs.call hy
  clear hy
  try simp only [List.cons_append, List.nil_append, List.append_nil] at hs
  refine Z.l rfl rfl (by rfl) (Z.keepS hs) (Z.Yd.pickT rfl rfl) ?_
  refine Z.lb 1 rfl ?_
  refine Z.yes (s := 138) (b := true) rfl ((by decide +kernel)) rfl ?_
  refine Z.lb 2 rfl ?_
  refine Z.yes (s := 138) (b := true) rfl rfl rfl ?_
  refine Z.le rfl (by exact ⟨rfl, trivial⟩) ?_
  refine Z.ZO.call rfl rfl (by rfl) rfl rfl Try.call17 rfl (counts23 _ _ _ _ _) ?_
  rintro v15_21 w15_21 ⟨rfl, hy⟩
  replace hs := hs.call hy
  clear hy
  try simp only [List.cons_append, List.nil_append, List.append_nil] at hs
  refine Z.l rfl rfl (by rfl) (Z.keepS hs) (Z.Yd.pickT rfl rfl) ?_
  refine Z.lb 1 rfl ?_
  refine Z.yes (s := 143) (b := true) rfl ((by decide +kernel)) rfl ?_
  refine Z.lb 2 rfl ?_
  refine Z.yes (s := 143) (b := true) rfl rfl rfl ?_
  refine Z.l rfl rfl (by rfl) (Z.keepS hs) (Z.Yd.pickT rfl rfl) ?_
  refine Z.lb 1 rfl ?_
  refine Z.yes (s := 147) (b := true) rfl ((by decide +kernel)) rfl ?_
  refine Z.lb 1 rfl ?_
  refine Z.yes (s := 147) (b := true) rfl rfl rfl ?_
  refine Z.l rfl rfl (by rfl) (Z.keepS hs) (Z.Yd.pickT rfl rfl) ?_
  refine Z.lb 1 rfl ?_
  refine Z.yes (s := 150) (b := true) rfl ((by decide +kernel)) rfl ?_
  refine Z.lb 1 rfl ?_
  refine Z.l rfl rfl (by rfl) (Z.keepS hs) (by first | exact Z.Yd.loadA _ rfl Try.isAgg47 (fun _ => Z.cellsB (by first | ((repeat (first | exact List.mem_cons_self | refine List.mem_cons_of_mem _ ?_ | refine List.mem_append_right _ ?_)); done) | fail)) (by exact Try.sizeOf47) | fail "load 15.32") ?_
  refine Z.l rfl rfl (by rfl) (Z.keepS hs) (by first | exact Z.Yd.loadA _ rfl Try.isAgg47 (fun _ => Z.cellsB (by first | ((repeat (first | exact List.mem_cons_self | refine List.mem_cons_of_mem _ ?_ | refine List.mem_append_right _ ?_)); done) | fail)) (by exact Try.sizeOf47) | fail "load 15.33") ?_
  refine Z.yes (s := 150) (b := true) rfl rfl rfl ?_
  refine Z.le rfl (by exact ⟨rfl, trivial⟩) ?_
  refine Z.ZO.litL (T' := 47) [(0, 2), (2, 2)] [.int .i64 0, .slice none 0 0, .int .i64 0, .slice none 0 0] rfl rfl (by rfl) rfl rfl (by intro W; kernel_rfl) hs ?_
  clear hs; intro g154 w154 hs
  refine Z.le rfl (by exact ⟨rfl, trivial⟩) ?_
  refine Z.ZO.call rfl rfl (by rfl) rfl rfl Try.call18 rfl (mr_Same B14 (some ⟨g154, 0, none⟩) _ _ _ _ (qs.map Prod.fst) [exA (some ⟨g25, 0, none⟩), exS (some ⟨g27, 0, none⟩)] _ (hs.slm (A := B14) (by first | ((repeat (first | exact List.mem_cons_self | refine List.mem_cons_of_mem _ ?_ | refine List.mem_append_right _ ?_)); done) | fail)) (by have h0 := hs.blkSl (g := g154) (by first | ((repeat (first | exact List.mem_cons_self | refine List.mem_cons_of_mem _ ?_ | refine List.mem_append_right _ ?_)); done) | fail); exact h0) (by simp) rfl (by have h7 := congrArg List.length hpq; simp [plainQ] at h7; omega) (rowsQ_sl hs (fun e he ↦ by simp [he])) (ex_sl (by have h0 := hs.blkSl (g := g25) (by first | ((repeat (first | exact List.mem_cons_self | refine List.mem_cons_of_mem _ ?_ | refine List.mem_append_right _ ?_)); done) | fail); exact h0) (by have h0 := hs.blkSl (g := g27) (by first | ((repeat (first | exact List.mem_cons_self | refine List.mem_cons_of_mem _ ?_ | refine List.mem_append_right _ ?_)); done) | fail); exact h0)) (plain_by hpq (by decide)) ex_by) ?_
  rintro v15_35 w15_35 ⟨rfl, hy⟩
  replace hs := hs.call hy
  clear hy
  try simp only [List.cons_append, List.nil_append, List.append_nil] at hs
  rw [plainQ_fst, hpq, ex_pl]
  refine Z.l rfl rfl (by rfl) (Z.keepS hs) (Z.Yd.pickT rfl rfl) ?_
  refine Z.lb 1 rfl ?_
  refine Z.yes (s := 157) (b := true) rfl ((by decide +kernel)) rfl ?_
  refine Z.lb 1 rfl ?_
  refine Z.yes (s := 157) (b := true) rfl rfl rfl ?_
  refine Z.le rfl (by exact ⟨rfl, trivial⟩) ?_
  refine Z.ZO.call rfl rfl (by rfl) rfl rfl Try.call24 rfl (num23 _ _) ?_
  rintro v15_39 w15_39 ⟨rfl, hy⟩
  replace hs := hs.call hy
  clear hy
  try simp only [List.cons_append, List.nil_append, List.append_nil] at hs
  refine Z.lb 1 rfl ?_
  refine Z.yes (s := 157) (b := true) rfl rfl rfl ?_
  refine Z.l rfl rfl (by rfl) (Z.keepS hs) (Z.Yd.pickT rfl rfl) ?_
  refine Z.lb 1 rfl ?_
  refine Z.yes (s := 162) (b := true) rfl ((by decide +kernel)) rfl ?_
  refine Z.le rfl (by exact ⟨rfl, trivial⟩) ?_
  refine Z.ZO.call rfl rfl (by rfl) rfl rfl Try.call28 rfl (fails23 9 _ [3] _ rfl (by decide) p2 (by decide)) ?_
  rintro v15_43 w15_43 ⟨rfl, hy⟩
  replace hs := hs.call hy
  clear hy
  try simp only [List.cons_append, List.nil_append, List.append_nil] at hs
  refine Z.l rfl rfl (by rfl) (Z.keepS hs) (Z.Yd.pickT rfl rfl) ?_
  refine Z.lb 1 rfl ?_
  refine Z.yes (s := 165) (b := true) rfl ((by decide +kernel)) rfl ?_
  refine Z.le rfl (by exact ⟨rfl, trivial⟩) ?_
  refine Z.ZO.call rfl rfl (by rfl) rfl rfl Try.call28 rfl (fails23 9 _ [131, 1] _ rfl (by decide) p3 (by decide)) ?_
  rintro v15_46 w15_46 ⟨rfl, hy⟩
  replace hs := hs.call hy
  clear hy
  try simp only [List.cons_append, List.nil_append, List.append_nil] at hs
  refine Z.l rfl rfl (by rfl) (Z.keepS hs) (Z.Yd.pickT rfl rfl) ?_
  refine Z.lb 1 rfl ?_
  refine Z.yes (s := 168) (b := true) rfl ((by decide +kernel)) rfl ?_
  refine Z.le rfl (by exact ⟨rfl, trivial⟩) ?_
  refine Z.ZO.call rfl rfl (by rfl) rfl rfl Try.call28 rfl (fails23 9 _ [31, 0] _ rfl (by decide) p4 (by decide)) ?_
  rintro v15_49 w15_49 ⟨rfl, hy⟩
  replace hs := hs.call hy
  clear hy
  try simp only [List.cons_append, List.nil_append, List.append_nil] at hs
  refine Z.l rfl rfl (by rfl) (Z.keepS hs) (Z.Yd.pickT rfl rfl) ?_
  refine Z.lb 1 rfl ?_
  refine Z.yes (s := 171) (b := true) rfl ((by decide +kernel)) rfl ?_
  refine Z.le rfl (by exact ⟨rfl, trivial⟩) ?_
  refine Z.ZO.call rfl rfl (by rfl) rfl rfl Try.call28 rfl (fails23 9 _ [12, 1] _ rfl (by decide) p5 (by decide)) ?_
  rintro v15_52 w15_52 ⟨rfl, hy⟩
  replace hs := hs.call hy
  clear hy
  try simp only [List.cons_append, List.nil_append, List.append_nil] at hs
  refine Z.l rfl rfl (by rfl) (Z.keepS hs) (Z.Yd.pickT rfl rfl) ?_
  refine Z.lb 1 rfl ?_
  refine Z.lnil ?_
  refine Z.only [0] rfl ?_
  refine Z.nthen ?_
  refine Z.ret ?_
  -- ret#0
  refine Z.out1 (by exact ⟨rfl, trivial⟩) ?_
  exact ⟨_, rfl, rfl, hs.sub (List.nil_sublist _)⟩
end Go.Proofs.Ytogjkgoiofngaaa

/- Arguments of bytes and integers, read. -/
namespace Go.Proofs.Ytogjkgoiofngaaa
open Go.RowKit
set_option linter.unusedSimpArgs false
set_option linter.unusedVariables false
namespace Rb
theorem sliceV {P : Program} {W : World} {t e : TypeId} {cs : List Value} (ht : P.underlying t = some (.slice e)) (h : Rd P W t cs) : ∃ A n c, cs = [.slice A n c] := by
  rcases Rd.slice ht h with h1 | ⟨a, len, cap, rows, h1, -⟩
  · exact ⟨none, 0, 0, h1⟩
  · exact ⟨some a, len, cap, h1⟩
theorem flat_ints (k : IntKind) (l : List Int) : l.flatMap (fun x => [Value.int k x]) = ints k l := by
  induction l with
  | nil => rfl
  | cons x l ih => rw [List.flatMap_cons, ih]; rfl
theorem rd_bytes {W : World} {A : Option Addr} {n c : Nat} (z : Rd Try.prog W 26 [.slice A n c]) : ∃ l : List Int, l.length = n ∧ n ≤ c ∧ c ≤ maxLen ∧ (∀ x ∈ l, 0 ≤ x ∧ x < 256) ∧ Sl W A (ints .u8 l) := by
  have c1 : Try.prog.cellsOf 5 = 1 := by kernel_rfl
  obtain ⟨xs, h1, h2, h3, h4, h5⟩ := Rd.rows (fun x : Int => [Value.int .u8 x]) (fun x => 0 ≤ x ∧ x < 256) Try.underlying26 (by rw [c1]; decide)
    (fun r hr => by
      obtain ⟨x, hx, wx⟩ := Rd.int Try.underlying5 hr
      have := wf_u8 wx
      exact ⟨x, hx, this.1, by omega⟩) (fun x => c1.symm) z
  rw [flat_ints] at h5
  exact ⟨xs, h1, h2, h3, h4, h5⟩
theorem rd_ints {W : World} {A : Option Addr} {n c : Nat} (z : Rd Try.prog W 118 [.slice A n c]) : ∃ l : List Int, l.length = n ∧ n ≤ c ∧ c ≤ maxLen ∧ (∀ x ∈ l, -9223372036854775808 ≤ x ∧ x ≤ 9223372036854775807) ∧ Sl W A (ints .i64 l) := by
  have c1 : Try.prog.cellsOf 3 = 1 := by kernel_rfl
  obtain ⟨xs, h1, h2, h3, h4, h5⟩ := Rd.rows (fun x : Int => [Value.int .i64 x]) (fun x => -9223372036854775808 ≤ x ∧ x ≤ 9223372036854775807) Try.underlying118 (by rw [c1]; decide)
    (fun r hr => by
      obtain ⟨x, hx, wx⟩ := Rd.int Try.underlying3 hr
      exact ⟨x, hx, wf_i64 wx⟩) (fun x => c1.symm) z
  rw [flat_ints] at h5
  exact ⟨xs, h1, h2, h3, h4, h5⟩
end Rb
end Go.Proofs.Ytogjkgoiofngaaa

/- MacpduControls, MacpduFits. -/
namespace Go.Proofs.Ytogjkgoiofngaaa
open Go.RowKit
set_option linter.unusedSimpArgs false
set_option linter.unusedVariables false
--newlaws

theorem macpduControls_walk (x : Int) (w : World) : Calls Try.prog 5 #[.int .i64 x] w (SX.Ret fun v w' => v = .bool true ∧ SX.St w [] w' []) := by
  have hs := SX.St.start w
  have h0 := ctlN_bd x
  refine Z.enter Try.func5 rfl Try.ntmps5 rfl rfl ?_
  refine Z.seq ?_
  refine Z.region ?_
  refine Z.lb 1 rfl ?_
  refine Z.lnil ?_
  refine Z.only [0] rfl ?_
  refine Z.nthen ?_
  refine Z.seq ?_
  refine Z.region ?_
  refine Z.lb 1 rfl ?_
  refine Z.le rfl trivial ?_
  refine Z.ZO.call rfl rfl (by rfl) rfl rfl Try.call21 rfl (mc_Control x _) ?_
  rintro v1_1 w1_1 ⟨rfl, hy⟩
  replace hs := hs.call hy
  clear hy
  try simp only [List.cons_append, List.nil_append, List.append_nil] at hs
  refine Z.lb 5 rfl ?_
  refine Z.lnil ?_
  refine Z.only [0, 3, 4] rfl ?_
  refine Z.nthen ?_
  refine Z.seq ?_
  refine Z.region ?_
  refine Z.lb 2 rfl ?_
  refine Z.le rfl trivial ?_
  refine Z.ZO.call rfl rfl (by rfl) rfl rfl Try.call22 rfl (mr_Control x _) ?_
  rintro v2_2 w2_2 ⟨rfl, hy⟩
  replace hs := hs.call hy
  clear hy
  try simp only [List.cons_append, List.nil_append, List.append_nil] at hs
  obtain ⟨c, hc⟩ : ∃ c, ctlN x = c := ⟨_, rfl⟩
  rw [hc] at h0 ⊢
  have hd : (decide (c ≠ 0) == decide (0 < c)) = true := by
    by_cases h : c = 0
    · subst h; rfl
    · rw [decide_eq_true h, decide_eq_true (by omega)]; rfl
  refine Z.l rfl rfl (by rfl) (Z.keepS hs) (Z.Yd.pure rfl) ?_
  refine Z.lb 1 rfl ?_
  refine Z.yes (s := 14) (b := true) rfl ((by simp)) rfl ?_
  refine Z.lb 3 rfl ?_
  refine Z.l rfl rfl (by rfl) (Z.keepS hs) (Z.Yd.bin rfl rfl (by intro _ w; go_simp; try rfl)) ?_
  refine Z.yes (s := 14) (b := true) rfl rfl rfl ?_
  refine Z.l rfl rfl (by rfl) (Z.keepS hs) (Z.Yd.pickT rfl rfl) ?_
  refine Z.lb 1 rfl ?_
  refine Z.yes (s := 20) (b := true) rfl ((by by_cases h : c = 0; (subst h; rfl); (simp [h]; omega))) rfl ?_
  refine Z.le rfl (by exact ⟨rfl, trivial⟩) ?_
  refine Z.ZO.call rfl rfl (by rfl) rfl rfl Try.call10 rfl (works23 _) ?_
  rintro v2_11 w2_11 ⟨rfl, hy⟩
  replace hs := hs.call hy
  clear hy
  try simp only [List.cons_append, List.nil_append, List.append_nil] at hs
  refine Z.l rfl rfl (by rfl) (Z.keepS hs) (Z.Yd.pickT rfl rfl) ?_
  refine Z.lb 1 rfl ?_
  refine Z.lnil ?_
  refine Z.only [2] rfl ?_
  refine Z.nthen ?_
  refine Z.ret ?_
  -- ret#0
  refine Z.out1 (by exact ⟨rfl, trivial⟩) ?_
  first | exact ⟨_, rfl, rfl, hs⟩ | exact ⟨_, rfl, rfl, hs.sub (List.nil_sublist _)⟩
theorem macpduControls_rd (a0 : Int) (w : World) (z0 : Rd Try.prog w 3 (Value.int .i64 a0).cells.toList) :
    Calls Try.prog 5 #[.int .i64 a0] w fun e w' => e = .returned (.bool true) ∧ Below w.heap.size w w' := by
  refine (macpduControls_walk a0 w).mono ?_
  rintro e w' ⟨v, rfl, rfl, h⟩
  exact ⟨rfl, h.below⟩
theorem small_bd {ps : List MpV} (h : smallP (ps.map MpV.plain) = true) : ps.length ≤ 12 ∧ (∀ q ∈ ps, q.l.length ≤ 300) ∧ ∀ q ∈ ps, q.l.length ≤ 100000 := by
  simp only [smallP, Bool.and_eq_true, decide_eq_true_eq, List.all_eq_true, List.length_map] at h
  have h2 : ∀ q ∈ ps, q.l.length ≤ 300 := fun q hq => h.2 q.plain (List.mem_map_of_mem hq)
  exact ⟨h.1, h2, fun q hq => by have := h2 q hq; omega⟩
theorem macpduFits_walk (size : Int) (A : Option Addr) (n c : Nat) (ps : List MpV) (w : World) (hx : Sl w A (ps.flatMap MpV.cells)) (hl : ps.length = n) (hn : n ≤ maxLen) (hB : ∀ q ∈ ps, Sl w q.B (ints .u8 q.l)) :
    Calls Try.prog 4 #[.int .i64 size, .slice A n c] w (SX.Ret fun v w' => v = .bool true ∧ SX.St w [] w' []) := by
  have hs := SX.St.start w
  refine Z.enter Try.func4 rfl Try.ntmps4 rfl rfl ?_
  refine Z.seq ?_
  refine Z.region ?_
  refine Z.lb 1 rfl ?_
  refine Z.lnil ?_
  refine Z.only [0, 1] rfl ?_
  refine Z.nthen ?_
  refine Z.seq ?_
  refine Z.seq ?_
  refine Z.region ?_
  refine Z.lb 1 rfl ?_
  refine Z.le rfl trivial ?_
  refine Z.ZO.call rfl rfl (by rfl) rfl rfl Try.call9 rfl (small23 A n c ps _ hx hl hn) ?_
  rintro v1_1 w1_1 ⟨rfl, hy⟩
  replace hs := hs.call hy
  clear hy
  try simp only [List.cons_append, List.nil_append, List.append_nil] at hs
  refine Z.lb 1 rfl ?_
  refine Z.lnil ?_
  refine Z.only [0, 1, 11] rfl ?_
  refine Z.nthen ?_
  refine Z.cond rfl (fun hc1 => ?_) (fun hc1 => ?_)
  · first
      | (exfalso; simp at hc1 <;> omega)
      | (
        (try simp at hc1)
        refine Z.seq ?_
        refine Z.region ?_
        refine Z.le rfl trivial ?_
        refine Z.ZO.call rfl rfl (by rfl) rfl rfl Try.call10 rfl (works23 _) ?_
        rintro v2_0 w2_0 ⟨rfl, hy⟩
        replace hs := hs.call hy
        clear hy
        try simp only [List.cons_append, List.nil_append, List.append_nil] at hs
        refine Z.lb 1 rfl ?_
        refine Z.lnil ?_
        refine Z.only [4] rfl ?_
        refine Z.nthen ?_
        refine Z.ret ?_
        repeat (first | refine Z.rthen ?_ | refine Z.rblock ?_ | refine Z.rscope ?_)
        -- ret#0
        refine Z.out1 (by exact ⟨rfl, trivial⟩) ?_
        first | exact ⟨_, rfl, rfl, hs⟩ | exact ⟨_, rfl, rfl, hs.sub (List.nil_sublist _)⟩
        )
  · first
      | (exfalso; simp at hc1 <;> omega)
      | (
        (try simp at hc1)
        obtain ⟨s1, s2, s3⟩ := small_bd (by simpa using hc1)
        refine Z.skip ?_
        refine Z.nthen ?_
        refine Z.seq ?_
        refine Z.region ?_
        refine Z.lb 2 rfl ?_
        refine Z.le rfl trivial ?_
        refine Z.ZO.call rfl rfl (by rfl) rfl rfl Try.call19 rfl (mc_Fit size A n c ps _ (hx.st (hs.sub (List.nil_sublist _))) hl (by omega) s3) ?_
        rintro v3_2 w3_2 ⟨rfl, hy⟩
        replace hs := hs.call hy
        clear hy
        try simp only [List.cons_append, List.nil_append, List.append_nil] at hs
        refine Z.lb 5 rfl ?_
        refine Z.lnil ?_
        refine Z.only [0, 1, 5, 6] rfl ?_
        refine Z.nthen ?_
        refine Z.seq ?_
        refine Z.region ?_
        refine Z.lb 2 rfl ?_
        refine Z.le rfl trivial ?_
        refine Z.ZO.call rfl rfl (by rfl) rfl rfl Try.call20 rfl (mr_Fit size A n c ps _ (hx.st (hs.sub (List.nil_sublist _))) hl (by omega) s3 (fun q hq ↦ (hB q hq).st (hs.sub (List.nil_sublist _)))) ?_
        rintro v4_2 w4_2 ⟨rfl, hy⟩
        replace hs := hs.call hy
        clear hy
        try simp only [List.cons_append, List.nil_append, List.append_nil] at hs
        refine Z.lb 5 rfl ?_
        refine Z.lnil ?_
        refine Z.only [5, 6, 7, 8] rfl ?_
        refine Z.nthen ?_
        refine Z.seq ?_
        refine Z.region ?_
        refine Z.lb 4 rfl ?_
        refine Z.le rfl trivial ?_
        refine Z.ZO.call rfl rfl (by rfl) rfl rfl Try.call17 rfl (counts23 _ _ _ _ _) ?_
        rintro v5_4 w5_4 ⟨rfl, hy⟩
        replace hs := hs.call hy
        clear hy
        try simp only [List.cons_append, List.nil_append, List.append_nil] at hs
        refine Z.lb 1 rfl ?_
        refine Z.yes (s := 30) (b := true) rfl ((by simp)) rfl ?_
        refine Z.le rfl (by exact ⟨rfl, trivial⟩) ?_
        refine Z.ZO.call rfl rfl (by rfl) rfl rfl Try.call10 rfl (works23 _) ?_
        rintro v5_6 w5_6 ⟨rfl, hy⟩
        replace hs := hs.call hy
        clear hy
        try simp only [List.cons_append, List.nil_append, List.append_nil] at hs
        refine Z.l rfl rfl (by rfl) (Z.keepS hs) (Z.Yd.pickT rfl rfl) ?_
        refine Z.lb 1 rfl ?_
        refine Z.lnil ?_
        refine Z.only [4] rfl ?_
        refine Z.nthen ?_
        refine Z.ret ?_
        -- ret#1
        refine Z.out1 (by exact ⟨rfl, trivial⟩) ?_
        first | exact ⟨_, rfl, rfl, hs⟩ | exact ⟨_, rfl, rfl, hs.sub (List.nil_sublist _)⟩
        )
theorem rd_part23 {W : World} {cs : List Value} (z : Rd Try.prog W 47 cs) : ∃ x : MpV, cs = x.cells ∧ (Sl W x.B (ints .u8 x.l) ∧ ∀ y ∈ x.l, 0 ≤ y ∧ y < 256) := by
  obtain ⟨hl, hf⟩ := Rd.field Try.underlying47 z
  have c2 : Try.prog.cellsOf 47 = 2 := by kernel_rfl
  have c1 : Try.prog.cellsOf 3 = 1 := by kernel_rfl
  have c0 : Try.prog.cellsOf 26 = 1 := by kernel_rfl
  rw [c2] at hl
  obtain ⟨x0, x1, rfl⟩ := list2 hl
  obtain ⟨lc, hlc, -⟩ := Rd.int Try.underlying3 (hf 0 _ rfl)
  have zb := hf 1 _ rfl
  obtain ⟨A, n, c, hb⟩ := Rb.sliceV Try.underlying26 zb
  rw [hb] at zb
  simp [c1, c0] at hlc hb
  subst hlc hb
  obtain ⟨l, h1, -, -, h4, h5⟩ := Rb.rd_bytes zb
  subst h1
  exact ⟨⟨lc, A, c, l⟩, rfl, h5, h4⟩
theorem rd_parts23 {W : World} {A : Option Addr} {n c : Nat} (z : Rd Try.prog W 22 [.slice A n c]) : ∃ l : List MpV, l.length = n ∧ n ≤ maxLen ∧ (∀ q ∈ l, Sl W q.B (ints .u8 q.l)) ∧ (∀ q ∈ l, ∀ y ∈ q.l, 0 ≤ y ∧ y < 256) ∧ Sl W A (l.flatMap MpV.cells) := by
  have c8 : Try.prog.cellsOf 47 = 2 := by kernel_rfl
  obtain ⟨xs, h1, h2, h3, h4, h5⟩ := Rd.rows MpV.cells (fun x => Sl W x.B (ints .u8 x.l) ∧ ∀ y ∈ x.l, 0 ≤ y ∧ y < 256) Try.underlying22 (by rw [c8]; decide) (fun r hr => rd_part23 hr) (fun x => c8.symm) z
  exact ⟨xs, h1, Nat.le_trans h2 h3, fun q hq => (h4 q hq).1, fun q hq => (h4 q hq).2, h5⟩
theorem macpduFits_rd (a0 : Int) (a1 : Option Addr) (len1 cap1 : Nat) (w : World) (z0 : Rd Try.prog w 3 (Value.int .i64 a0).cells.toList) (z1 : Rd Try.prog w 22 (Value.slice a1 len1 cap1).cells.toList) :
    Calls Try.prog 4 #[.int .i64 a0, .slice a1 len1 cap1] w fun e w' => e = .returned (.bool true) ∧ Below w.heap.size w w' := by
  obtain ⟨ps, h1, h2, h3, h4, h5⟩ := rd_parts23 (show Rd Try.prog w 22 [.slice a1 len1 cap1] by simpa [Value.cells] using z1)
  refine (macpduFits_walk a0 a1 len1 cap1 ps w h5 h1 h2 h3).mono ?_
  rintro e w' ⟨v, rfl, rfl, h⟩
  exact ⟨rfl, h.below⟩
end Go.Proofs.Ytogjkgoiofngaaa

/- MacpduBuilds. -/
namespace Go.Proofs.Ytogjkgoiofngaaa
open Go.RowKit
set_option linter.unusedSimpArgs false
set_option linter.unusedVariables false
--newlaws

/-- a list of parts of our own -/
def CopR (r : List Prt) (v : Value) (w w' : World) : Prop := ∃ qs, plainQ qs = r ∧ SX.St w [] w' (SX.Ent.row v 47 2 qs.length (cellsQ qs) :: rowsQ qs)
set_option maxHeartbeats 1000000 in
set_option maxRecDepth 100000 in
theorem copied23 (A : Option Addr) (n c : Nat) (ps : List MpV) (w : World) (hx : Sl w A (ps.flatMap MpV.cells)) (hl : ps.length = n) (hn : n ≤ 1000) (hf : ∀ q ∈ ps, q.l.length ≤ 100000) (hB : ∀ q ∈ ps, Sl w q.B (ints .u8 q.l)) :
    Calls Try.prog 11 #[.slice A n c] w (SX.Ret fun v w' => CopR (ps.map MpV.plain) v w w') := by
  have hs := SX.St.start w
  refine Z.enter Try.func11 rfl Try.ntmps11 rfl rfl ?_
  refine Z.seq ?_
  refine Z.region ?_
  refine Z.lb 1 rfl ?_
  refine Z.lnil ?_
  refine Z.only [0] rfl ?_
  refine Z.nthen ?_
  refine Z.seq ?_
  refine Z.region ?_
  refine Z.lb 1 rfl ?_
  refine Z.lnil ?_
  refine Z.only [0, 3] rfl ?_
  refine Z.nthen ?_
  refine Z.seq ?_
  refine Z.seq ?_
  refine Z.region ?_
  replace hs := hs.nil 47 2
  refine Z.l rfl rfl (by rfl) (Z.keepS hs) (Z.Yd.pure rfl) ?_
  refine Z.lnil ?_
  refine Z.only [0, 3, 4] rfl ?_
  refine Z.nthen ?_
  refine Z.block ?_
  refine Z.loopk (ι := Nat × List (MpV × Nat) × Value) [0] rfl (fun x => [(3, [], x.2.2), (4, [], .int .i64 (x.1 : Int))]) (fun x wr => (x.1 ≤ n ∧ x.2.1.length = x.1 ∧ plainQ x.2.1 = (ps.map MpV.plain).take x.1) ∧ SX.St w [] wr (SX.Ent.row x.2.2 47 2 x.2.1.length (cellsQ x.2.1) :: rowsQ x.2.1)) (fun x => n - x.1) (0, [], .slice none 0 0) (by refine ⟨?_, ?_, trivial⟩ <;> (first | rfl | (refine Z.lookv rfl ?_; simp; done) | (refine Z.lookv rfl ?_; simp; omega))) ⟨⟨Nat.zero_le _, rfl, rfl⟩, hs⟩ ?_
  clear hs
  rintro ⟨i, qs, svo⟩ w4 ⟨⟨hi, hql, hpl⟩, hs⟩
  refine Z.only [0, 3, 4] rfl ?_
  (try dsimp only at hs)
  dsimp only at hi hql hpl hs
  obtain ⟨Ao, co, rfl, -, -, -⟩ := SX.row_slv hs (j := 0) rfl
  refine Z.seq ?_
  refine Z.seq ?_
  refine Z.region ?_
  refine Z.lb 2 rfl ?_
  refine Z.l rfl rfl (by rfl) (Z.keepS hs) (Z.Yd.lenS rfl Try.underlying22) ?_
  refine Z.lb 1 rfl ?_
  refine Z.lnil ?_
  refine Z.only [0, 3, 4, 8] rfl ?_
  refine Z.nthen ?_
  refine Z.cond rfl (fun hc3 => ?_) (fun hc3 => ?_)
  · first
      | (exfalso; simp at hc3 <;> omega)
      | (
        (try simp at hc3)
        obtain ⟨b, off, rfl, hb0, hx2⟩ := Z.Sl.some hx (by rw [fl_len mp_len]; omega)
        obtain ⟨q, hqi⟩ : ∃ q, ps[i]? = some q := ⟨_, List.getElem?_eq_getElem (by omega)⟩
        have hqm := List.mem_of_getElem? hqi
        have hqf := hf q hqm
        have hqB := hB q hqm
        refine Z.skip ?_
        refine Z.nthen ?_
        refine Z.seq ?_
        refine Z.block ?_
        refine Z.drawL [] (fun _ => true) mixed hs ?_
        clear hs; intro wd5 hs
        refine Z.tb [0, 1, 2] (by kernel_rfl) rfl ⟨_, hs, by first | (simp; done) | exact fun e he => List.mem_append_right _ he⟩ rfl ?_
        refine Z.t 3 rfl rfl rfl (by rfl) (by kernel_rfl) ⟨_, hs, by first | (simp; done) | exact fun e he => List.mem_append_right _ he⟩ (Z.Yd.elem rfl rfl Try.underlying22 Try.sizeOf47 (fun hG => ⟨(by first | omega | (have hG' := Z.gh rfl hG; simp at hG'; omega)), (by first | omega | (have hG' := Z.gh rfl hG; simp at hG'; omega))⟩)) ?_
        refine Z.t 4 rfl rfl rfl (by rfl) (by kernel_rfl) ⟨_, hs, by first | (simp; done) | exact fun e he => List.mem_append_right _ he⟩ (Z.Yd.fieldA (m := 0) rfl (by kernel_rfl)) ?_
        refine Z.t 5 rfl rfl rfl (by rfl) (by kernel_rfl) ⟨_, hs, by first | (simp; done) | exact fun e he => List.mem_append_right _ he⟩ (Z.Yd.load rfl Try.isAgg3 (fun _ => Z.cellXf hx2.sx mp_len hqi rfl)) ?_
        refine Z.tb [7, 8] (by kernel_rfl) rfl ⟨_, hs, by first | (simp; done) | exact fun e he => List.mem_append_right _ he⟩ rfl ?_
        refine Z.t 9 rfl rfl rfl (by rfl) (by kernel_rfl) ⟨_, hs, by first | (simp; done) | exact fun e he => List.mem_append_right _ he⟩ (Z.Yd.elem rfl rfl Try.underlying22 Try.sizeOf47 (fun hG => ⟨(by first | omega | (have hG' := Z.gh rfl hG; simp at hG'; omega)), (by first | omega | (have hG' := Z.gh rfl hG; simp at hG'; omega))⟩)) ?_
        refine Z.t 10 rfl rfl rfl (by rfl) (by kernel_rfl) ⟨_, hs, by first | (simp; done) | exact fun e he => List.mem_append_right _ he⟩ (Z.Yd.fieldA (m := 1) rfl (by kernel_rfl)) ?_
        refine Z.t 11 rfl rfl rfl (by rfl) (by kernel_rfl) ⟨_, hs, by first | (simp; done) | exact fun e he => List.mem_append_right _ he⟩ (Z.Yd.load rfl Try.isAgg26 (fun _ => Z.cellXf hx2.sx mp_len hqi rfl)) ?_
        refine Z.tn 6 rfl rfl (by kernel_rfl) rfl trivial ?_
        refine Z.ZO.empty rfl rfl (by rfl) Try.underlying26 Try.sizeOf5 hs ?_
        clear hs; intro g17 w17 hs
        refine Z.tk (Dn := fun _ => true) (i := 6) (fun _ => ⟨_, hs, by first | (simp; done) | exact fun e he => List.mem_append_right _ he⟩) ?_
        refine Z.tn 12 rfl rfl (by kernel_rfl) rfl trivial ?_
        refine Z.ZO.appendG (i0 := Try.t5) (size := 1) (bytes := 1) rfl rfl (by rfl) hs Try.underlying26 (by kernel_rfl) rfl rfl rfl rfl (by decide) rfl rfl (by first | exact SX.at0 | exact SX.at1 | exact SX.at2 | exact SX.at3 | exact SX.at4 | exact SX.at5 | exact Z.at6 | exact Z.at7 | exact Z.at8 | exact Z.at9 | exact Z.at10 | exact Z.at11 | exact Z.at12) ((hqB.st (hs.sub (List.nil_sublist _)))) (by first | rfl | assumption | (simp [ints_length]; done) | (simp [ints_length]; omega)) (by first | exact Z.ints_one | assumption | simp [Value.oneCell']) (by unfold maxLen; omega) (by omega) ?_
        clear hs; intro v23 w23 hs
        simp only [List.set_cons_zero, List.set_cons_succ] at hs
        simp only [Nat.zero_add, List.nil_append] at hs
        obtain ⟨Ad, cd, rfl, -, -, -⟩ := SX.row_slv hs (j := 0) rfl
        refine Z.tk (Dn := fun _ => true) (i := 12) (fun _ => ⟨_, hs, by first | (simp; done) | exact fun e he => List.mem_append_right _ he⟩) ?_
        refine Z.t 13 rfl rfl rfl (by rfl) (by kernel_rfl) ⟨_, hs, by first | (simp; done) | exact fun e he => List.mem_append_right _ he⟩ (Z.Yd.buildL [(0, 1), (1, 1)] [.int .i64 0, .slice none 0 0] rfl rfl (by intro w; kernel_rfl)) ?_
        refine Z.tn 14 rfl rfl (by kernel_rfl) rfl trivial ?_
        refine Z.ZO.litL (T' := 47) [(0, 2)] [.int .i64 0, .slice none 0 0] rfl rfl (by rfl) rfl rfl (by intro W; kernel_rfl) hs ?_
        clear hs; intro g25 w25 hs
        refine Z.tk (Dn := fun _ => true) (i := 14) (fun _ => ⟨_, hs, by first | (simp; done) | exact fun e he => List.mem_append_right _ he⟩) ?_
        refine Z.tn 15 rfl rfl (by kernel_rfl) rfl trivial ?_
        refine Z.ZO.append (i0 := Try.t47) (size := 2) (bytes := 32) rfl rfl (by rfl) hs Try.underlying22 (by kernel_rfl) rfl rfl rfl rfl (by decide) rfl rfl (by first | exact SX.at0 | exact SX.at1 | exact SX.at2 | exact SX.at3 | exact SX.at4 | exact SX.at5 | exact Z.at6 | exact Z.at7 | exact Z.at8 | exact Z.at9 | exact Z.at10 | exact Z.at11 | exact Z.at12) (by first | exact SX.at0 | exact SX.at1 | exact SX.at2 | exact SX.at3 | exact SX.at4 | exact SX.at5 | exact Z.at6 | exact Z.at7 | exact Z.at8 | exact Z.at9 | exact Z.at10 | exact Z.at11 | exact Z.at12) (by first | rfl | simp) (by simp [Value.oneCell']) (by decide) (by unfold maxLen; omega) (by omega) ?_
        clear hs; intro g26 cap26 w26 hs
        simp only [List.set_cons_zero, List.set_cons_succ, List.eraseIdx_cons_zero, List.eraseIdx_cons_succ] at hs
        refine Z.tk (Dn := fun _ => true) (i := 15) (fun _ => ⟨_, hs, by first | (simp; done) | exact fun e he => List.mem_append_right _ he⟩) ?_
        refine Z.tb [16] (by kernel_rfl) rfl ⟨_, hs, by first | (simp; done) | exact fun e he => List.mem_append_right _ he⟩ rfl ?_
        refine Z.td (by rfl) (by kernel_rfl) ?_
        refine Z.only [0, 3, 4] rfl ?_
        refine Z.nblock ?_
        refine Z.nthen ?_
        refine Z.region ?_
        refine Z.lb 1 rfl ?_
        refine Z.l rfl rfl (by rfl) (Z.keepS hs) (Z.Yd.add rfl rfl (fun hG => Z.wi64 (by first | omega | (have hG' := Z.gh rfl hG; simp at hG'; omega)))) ?_
        refine Z.lb 1 rfl ?_
        refine Z.lnil ?_
        refine Z.only [0, 3, 4] rfl ?_
        refine Z.nthen ?_
        have e1 : (qs ++ [((⟨q.lc, Ad, cd, q.l⟩ : MpV), cd)]).length = qs.length + 1 := by simp
        have e2 : cellsQ (qs ++ [((⟨q.lc, Ad, cd, q.l⟩ : MpV), cd)]) = cellsQ qs ++ [.int .i64 q.lc, .slice Ad q.l.length cd] := by simp [cellsQ, MpV.cells]
        have e3 : rowsQ (qs ++ [((⟨q.lc, Ad, cd, q.l⟩ : MpV), cd)]) = rowsQ qs ++ [SX.Ent.row (.slice Ad q.l.length cd) 5 1 q.l.length (ints .u8 q.l)] := by simp [rowsQ]
        have e4 : plainQ (qs ++ [((⟨q.lc, Ad, cd, q.l⟩ : MpV), cd)]) = plainQ qs ++ [q.plain] := by simp [plainQ, MpV.plain]
        have hs2 := SX.St.tailU (A := [_]) (Q := rowsQ qs) (hs.selT (L1 := [_, _]) [1, 0] (by decide))
        rw [← e1, ← e2, ← e3] at hs2
        exact Z.again (i + 1, qs ++ [((⟨q.lc, Ad, cd, q.l⟩ : MpV), cd)], _) (by refine ⟨?_, ?_, ?_, trivial⟩ <;> (first | rfl | (refine Z.lookv rfl ?_; simp; done) | (refine Z.lookv rfl ?_; simp; omega))) ⟨⟨by simp only; omega, by simp only [e1]; omega, by simp only [e4]; rw [hpl, plain_take hqi]⟩, hs2⟩ (by simp only; omega)
        )
  · first
      | (exfalso; simp at hc3 <;> omega)
      | (
        (try simp at hc3)
        refine Z.exit ?_
        refine Z.xthen ?_
        refine Z.xthen ?_
        refine Z.xblock ?_
        refine Z.nthen ?_
        refine Z.seq ?_
        refine Z.region ?_
        refine Z.lb 2 rfl ?_
        refine Z.lnil ?_
        refine Z.only [2] rfl ?_
        refine Z.nthen ?_
        refine Z.ret ?_
        -- ret#0
        refine Z.out1 (by exact ⟨rfl, trivial⟩) ?_
        obtain rfl : i = n := by omega
        exact ⟨_, rfl, qs, by rw [hpl, List.take_of_length_le (by simp; omega)], hs⟩
        )
theorem plain_all {qs : List (MpV × Nat)} {ps : List MpV} {P : Prt → Prop} (h : plainQ qs = ps.map MpV.plain) (hr : ∀ q ∈ ps, P q.plain) : ∀ q ∈ qs.map Prod.fst, P q.plain := by
  intro q hq
  have h1 : q.plain ∈ ps.map MpV.plain := by
    rw [← h, ← plainQ_fst]
    exact List.mem_map_of_mem hq
  obtain ⟨x, hx, e⟩ := List.mem_map.1 h1
  rw [← e]
  exact hr x hx
set_option maxHeartbeats 1000000 in
set_option maxRecDepth 100000 in
theorem macpduBuilds_walk (size : Int) (A : Option Addr) (n c : Nat) (ps : List MpV) (w : World) (hx : Sl w A (ps.flatMap MpV.cells)) (hl : ps.length = n) (hn : n ≤ maxLen) (hB : ∀ q ∈ ps, Sl w q.B (ints .u8 q.l)) (hby : ∀ q ∈ ps, ∀ y ∈ q.l, 0 ≤ y ∧ y < 256) :
    Calls Try.prog 3 #[.int .i64 size, .slice A n c] w (SX.Ret fun v w' => v = .bool true ∧ SX.St w [] w' []) := by
  have hs := SX.St.start w
  refine Z.enter Try.func3 rfl Try.ntmps3 rfl rfl ?_
  refine Z.seq ?_
  refine Z.region ?_
  refine Z.lb 1 rfl ?_
  refine Z.lnil ?_
  refine Z.only [0, 1] rfl ?_
  refine Z.nthen ?_
  refine Z.seq ?_
  refine Z.seq ?_
  refine Z.region ?_
  refine Z.lb 1 rfl ?_
  refine Z.le rfl trivial ?_
  refine Z.ZO.call rfl rfl (by rfl) rfl rfl Try.call9 rfl (small23 A n c ps _ hx hl hn) ?_
  rintro v1_1 w1_1 ⟨rfl, hy⟩
  replace hs := hs.call hy
  clear hy
  try simp only [List.cons_append, List.nil_append, List.append_nil] at hs
  refine Z.lb 1 rfl ?_
  refine Z.lnil ?_
  refine Z.only [0, 1, 16] rfl ?_
  refine Z.nthen ?_
  refine Z.cond rfl (fun hc1 => ?_) (fun hc1 => ?_)
  · first
      | (exfalso; simp at hc1 <;> omega)
      | (
        (try simp at hc1)
        refine Z.seq ?_
        refine Z.region ?_
        refine Z.le rfl trivial ?_
        refine Z.ZO.call rfl rfl (by rfl) rfl rfl Try.call10 rfl (works23 _) ?_
        rintro v2_0 w2_0 ⟨rfl, hy⟩
        replace hs := hs.call hy
        clear hy
        try simp only [List.cons_append, List.nil_append, List.append_nil] at hs
        refine Z.lb 1 rfl ?_
        refine Z.lnil ?_
        refine Z.only [4] rfl ?_
        refine Z.nthen ?_
        refine Z.ret ?_
        repeat (first | refine Z.rthen ?_ | refine Z.rblock ?_ | refine Z.rscope ?_)
        -- ret#0
        refine Z.out1 (by exact ⟨rfl, trivial⟩) ?_
        exact ⟨_, rfl, by first | rfl | (rw [epl]; simp), hs.sub (List.nil_sublist _)⟩
        )
  · first
      | (exfalso; simp at hc1 <;> omega)
      | (
        (try simp at hc1)
        obtain ⟨s1, s2, s3⟩ := small_bd (by simpa using hc1)
        refine Z.skip ?_
        refine Z.nthen ?_
        refine Z.seq ?_
        refine Z.region ?_
        refine Z.lb 1 rfl ?_
        refine Z.le rfl trivial ?_
        refine Z.ZO.call rfl rfl (by rfl) rfl rfl Try.call11 rfl (copied23 A n c ps _ (hx.st (hs.sub (List.nil_sublist _))) hl (by omega) s3 (fun q hq ↦ (hB q hq).st (hs.sub (List.nil_sublist _)))) ?_
        rintro v3_1 w3_1 ⟨qs, hpq, hy⟩
        replace hs := hs.call hy
        clear hy
        try simp only [List.cons_append, List.nil_append, List.append_nil] at hs
        obtain ⟨Ac, cc, rfl, -, -, -⟩ := SX.row_slv hs (j := 0) rfl
        rw [cellsQ_fst] at hs
        have hqf : ∀ q ∈ qs.map Prod.fst, q.l.length ≤ 100000 := plain_all (P := fun p => p.2.length ≤ 100000) hpq s3
        have hqb : ∀ q ∈ qs.map Prod.fst, ∀ y ∈ q.l, 0 ≤ y ∧ y < 256 := plain_all (P := fun p => ∀ y ∈ p.2, 0 ≤ y ∧ y < 256) hpq hby
        have hql : qs.length = n := by have h7 := congrArg List.length hpq; simp [plainQ] at h7; omega
        have epl : (qs.map Prod.fst).map MpV.plain = ps.map MpV.plain := by rw [plainQ_fst, hpq]
        refine Z.lb 1 rfl ?_
        refine Z.lnil ?_
        refine Z.only [0, 1, 5] rfl ?_
        refine Z.nthen ?_
        refine Z.seq ?_
        refine Z.region ?_
        refine Z.lb 2 rfl ?_
        refine Z.le rfl trivial ?_
        refine Z.ZO.call rfl rfl (by rfl) rfl rfl Try.call12 rfl (mc_Build size Ac _ cc (qs.map Prod.fst) _ (hs.slm (A := Ac) (by first | ((repeat (first | exact List.mem_cons_self | refine List.mem_cons_of_mem _ ?_ | refine List.mem_append_right _ ?_)); done) | fail)) (by simp) (by omega) hqf (rowsQ_sl hs (fun e he ↦ by simp [he])) hqb) ?_
        rintro v4_2 w4_2 ⟨sv1, rfl, hy⟩
        replace hs := hs.call hy
        clear hy
        try simp only [List.cons_append, List.nil_append, List.append_nil] at hs
        rw [epl]
        rw [epl] at hs
        obtain ⟨B1, k1, rfl, -, -, -⟩ := SX.row_slv hs (j := 0) rfl
        refine Z.lb 5 rfl ?_
        refine Z.lnil ?_
        refine Z.only [0, 1, 5, 6, 7] rfl ?_
        refine Z.nthen ?_
        refine Z.seq ?_
        refine Z.region ?_
        refine Z.lb 2 rfl ?_
        refine Z.le rfl trivial ?_
        refine Z.ZO.call rfl rfl (by rfl) rfl rfl Try.call13 rfl (mr_Build size A n c ps _ (hx.st (hs.sub (List.nil_sublist _))) hl (by omega) s3 (fun q hq ↦ (hB q hq).st (hs.sub (List.nil_sublist _)))) ?_
        rintro v5_2 w5_2 ⟨sv2, rfl, hy⟩
        replace hs := hs.call hy
        clear hy
        try simp only [List.cons_append, List.nil_append, List.append_nil] at hs
        obtain ⟨B2, k2, rfl, -, -, -⟩ := SX.row_slv hs (j := 0) rfl
        refine Z.lb 5 rfl ?_
        refine Z.lnil ?_
        refine Z.only [1, 5, 6, 7, 8, 9] rfl ?_
        refine Z.nthen ?_
        refine Z.seq ?_
        refine Z.region ?_
        refine Z.lb 1 rfl ?_
        refine Z.le rfl trivial ?_
        refine Z.ZO.call rfl rfl (by rfl) rfl rfl Try.call14 rfl (mc_Need Ac _ cc (qs.map Prod.fst) _ (hs.slm (A := Ac) (by first | ((repeat (first | exact List.mem_cons_self | refine List.mem_cons_of_mem _ ?_ | refine List.mem_append_right _ ?_)); done) | fail)) (by simp) (by omega) hqf) ?_
        rintro v6_1 w6_1 ⟨rfl, hy⟩
        replace hs := hs.call hy
        clear hy
        try simp only [List.cons_append, List.nil_append, List.append_nil] at hs
        rw [epl]
        refine Z.lb 5 rfl ?_
        refine Z.lnil ?_
        refine Z.only [1, 5, 6, 7, 8, 9, 10, 11] rfl ?_
        refine Z.nthen ?_
        refine Z.seq ?_
        refine Z.region ?_
        refine Z.lb 1 rfl ?_
        refine Z.le rfl trivial ?_
        refine Z.ZO.call rfl rfl (by rfl) rfl rfl Try.call15 rfl (mr_Need A n c ps _ (hx.st (hs.sub (List.nil_sublist _))) hl (by omega) s3 (fun q hq ↦ (hB q hq).st (hs.sub (List.nil_sublist _)))) ?_
        rintro v7_1 w7_1 ⟨rfl, hy⟩
        replace hs := hs.call hy
        clear hy
        try simp only [List.cons_append, List.nil_append, List.append_nil] at hs
        refine Z.lb 5 rfl ?_
        refine Z.lnil ?_
        refine Z.only [1, 5, 6, 7, 8, 9, 10, 11, 12, 13] rfl ?_
        refine Z.nthen ?_
        refine Z.seq ?_
        refine Z.region ?_
        refine Z.lb 3 rfl ?_
        refine Z.l rfl rfl (by rfl) (Z.keepS hs) (Z.Yd.b2s rfl Try.underlying26 Try.underlying5 Try.underlying9 rfl (fun W hW => by obtain ⟨R, hR, hsub⟩ := hW; exact hR.slm (A := B2) (hsub _ (by first | ((repeat (first | exact List.mem_cons_self | refine List.mem_cons_of_mem _ ?_ | refine List.mem_append_right _ ?_)); done) | fail)))) ?_
        refine Z.lb 1 rfl ?_
        refine Z.le rfl trivial ?_
        refine Z.ZO.call rfl rfl (by rfl) rfl rfl Try.call16 rfl (is23 _ _ B1 _ _ _ _ _ (hs.slm (A := B1) (by first | ((repeat (first | exact List.mem_cons_self | refine List.mem_cons_of_mem _ ?_ | refine List.mem_append_right _ ?_)); done) | fail)) rfl) ?_
        rintro v8_5 w8_5 ⟨rfl, hy⟩
        replace hs := hs.call hy
        clear hy
        try simp only [List.cons_append, List.nil_append, List.append_nil] at hs
        refine Z.lb 1 rfl ?_
        refine Z.yes (s := 48) (b := true) rfl ((by simp)) rfl ?_
        refine Z.lb 4 rfl ?_
        refine Z.yes (s := 48) (b := true) rfl rfl rfl ?_
        refine Z.le rfl (by exact ⟨rfl, trivial⟩) ?_
        refine Z.ZO.call rfl rfl (by rfl) rfl rfl Try.call17 rfl (counts23 _ _ _ _ _) ?_
        rintro v8_11 w8_11 ⟨rfl, hy⟩
        replace hs := hs.call hy
        clear hy
        try simp only [List.cons_append, List.nil_append, List.append_nil] at hs
        refine Z.l rfl rfl (by rfl) (Z.keepS hs) (Z.Yd.pickT rfl rfl) ?_
        refine Z.lb 1 rfl ?_
        refine Z.yes (s := 55) (b := true) rfl ((by simp)) rfl ?_
        refine Z.lb 2 rfl ?_
        refine Z.yes (s := 55) (b := true) rfl rfl rfl ?_
        refine Z.le rfl (by exact ⟨rfl, trivial⟩) ?_
        refine Z.ZO.call rfl rfl (by rfl) rfl rfl Try.call18 rfl (mr_Same Ac A _ cc n c (qs.map Prod.fst) ps _ (hs.slm (A := Ac) (by first | ((repeat (first | exact List.mem_cons_self | refine List.mem_cons_of_mem _ ?_ | refine List.mem_append_right _ ?_)); done) | fail)) (hx.st (hs.sub (List.nil_sublist _))) (by simp) hl (by omega) (rowsQ_sl hs (fun e he ↦ by simp [he])) (fun q hq ↦ (hB q hq).st (hs.sub (List.nil_sublist _))) hqb hby) ?_
        rintro v8_16 w8_16 ⟨rfl, hy⟩
        replace hs := hs.call hy
        clear hy
        try simp only [List.cons_append, List.nil_append, List.append_nil] at hs
        refine Z.l rfl rfl (by rfl) (Z.keepS hs) (Z.Yd.pickT rfl rfl) ?_
        refine Z.lb 1 rfl ?_
        refine Z.yes (s := 60) (b := true) rfl ((by rw [epl]; simp)) rfl ?_
        refine Z.le rfl (by exact ⟨rfl, trivial⟩) ?_
        refine Z.ZO.call rfl rfl (by rfl) rfl rfl Try.call10 rfl (works23 _) ?_
        rintro v8_19 w8_19 ⟨rfl, hy⟩
        replace hs := hs.call hy
        clear hy
        try simp only [List.cons_append, List.nil_append, List.append_nil] at hs
        refine Z.l rfl rfl (by rfl) (Z.keepS hs) (Z.Yd.pickT rfl rfl) ?_
        refine Z.lb 1 rfl ?_
        refine Z.lnil ?_
        refine Z.only [4] rfl ?_
        refine Z.nthen ?_
        refine Z.ret ?_
        -- ret#1
        refine Z.out1 (by exact ⟨rfl, trivial⟩) ?_
        exact ⟨_, rfl, by first | rfl | (rw [epl]; simp), hs.sub (List.nil_sublist _)⟩
        )
theorem macpduBuilds_rd (a0 : Int) (a1 : Option Addr) (len1 cap1 : Nat) (w : World) (z0 : Rd Try.prog w 3 (Value.int .i64 a0).cells.toList) (z1 : Rd Try.prog w 22 (Value.slice a1 len1 cap1).cells.toList) :
    Calls Try.prog 3 #[.int .i64 a0, .slice a1 len1 cap1] w fun e w' => e = .returned (.bool true) ∧ Below w.heap.size w w' := by
  obtain ⟨ps, h1, h2, h3, h4, h5⟩ := rd_parts23 (show Rd Try.prog w 22 [.slice a1 len1 cap1] by simpa [Value.cells] using z1)
  refine (macpduBuilds_walk a0 a1 len1 cap1 ps w h5 h1 h2 h3 h4).mono ?_
  rintro e w' ⟨v, rfl, rfl, h⟩
  exact ⟨rfl, h.below⟩
end Go.Proofs.Ytogjkgoiofngaaa

/- MacpduBounds. -/
namespace Go.Proofs.Ytogjkgoiofngaaa
open Go.RowKit
set_option linter.unusedSimpArgs false
set_option linter.unusedVariables false
--newlaws

def exZ (ch : Int) (B : Option Addr) (zs : List Int) : MpV := ⟨ch, B, zs.length, zs⟩
theorem exZ_pl {ch : Int} {B : Option Addr} {zs : List Int} : [exZ ch B zs].map MpV.plain = [(ch, zs)] := rfl
theorem exZ_f {ch : Int} {B : Option Addr} {zs : List Int} (h : zs.length ≤ 100000) : ∀ q ∈ [exZ ch B zs], q.l.length ≤ 100000 := by
  intro q hq
  obtain rfl : q = _ := by simpa using hq
  exact h
theorem exZ_sl {w : World} {ch : Int} {B : Option Addr} {zs : List Int} (h : Sl w B (ints .u8 zs)) : ∀ q ∈ [exZ ch B zs], Sl w q.B (ints .u8 q.l) := by
  intro q hq
  obtain rfl : q = _ := by simpa using hq
  exact h
theorem exZ_by {ch : Int} {B : Option Addr} {zs : List Int} (h : ∀ x ∈ zs, 0 ≤ x ∧ x < 256) : ∀ q ∈ [exZ ch B zs], ∀ x ∈ q.l, 0 ≤ x ∧ x < 256 := by
  intro q hq
  obtain rfl : q = _ := by simpa using hq
  exact h
theorem zero_by {zs : List Int} (h : zs = List.replicate zs.length 0) : ∀ x ∈ zs, 0 ≤ x ∧ x < 256 := by
  intro x hx
  rw [h] at hx
  obtain rfl := List.eq_of_mem_replicate hx
  decide
theorem zero_ints {zs : List Int} (h : zs = List.replicate zs.length 0) : List.replicate zs.length (Value.int .u8 0) = ints .u8 zs := by
  obtain ⟨m, hm⟩ : ∃ m, zs.length = m := ⟨_, rfl⟩
  rw [hm] at h ⊢
  subst h
  simp [ints]
theorem cons_by {ch : Int} {zs : List Int} (h : 0 ≤ ch ∧ ch < 256) (hz : ∀ x ∈ zs, 0 ≤ x ∧ x < 256) : ∀ x ∈ ch :: zs, 0 ≤ x ∧ x < 256 := by
  intro x hx
  rcases List.mem_cons.1 hx with rfl | hx
  · exact h
  · exact hz x hx
theorem vld_one (p : Prt) : vldP false [p] = if sduB p.1 then decide (1 ≤ p.2.length ∧ p.2.length ≤ 32767) && true else !false && decide (ctlN p.1 ≠ 0) && decide ((p.2.length : Int) = ctlN p.1) && true := rfl
theorem need_one (p : Prt) : needP [p] = 1 + (p.2.length : Int) := by
  unfold needP
  rw [totP_cons]
  simp [totP, lastP]
  omega
theorem bld_zero {size : Int} {r : List Prt} (h : 1 ≤ size ∧ size ≤ 16384) (ho : okN r) (hn : needP r ≤ size) : (bldV size r).2 = 0 := by
  unfold bldV
  rw [if_neg (fun k => k ⟨h, ho⟩), if_neg (by omega)]
  split <;> rfl
theorem bld_len {size : Int} {r : List Prt} (h : (bldV size r).2 = 0) : ((bldV size r).1.length : Int) = size := by
  by_cases h1 : (1 ≤ size ∧ size ≤ 16384) ∧ okN r
  · by_cases h2 : size - needP r < 0
    · rw [bld_long h1 h2] at h; exact absurd h (by decide)
    · obtain ⟨d, hd⟩ : ∃ d : Nat, size - needP r = (d : Int) := ⟨(size - needP r).toNat, by omega⟩
      by_cases h3 : d ≤ 2
      · rw [bld_few h1 hd h3]
        have hl := headB_len_f r d h1.2.1
        simp only [join_few]
        omega
      · have hnt := need_tot r
        rw [bld_pad h1 (by omega)]
        obtain ⟨M, hM⟩ : ∃ M : Nat, size - (totP r + 1) = (M : Int) := ⟨(size - (totP r + 1)).toNat, by omega⟩
        have hl := headB_len_t r
        rw [hM]
        simp only [join_tr]
        rw [List.length_append, List.length_replicate]
        omega
  · rw [bld_arg h1] at h; exact absurd h (by decide)
theorem par_one {ch : Int} {zs : List Int} (hsd : sduB ch) (h : 1 ≤ zs.length ∧ zs.length ≤ 16383) : parV (ch :: zs) = (0, [(ch, zs)]) := by
  have h1 := par_join (r := [(ch, zs)]) (a := false) (f := 0) (M := 0) (by simp) (by rw [vld_one, if_pos hsd]; simp; omega) (by omega) (fun _ => rfl) (by simp [headB, hdsR, datR]; omega)
  simpa [headB, hdsR, datR] using h1
set_option maxHeartbeats 1000000 in
set_option maxRecDepth 100000 in
theorem bounds_in (ch : Int) (zs ys : List Int) (w : World) (hch : 1 ≤ ch ∧ ch ≤ 10) (hz : zs = List.replicate zs.length 0) (hy : ys = List.replicate ys.length 0) (hzl : zs.length = 16383) (hyl : ys.length = 32767) :
    Calls Try.prog 6 #[.int .i64 ch, .bool false] w (SX.Ret fun v w' => v = .bool true ∧ SX.St w [] w' []) := by
  have hs := SX.St.start w
  have hsd : sduB ch := hch
  have hzb := zero_by hz
  have hyb := zero_by hy
  have ez := zero_ints hz
  have ey := zero_ints hy
  have hf0 : fitV (16384 + 0) (List.map MpV.plain []) = (16383, 0) := by decide +kernel
  have hok : okN [(ch, zs)] := ⟨by simp, by rw [vld_one, if_pos hsd]; simp; omega⟩
  have hb2 : (bldV (16384 + 0) [(ch, zs)]).2 = 0 := bld_zero (by omega) hok (by rw [need_one]; simp only; omega)
  have hb3 : (bldV (16384 + 0) [(ch, zs)]).1.length = 16384 := by have := bld_len hb2; omega
  have hp1 : parV (ch :: zs) = (0, [(ch, zs)]) := par_one hsd (by omega)
  have hn1 : needV [(ch, ys)] = (needP [(ch, ys)], 0) := if_pos ⟨by simp, by rw [vld_one, if_pos hsd]; simp; omega⟩
  refine Z.enter Try.func6 rfl Try.ntmps6 rfl rfl ?_
  refine Z.seq ?_
  refine Z.region ?_
  refine Z.lb 1 rfl ?_
  refine Z.lnil ?_
  refine Z.only [0, 1] rfl ?_
  refine Z.nthen ?_
  refine Z.seq ?_
  refine Z.seq ?_
  refine Z.region ?_
  refine Z.lb 6 rfl ?_
  refine Z.lnil ?_
  refine Z.only [0, 1, 20] rfl ?_
  refine Z.nthen ?_
  refine Z.cond rfl (fun h => absurd h (by simp; omega)) (fun hc1 => ?_)
  refine Z.skip ?_
  refine Z.nthen ?_
  refine Z.seq ?_
  refine Z.region ?_
  refine Z.lb 1 rfl ?_
  refine Z.lnil ?_
  refine Z.only [0, 1, 5] rfl ?_
  refine Z.nthen ?_
  refine Z.seq ?_
  refine Z.seq ?_
  refine Z.region ?_
  refine Z.lb 1 rfl ?_
  refine Z.lnil ?_
  refine Z.only [0, 1, 5, 22] rfl ?_
  refine Z.nthen ?_
  refine Z.cond rfl (fun h => absurd h (by simp)) (fun hc4 => ?_)
  refine Z.skip ?_
  refine Z.nthen ?_
  refine Z.seq ?_
  refine Z.region ?_
  refine Z.lb 2 rfl ?_
  refine Z.l rfl rfl (by rfl) (Z.keepS hs) (Z.Yd.add rfl rfl (fun hG => Z.wi64 (by first | omega | (have hG' := Z.gh rfl hG; simp at hG'; omega)))) ?_
  rw [show (16383 : Int) + 0 = (zs.length : Int) from by omega]
  refine Z.le rfl trivial ?_
  refine Z.ZO.make1 (m := zs.length) (i0 := Try.t5) (bytes := 1) rfl rfl (by rfl) hs Try.underlying26 (by kernel_rfl) rfl rfl rfl rfl rfl rfl (by omega) (by unfold maxLen; omega) ?_
  clear hs; intro g26 w26 hs
  rw [ez] at hs
  refine Z.l rfl rfl (by rfl) (Z.keepS hs) (Z.Yd.buildL [(0, 1), (1, 1)] [.int .i64 0, .slice none 0 0] rfl rfl (by intro w; kernel_rfl)) ?_
  refine Z.le rfl trivial ?_
  refine Z.ZO.alloc rfl rfl (by rfl) Try.zeroValue47 rfl hs ?_
  clear hs; intro g6 w6 hs
  refine Z.le rfl trivial ?_
  first | refine Z.ZO.storeA rfl rfl hs rfl rfl (by kernel_rfl) (by first | (simp [Value.oneCell']; done) | (refine Z.all_one ?_; assumption)) (by first | exact SX.at0 | exact SX.at1 | exact SX.at2 | exact SX.at3 | exact SX.at4 | exact SX.at5 | exact Z.at6 | exact Z.at7 | exact Z.at8 | exact Z.at9 | exact Z.at10 | exact Z.at11 | exact Z.at12) (by rfl) ?_ | refine Z.ZO.storeP rfl rfl hs rfl rfl (by kernel_rfl) (by first | (simp [Value.oneCell']; done) | (refine Z.all_one ?_; assumption)) (by first | exact SX.at0 | exact SX.at1 | exact SX.at2 | exact SX.at3 | exact SX.at4 | exact SX.at5 | exact Z.at6 | exact Z.at7 | exact Z.at8 | exact Z.at9 | exact Z.at10 | exact Z.at11 | exact Z.at12) (by first | decide | (simp; done) | (simp; omega)) ?_ | refine Z.ZO.storePR rfl rfl hs rfl rfl (by kernel_rfl) (by first | (simp [Value.oneCell']; done) | (refine Z.all_one ?_; assumption)) (by first | exact SX.at0 | exact SX.at1 | exact SX.at2 | exact SX.at3 | exact SX.at4 | exact SX.at5 | exact Z.at6 | exact Z.at7 | exact Z.at8 | exact Z.at9 | exact Z.at10 | exact Z.at11 | exact Z.at12) (by first | decide | (simp; done) | (simp; omega)) ?_
  clear hs; intro ws hs
  simp only [Nat.zero_add, Nat.add_zero, Nat.reduceAdd, Int.reduceToNat, Nat.reduceMul, List.set_cons_zero, List.set_cons_succ, List.setIfInBounds_toArray] at hs
  try simp only [Z.putL, Nat.zero_add] at hs
  refine Z.lnil ?_
  refine Z.only [0, 1, 5, 6] rfl ?_
  refine Z.nthen ?_
  refine Z.seq ?_
  refine Z.region ?_
  refine Z.lb 1 rfl ?_
  refine Z.l rfl rfl (by rfl) (Z.keepS hs) (Z.Yd.add rfl rfl (fun hG => Z.wi64 (by first | omega | (have hG' := Z.gh rfl hG; simp at hG'; omega)))) ?_
  refine Z.le rfl trivial ?_
  refine Z.ZO.call rfl rfl (by rfl) rfl rfl Try.call19 rfl (mc_Fit _ none 0 0 [] _ sl_nil23 rfl (by decide) (by simp)) ?_
  rintro v7_2 w7_2 ⟨rfl, hy⟩
  replace hs := hs.call hy
  clear hy
  try simp only [List.cons_append, List.nil_append, List.append_nil] at hs
  rw [hf0]
  refine Z.lb 5 rfl ?_
  refine Z.lnil ?_
  refine Z.only [0, 1, 5, 6, 7, 8] rfl ?_
  refine Z.nthen ?_
  refine Z.seq ?_
  refine Z.region ?_
  refine Z.lb 1 rfl ?_
  refine Z.l rfl rfl (by rfl) (Z.keepS hs) (Z.Yd.add rfl rfl (fun hG => Z.wi64 (by first | omega | (have hG' := Z.gh rfl hG; simp at hG'; omega)))) ?_
  refine Z.l rfl rfl (by rfl) (Z.keepS hs) (by first | exact Z.Yd.loadA _ rfl Try.isAgg47 (fun _ => Z.cellsB (by first | ((repeat (first | exact List.mem_cons_self | refine List.mem_cons_of_mem _ ?_ | refine List.mem_append_right _ ?_)); done) | fail)) (by exact Try.sizeOf47) | fail "load 8.2") ?_
  refine Z.le rfl trivial ?_
  refine Z.ZO.litL (T' := 47) [(0, 2)] [.int .i64 0, .slice none 0 0] rfl rfl (by rfl) rfl rfl (by intro W; kernel_rfl) hs ?_
  clear hs; intro g38 w38 hs
  refine Z.le rfl trivial ?_
  refine Z.ZO.call rfl rfl (by rfl) rfl rfl Try.call12 rfl (mc_Build _ (some ⟨g38, 0, none⟩) 1 1 [exZ ch (some ⟨g26, 0, none⟩) zs] _ (by have h0 := hs.blkSl (g := g38) (by first | ((repeat (first | exact List.mem_cons_self | refine List.mem_cons_of_mem _ ?_ | refine List.mem_append_right _ ?_)); done) | fail); exact h0) rfl (by decide) (exZ_f (by omega)) (exZ_sl (hs.slm (A := some ⟨g26, 0, none⟩) (by first | ((repeat (first | exact List.mem_cons_self | refine List.mem_cons_of_mem _ ?_ | refine List.mem_append_right _ ?_)); done) | fail))) (exZ_by hzb)) ?_
  rintro v8_4 w8_4 ⟨sv1, rfl, hy⟩
  replace hs := hs.call hy
  clear hy
  try simp only [List.cons_append, List.nil_append, List.append_nil] at hs
  rw [exZ_pl, hb2]
  rw [exZ_pl, hb3] at hs
  obtain ⟨B1, k1, rfl, -, -, -⟩ := SX.row_slv hs (j := 0) rfl
  refine Z.lb 5 rfl ?_
  refine Z.lnil ?_
  refine Z.only [0, 1, 5, 6, 7, 8, 9, 10] rfl ?_
  refine Z.nthen ?_
  refine Z.seq ?_
  refine Z.region ?_
  refine Z.lb 1 rfl ?_
  refine Z.l rfl rfl (by rfl) (Z.keepS hs) (Z.Yd.convI rfl ⟨_, Try.underlying3⟩ Try.underlying5 (fun _ => Z.wu8 (by omega))) ?_
  refine Z.le rfl trivial ?_
  refine Z.ZO.litL (T' := 5) [(0, 1)] [.int .u8 0] rfl rfl (by rfl) rfl rfl (by intro W; kernel_rfl) hs ?_
  clear hs; intro g45 w45 hs
  refine Z.l rfl rfl (by rfl) (Z.keepS hs) (Z.Yd.fieldA (m := 1) rfl (by kernel_rfl)) ?_
  refine Z.l rfl rfl (by rfl) (Z.keepS hs) (by first | exact Z.Yd.load rfl Try.isAgg26 (fun _ => Z.cellB (by first | ((repeat (first | exact List.mem_cons_self | refine List.mem_cons_of_mem _ ?_ | refine List.mem_append_right _ ?_)); done) | fail) rfl) | exact Z.Yd.load rfl Try.isAgg26 (fun _ => Z.cellO (by assumption) (by simp) (by assumption)) | fail "load 9.4") ?_
  replace hs := SX.St.asRow (k := 1) (size := 1) hs (by simp) (by decide)
  refine Z.le rfl trivial ?_
  refine Z.ZO.appendG (i0 := Try.t5) (size := 1) (bytes := 1) rfl rfl (by rfl) hs Try.underlying26 (by kernel_rfl) rfl rfl rfl rfl (by decide) rfl rfl (by first | exact SX.at0 | exact SX.at1 | exact SX.at2 | exact SX.at3 | exact SX.at4 | exact SX.at5 | exact Z.at6 | exact Z.at7 | exact Z.at8 | exact Z.at9 | exact Z.at10 | exact Z.at11 | exact Z.at12) ((hs.slm (A := some ⟨g26, 0, none⟩) (by first | ((repeat (first | exact List.mem_cons_self | refine List.mem_cons_of_mem _ ?_ | refine List.mem_append_right _ ?_)); done) | fail))) (by first | rfl | assumption | (simp [ints_length]; done) | (simp [ints_length]; omega)) (by first | exact Z.ints_one | assumption | simp [Value.oneCell']) (by unfold maxLen; omega) (by omega) ?_
  clear hs; intro v48 w48 hs
  simp only [List.set_cons_zero, List.set_cons_succ] at hs
  replace hs : SX.St w [] _ (SX.Ent.row _ 5 1 (1 + zs.length) (ints .u8 (ch :: zs)) :: _) := hs
  obtain ⟨B2, k2, rfl, -, -, -⟩ := SX.row_slv hs (j := 0) rfl
  refine Z.le rfl trivial ?_
  refine Z.ZO.call rfl rfl (by rfl) rfl rfl Try.call23 rfl (mc_Parse B2 (1 + zs.length) k2 (ch :: zs) _ (hs.slm (A := B2) (by first | ((repeat (first | exact List.mem_cons_self | refine List.mem_cons_of_mem _ ?_ | refine List.mem_append_right _ ?_)); done) | fail)) (by rw [List.length_cons]; omega) (by omega) (cons_by (by omega) hzb)) ?_
  rintro v9_6 w9_6 ⟨qs, sv2, rfl, hpq, hy⟩
  replace hs := hs.call hy
  clear hy
  try simp only [List.cons_append, List.nil_append, List.append_nil] at hs
  rw [hp1]
  refine Z.lb 5 rfl ?_
  refine Z.lnil ?_
  refine Z.only [0, 1, 5, 7, 8, 9, 10, 12] rfl ?_
  refine Z.nthen ?_
  refine Z.seq ?_
  refine Z.region ?_
  refine Z.lb 2 rfl ?_
  refine Z.l rfl rfl (by rfl) (Z.keepS hs) (Z.Yd.add rfl rfl (fun hG => Z.wi64 (by first | omega | (have hG' := Z.gh rfl hG; simp at hG'; omega)))) ?_
  rw [show (32767 : Int) + 0 = (ys.length : Int) from by omega]
  refine Z.le rfl trivial ?_
  refine Z.ZO.make1 (m := ys.length) (i0 := Try.t5) (bytes := 1) rfl rfl (by rfl) hs Try.underlying26 (by kernel_rfl) rfl rfl rfl rfl rfl rfl (by omega) (by unfold maxLen; omega) ?_
  clear hs; intro g56 w56 hs
  rw [ey] at hs
  refine Z.l rfl rfl (by rfl) (Z.keepS hs) (Z.Yd.buildL [(0, 1), (1, 1)] [.int .i64 0, .slice none 0 0] rfl rfl (by intro w; kernel_rfl)) ?_
  refine Z.le rfl trivial ?_
  refine Z.ZO.litL (T' := 47) [(0, 2)] [.int .i64 0, .slice none 0 0] rfl rfl (by rfl) rfl rfl (by intro W; kernel_rfl) hs ?_
  clear hs; intro g58 w58 hs
  refine Z.le rfl trivial ?_
  refine Z.ZO.call rfl rfl (by rfl) rfl rfl Try.call14 rfl (mc_Need (some ⟨g58, 0, none⟩) 1 1 [exZ ch (some ⟨g56, 0, none⟩) ys] _ (by have h0 := hs.blkSl (g := g58) (by first | ((repeat (first | exact List.mem_cons_self | refine List.mem_cons_of_mem _ ?_ | refine List.mem_append_right _ ?_)); done) | fail); exact h0) rfl (by decide) (exZ_f (by omega))) ?_
  rintro v10_6 w10_6 ⟨rfl, hy⟩
  replace hs := hs.call hy
  clear hy
  try simp only [List.cons_append, List.nil_append, List.append_nil] at hs
  rw [exZ_pl, hn1]
  refine Z.lb 5 rfl ?_
  refine Z.lnil ?_
  refine Z.only [1, 7, 8, 9, 10, 12, 14] rfl ?_
  refine Z.nthen ?_
  refine Z.seq ?_
  refine Z.seq ?_
  refine Z.region ?_
  refine Z.lb 1 rfl ?_
  refine Z.lnil ?_
  refine Z.only [7, 8, 9, 10, 12, 14, 62] rfl ?_
  refine Z.nthen ?_
  refine Z.cond rfl (fun h => absurd h (by simp)) (fun hc11 => ?_)
  refine Z.skip ?_
  refine Z.nthen ?_
  refine Z.seq ?_
  refine Z.region ?_
  refine Z.lb 1 rfl ?_
  refine Z.le rfl trivial ?_
  refine Z.ZO.call rfl rfl (by rfl) rfl rfl Try.call24 rfl (num23 _ _) ?_
  rintro v13_1 w13_1 ⟨rfl, hy⟩
  replace hs := hs.call hy
  clear hy
  try simp only [List.cons_append, List.nil_append, List.append_nil] at hs
  refine Z.lb 1 rfl ?_
  refine Z.le rfl trivial ?_
  refine Z.ZO.call rfl rfl (by rfl) rfl rfl Try.call24 rfl (num23 _ _) ?_
  rintro v13_3 w13_3 ⟨rfl, hy⟩
  replace hs := hs.call hy
  clear hy
  try simp only [List.cons_append, List.nil_append, List.append_nil] at hs
  refine Z.l rfl rfl (by rfl) (Z.keepS hs) (Z.Yd.add rfl rfl (fun hG => Z.wi64 (by first | omega | (have hG' := Z.gh rfl hG; simp at hG'; omega)))) ?_
  refine Z.lb 1 rfl ?_
  refine Z.le rfl trivial ?_
  refine Z.ZO.call rfl rfl (by rfl) rfl rfl Try.call24 rfl (num23 _ _) ?_
  rintro v13_6 w13_6 ⟨rfl, hy⟩
  replace hs := hs.call hy
  clear hy
  try simp only [List.cons_append, List.nil_append, List.append_nil] at hs
  refine Z.l rfl rfl (by rfl) (Z.keepS hs) (Z.Yd.add rfl rfl (fun hG => Z.wi64 (by first | omega | (have hG' := Z.gh rfl hG; simp at hG'; omega)))) ?_
  refine Z.lb 1 rfl ?_
  refine Z.le rfl trivial ?_
  refine Z.ZO.call rfl rfl (by rfl) rfl rfl Try.call24 rfl (num23 _ _) ?_
  rintro v13_9 w13_9 ⟨rfl, hy⟩
  replace hs := hs.call hy
  clear hy
  try simp only [List.cons_append, List.nil_append, List.append_nil] at hs
  refine Z.l rfl rfl (by rfl) (Z.keepS hs) (Z.Yd.add rfl rfl (fun hG => Z.wi64 (by first | omega | (have hG' := Z.gh rfl hG; simp at hG'; omega)))) ?_
  refine Z.lb 2 rfl ?_
  refine Z.yes (s := 100) (b := true) rfl ((by simp)) rfl ?_
  refine Z.lb 2 rfl ?_
  refine Z.yes (s := 100) (b := true) rfl rfl rfl ?_
  refine Z.l rfl rfl (by rfl) (Z.keepS hs) (Z.Yd.pickT rfl rfl) ?_
  refine Z.lb 1 rfl ?_
  refine Z.yes (s := 104) (b := true) rfl ((by simp)) rfl ?_
  refine Z.lb 1 rfl ?_
  refine Z.l rfl rfl (by rfl) (Z.keepS hs) (Z.Yd.lenS rfl Try.underlying26) ?_
  refine Z.lb 1 rfl ?_
  refine Z.yes (s := 104) (b := true) rfl rfl rfl ?_
  refine Z.l rfl rfl (by rfl) (Z.keepS hs) (Z.Yd.pickT rfl rfl) ?_
  refine Z.lb 1 rfl ?_
  refine Z.yes (s := 109) (b := true) rfl ((by simp)) rfl ?_
  refine Z.le rfl (by exact ⟨rfl, trivial⟩) ?_
  refine Z.ZO.call rfl rfl (by rfl) rfl rfl Try.call10 rfl (works23 _) ?_
  rintro v13_22 w13_22 ⟨rfl, hy⟩
  replace hs := hs.call hy
  clear hy
  try simp only [List.cons_append, List.nil_append, List.append_nil] at hs
  refine Z.l rfl rfl (by rfl) (Z.keepS hs) (Z.Yd.pickT rfl rfl) ?_
  refine Z.lb 1 rfl ?_
  refine Z.lnil ?_
  refine Z.only [4] rfl ?_
  refine Z.nthen ?_
  refine Z.ret ?_
  -- ret#0
  refine Z.out1 (by exact ⟨rfl, trivial⟩) ?_
  exact ⟨_, rfl, rfl, hs.sub (List.nil_sublist _)⟩
set_option maxHeartbeats 1000000 in
set_option maxRecDepth 100000 in
theorem bounds_past (ch : Int) (zs ys : List Int) (w : World) (hch : 1 ≤ ch ∧ ch ≤ 10) (hz : zs = List.replicate zs.length 0) (hy : ys = List.replicate ys.length 0) (hzl : zs.length = 16384) (hyl : ys.length = 32768) :
    Calls Try.prog 6 #[.int .i64 ch, .bool true] w (SX.Ret fun v w' => v = .bool true ∧ SX.St w [] w' []) := by
  have hs := SX.St.start w
  have hsd : sduB ch := hch
  have hzb := zero_by hz
  have hyb := zero_by hy
  have ez := zero_ints hz
  have ey := zero_ints hy
  have hf0 : fitV (16384 + 1) (List.map MpV.plain []) = (0, 2) := by decide +kernel
  have hb1 : bldV (16384 + 1) [(ch, zs)] = ([], 2) := bld_arg (by omega)
  have hp1 : parV (ch :: zs) = (4, []) := if_pos (by rw [List.length_cons]; omega)
  have hn1 : needV [(ch, ys)] = (0, 2) := if_neg (fun h => by have h2 := h.2; rw [vld_one, if_pos hsd] at h2; simp at h2; omega)
  refine Z.enter Try.func6 rfl Try.ntmps6 rfl rfl ?_
  refine Z.seq ?_
  refine Z.region ?_
  refine Z.lb 1 rfl ?_
  refine Z.lnil ?_
  refine Z.only [0, 1] rfl ?_
  refine Z.nthen ?_
  refine Z.seq ?_
  refine Z.seq ?_
  refine Z.region ?_
  refine Z.lb 6 rfl ?_
  refine Z.lnil ?_
  refine Z.only [0, 1, 20] rfl ?_
  refine Z.nthen ?_
  refine Z.cond rfl (fun h => absurd h (by simp; omega)) (fun hc1 => ?_)
  refine Z.skip ?_
  refine Z.nthen ?_
  refine Z.seq ?_
  refine Z.region ?_
  refine Z.lb 1 rfl ?_
  refine Z.lnil ?_
  refine Z.only [0, 1, 5] rfl ?_
  refine Z.nthen ?_
  refine Z.seq ?_
  refine Z.seq ?_
  refine Z.region ?_
  refine Z.lb 1 rfl ?_
  refine Z.lnil ?_
  refine Z.only [0, 1, 5, 22] rfl ?_
  refine Z.nthen ?_
  refine Z.cond rfl (fun hc4 => ?_) (fun h => absurd h (by simp))
  refine Z.region ?_
  refine Z.lb 1 rfl ?_
  refine Z.lnil ?_
  refine Z.only [0, 1, 5] rfl ?_
  refine Z.nthen ?_
  refine Z.seq ?_
  refine Z.region ?_
  refine Z.lb 2 rfl ?_
  refine Z.l rfl rfl (by rfl) (Z.keepS hs) (Z.Yd.add rfl rfl (fun hG => Z.wi64 (by first | omega | (have hG' := Z.gh rfl hG; simp at hG'; omega)))) ?_
  rw [show (16383 : Int) + 1 = (zs.length : Int) from by omega]
  refine Z.le rfl trivial ?_
  refine Z.ZO.make1 (m := zs.length) (i0 := Try.t5) (bytes := 1) rfl rfl (by rfl) hs Try.underlying26 (by kernel_rfl) rfl rfl rfl rfl rfl rfl (by omega) (by unfold maxLen; omega) ?_
  clear hs; intro g26 w26 hs
  rw [ez] at hs
  refine Z.l rfl rfl (by rfl) (Z.keepS hs) (Z.Yd.buildL [(0, 1), (1, 1)] [.int .i64 0, .slice none 0 0] rfl rfl (by intro w; kernel_rfl)) ?_
  refine Z.le rfl trivial ?_
  refine Z.ZO.alloc rfl rfl (by rfl) Try.zeroValue47 rfl hs ?_
  clear hs; intro g6 w6 hs
  refine Z.le rfl trivial ?_
  first | refine Z.ZO.storeA rfl rfl hs rfl rfl (by kernel_rfl) (by first | (simp [Value.oneCell']; done) | (refine Z.all_one ?_; assumption)) (by first | exact SX.at0 | exact SX.at1 | exact SX.at2 | exact SX.at3 | exact SX.at4 | exact SX.at5 | exact Z.at6 | exact Z.at7 | exact Z.at8 | exact Z.at9 | exact Z.at10 | exact Z.at11 | exact Z.at12) (by rfl) ?_ | refine Z.ZO.storeP rfl rfl hs rfl rfl (by kernel_rfl) (by first | (simp [Value.oneCell']; done) | (refine Z.all_one ?_; assumption)) (by first | exact SX.at0 | exact SX.at1 | exact SX.at2 | exact SX.at3 | exact SX.at4 | exact SX.at5 | exact Z.at6 | exact Z.at7 | exact Z.at8 | exact Z.at9 | exact Z.at10 | exact Z.at11 | exact Z.at12) (by first | decide | (simp; done) | (simp; omega)) ?_ | refine Z.ZO.storePR rfl rfl hs rfl rfl (by kernel_rfl) (by first | (simp [Value.oneCell']; done) | (refine Z.all_one ?_; assumption)) (by first | exact SX.at0 | exact SX.at1 | exact SX.at2 | exact SX.at3 | exact SX.at4 | exact SX.at5 | exact Z.at6 | exact Z.at7 | exact Z.at8 | exact Z.at9 | exact Z.at10 | exact Z.at11 | exact Z.at12) (by first | decide | (simp; done) | (simp; omega)) ?_
  clear hs; intro ws hs
  simp only [Nat.zero_add, Nat.add_zero, Nat.reduceAdd, Int.reduceToNat, Nat.reduceMul, List.set_cons_zero, List.set_cons_succ, List.setIfInBounds_toArray] at hs
  try simp only [Z.putL, Nat.zero_add] at hs
  refine Z.lnil ?_
  refine Z.only [0, 1, 5, 6] rfl ?_
  refine Z.nthen ?_
  refine Z.seq ?_
  refine Z.region ?_
  refine Z.lb 1 rfl ?_
  refine Z.l rfl rfl (by rfl) (Z.keepS hs) (Z.Yd.add rfl rfl (fun hG => Z.wi64 (by first | omega | (have hG' := Z.gh rfl hG; simp at hG'; omega)))) ?_
  refine Z.le rfl trivial ?_
  refine Z.ZO.call rfl rfl (by rfl) rfl rfl Try.call19 rfl (mc_Fit _ none 0 0 [] _ sl_nil23 rfl (by decide) (by simp)) ?_
  rintro v7_2 w7_2 ⟨rfl, hy⟩
  replace hs := hs.call hy
  clear hy
  try simp only [List.cons_append, List.nil_append, List.append_nil] at hs
  rw [hf0]
  refine Z.lb 5 rfl ?_
  refine Z.lnil ?_
  refine Z.only [0, 1, 5, 6, 7, 8] rfl ?_
  refine Z.nthen ?_
  refine Z.seq ?_
  refine Z.region ?_
  refine Z.lb 1 rfl ?_
  refine Z.l rfl rfl (by rfl) (Z.keepS hs) (Z.Yd.add rfl rfl (fun hG => Z.wi64 (by first | omega | (have hG' := Z.gh rfl hG; simp at hG'; omega)))) ?_
  refine Z.l rfl rfl (by rfl) (Z.keepS hs) (by first | exact Z.Yd.loadA _ rfl Try.isAgg47 (fun _ => Z.cellsB (by first | ((repeat (first | exact List.mem_cons_self | refine List.mem_cons_of_mem _ ?_ | refine List.mem_append_right _ ?_)); done) | fail)) (by exact Try.sizeOf47) | fail "load 8.2") ?_
  refine Z.le rfl trivial ?_
  refine Z.ZO.litL (T' := 47) [(0, 2)] [.int .i64 0, .slice none 0 0] rfl rfl (by rfl) rfl rfl (by intro W; kernel_rfl) hs ?_
  clear hs; intro g38 w38 hs
  refine Z.le rfl trivial ?_
  refine Z.ZO.call rfl rfl (by rfl) rfl rfl Try.call12 rfl (mc_Build _ (some ⟨g38, 0, none⟩) 1 1 [exZ ch (some ⟨g26, 0, none⟩) zs] _ (by have h0 := hs.blkSl (g := g38) (by first | ((repeat (first | exact List.mem_cons_self | refine List.mem_cons_of_mem _ ?_ | refine List.mem_append_right _ ?_)); done) | fail); exact h0) rfl (by decide) (exZ_f (by omega)) (exZ_sl (hs.slm (A := some ⟨g26, 0, none⟩) (by first | ((repeat (first | exact List.mem_cons_self | refine List.mem_cons_of_mem _ ?_ | refine List.mem_append_right _ ?_)); done) | fail))) (exZ_by hzb)) ?_
  rintro v8_4 w8_4 ⟨sv1, rfl, hy⟩
  replace hs := hs.call hy
  clear hy
  try simp only [List.cons_append, List.nil_append, List.append_nil] at hs
  rw [exZ_pl, hb1]
  rw [exZ_pl, hb1] at hs
  obtain ⟨B1, k1, rfl, -, -, -⟩ := SX.row_slv hs (j := 0) rfl
  refine Z.lb 5 rfl ?_
  refine Z.lnil ?_
  refine Z.only [0, 1, 5, 6, 7, 8, 9, 10] rfl ?_
  refine Z.nthen ?_
  refine Z.seq ?_
  refine Z.region ?_
  refine Z.lb 1 rfl ?_
  refine Z.l rfl rfl (by rfl) (Z.keepS hs) (Z.Yd.convI rfl ⟨_, Try.underlying3⟩ Try.underlying5 (fun _ => Z.wu8 (by omega))) ?_
  refine Z.le rfl trivial ?_
  refine Z.ZO.litL (T' := 5) [(0, 1)] [.int .u8 0] rfl rfl (by rfl) rfl rfl (by intro W; kernel_rfl) hs ?_
  clear hs; intro g45 w45 hs
  refine Z.l rfl rfl (by rfl) (Z.keepS hs) (Z.Yd.fieldA (m := 1) rfl (by kernel_rfl)) ?_
  refine Z.l rfl rfl (by rfl) (Z.keepS hs) (by first | exact Z.Yd.load rfl Try.isAgg26 (fun _ => Z.cellB (by first | ((repeat (first | exact List.mem_cons_self | refine List.mem_cons_of_mem _ ?_ | refine List.mem_append_right _ ?_)); done) | fail) rfl) | exact Z.Yd.load rfl Try.isAgg26 (fun _ => Z.cellO (by assumption) (by simp) (by assumption)) | fail "load 9.4") ?_
  replace hs := SX.St.asRow (k := 1) (size := 1) hs (by simp) (by decide)
  refine Z.le rfl trivial ?_
  refine Z.ZO.appendG (i0 := Try.t5) (size := 1) (bytes := 1) rfl rfl (by rfl) hs Try.underlying26 (by kernel_rfl) rfl rfl rfl rfl (by decide) rfl rfl (by first | exact SX.at0 | exact SX.at1 | exact SX.at2 | exact SX.at3 | exact SX.at4 | exact SX.at5 | exact Z.at6 | exact Z.at7 | exact Z.at8 | exact Z.at9 | exact Z.at10 | exact Z.at11 | exact Z.at12) ((hs.slm (A := some ⟨g26, 0, none⟩) (by first | ((repeat (first | exact List.mem_cons_self | refine List.mem_cons_of_mem _ ?_ | refine List.mem_append_right _ ?_)); done) | fail))) (by first | rfl | assumption | (simp [ints_length]; done) | (simp [ints_length]; omega)) (by first | exact Z.ints_one | assumption | simp [Value.oneCell']) (by unfold maxLen; omega) (by omega) ?_
  clear hs; intro v48 w48 hs
  simp only [List.set_cons_zero, List.set_cons_succ] at hs
  replace hs : SX.St w [] _ (SX.Ent.row _ 5 1 (1 + zs.length) (ints .u8 (ch :: zs)) :: _) := hs
  obtain ⟨B2, k2, rfl, -, -, -⟩ := SX.row_slv hs (j := 0) rfl
  refine Z.le rfl trivial ?_
  refine Z.ZO.call rfl rfl (by rfl) rfl rfl Try.call23 rfl (mc_Parse B2 (1 + zs.length) k2 (ch :: zs) _ (hs.slm (A := B2) (by first | ((repeat (first | exact List.mem_cons_self | refine List.mem_cons_of_mem _ ?_ | refine List.mem_append_right _ ?_)); done) | fail)) (by rw [List.length_cons]; omega) (by omega) (cons_by (by omega) hzb)) ?_
  rintro v9_6 w9_6 ⟨qs, sv2, rfl, hpq, hy⟩
  replace hs := hs.call hy
  clear hy
  try simp only [List.cons_append, List.nil_append, List.append_nil] at hs
  rw [hp1]
  refine Z.lb 5 rfl ?_
  refine Z.lnil ?_
  refine Z.only [0, 1, 5, 7, 8, 9, 10, 12] rfl ?_
  refine Z.nthen ?_
  refine Z.seq ?_
  refine Z.region ?_
  refine Z.lb 2 rfl ?_
  refine Z.l rfl rfl (by rfl) (Z.keepS hs) (Z.Yd.add rfl rfl (fun hG => Z.wi64 (by first | omega | (have hG' := Z.gh rfl hG; simp at hG'; omega)))) ?_
  rw [show (32767 : Int) + 1 = (ys.length : Int) from by omega]
  refine Z.le rfl trivial ?_
  refine Z.ZO.make1 (m := ys.length) (i0 := Try.t5) (bytes := 1) rfl rfl (by rfl) hs Try.underlying26 (by kernel_rfl) rfl rfl rfl rfl rfl rfl (by omega) (by unfold maxLen; omega) ?_
  clear hs; intro g56 w56 hs
  rw [ey] at hs
  refine Z.l rfl rfl (by rfl) (Z.keepS hs) (Z.Yd.buildL [(0, 1), (1, 1)] [.int .i64 0, .slice none 0 0] rfl rfl (by intro w; kernel_rfl)) ?_
  refine Z.le rfl trivial ?_
  refine Z.ZO.litL (T' := 47) [(0, 2)] [.int .i64 0, .slice none 0 0] rfl rfl (by rfl) rfl rfl (by intro W; kernel_rfl) hs ?_
  clear hs; intro g58 w58 hs
  refine Z.le rfl trivial ?_
  refine Z.ZO.call rfl rfl (by rfl) rfl rfl Try.call14 rfl (mc_Need (some ⟨g58, 0, none⟩) 1 1 [exZ ch (some ⟨g56, 0, none⟩) ys] _ (by have h0 := hs.blkSl (g := g58) (by first | ((repeat (first | exact List.mem_cons_self | refine List.mem_cons_of_mem _ ?_ | refine List.mem_append_right _ ?_)); done) | fail); exact h0) rfl (by decide) (exZ_f (by omega))) ?_
  rintro v10_6 w10_6 ⟨rfl, hy⟩
  replace hs := hs.call hy
  clear hy
  try simp only [List.cons_append, List.nil_append, List.append_nil] at hs
  rw [exZ_pl, hn1]
  refine Z.lb 5 rfl ?_
  refine Z.lnil ?_
  refine Z.only [1, 7, 8, 9, 10, 12, 14] rfl ?_
  refine Z.nthen ?_
  refine Z.seq ?_
  refine Z.seq ?_
  refine Z.region ?_
  refine Z.lb 1 rfl ?_
  refine Z.lnil ?_
  refine Z.only [7, 8, 9, 10, 12, 14, 62] rfl ?_
  refine Z.nthen ?_
  refine Z.cond rfl (fun hc11 => ?_) (fun h => absurd h (by simp))
  refine Z.seq ?_
  refine Z.region ?_
  refine Z.lb 1 rfl ?_
  refine Z.le rfl trivial ?_
  refine Z.ZO.call rfl rfl (by rfl) rfl rfl Try.call24 rfl (num23 _ _) ?_
  rintro v12_1 w12_1 ⟨rfl, hy⟩
  replace hs := hs.call hy
  clear hy
  try simp only [List.cons_append, List.nil_append, List.append_nil] at hs
  refine Z.lb 2 rfl ?_
  refine Z.yes (s := 66) (b := true) rfl ((by simp)) rfl ?_
  refine Z.lb 2 rfl ?_
  refine Z.yes (s := 66) (b := true) rfl rfl rfl ?_
  refine Z.l rfl rfl (by rfl) (Z.keepS hs) (Z.Yd.pickT rfl rfl) ?_
  refine Z.lb 1 rfl ?_
  refine Z.yes (s := 70) (b := true) rfl ((by simp)) rfl ?_
  refine Z.lb 1 rfl ?_
  refine Z.yes (s := 70) (b := true) rfl rfl rfl ?_
  refine Z.le rfl (by exact ⟨rfl, trivial⟩) ?_
  refine Z.ZO.call rfl rfl (by rfl) rfl rfl Try.call24 rfl (num23 _ _) ?_
  rintro v12_9 w12_9 ⟨rfl, hy⟩
  replace hs := hs.call hy
  clear hy
  try simp only [List.cons_append, List.nil_append, List.append_nil] at hs
  refine Z.lb 1 rfl ?_
  refine Z.yes (s := 70) (b := true) rfl rfl rfl ?_
  refine Z.l rfl rfl (by rfl) (Z.keepS hs) (Z.Yd.pickT rfl rfl) ?_
  refine Z.lb 1 rfl ?_
  refine Z.yes (s := 75) (b := true) rfl ((by simp)) rfl ?_
  refine Z.lb 1 rfl ?_
  refine Z.yes (s := 75) (b := true) rfl rfl rfl ?_
  refine Z.le rfl (by exact ⟨rfl, trivial⟩) ?_
  refine Z.ZO.call rfl rfl (by rfl) rfl rfl Try.call24 rfl (num23 _ _) ?_
  rintro v12_14 w12_14 ⟨rfl, hy⟩
  replace hs := hs.call hy
  clear hy
  try simp only [List.cons_append, List.nil_append, List.append_nil] at hs
  refine Z.lb 1 rfl ?_
  refine Z.yes (s := 75) (b := true) rfl rfl rfl ?_
  refine Z.l rfl rfl (by rfl) (Z.keepS hs) (Z.Yd.pickT rfl rfl) ?_
  refine Z.lb 1 rfl ?_
  refine Z.yes (s := 80) (b := true) rfl ((by simp)) rfl ?_
  refine Z.lb 1 rfl ?_
  refine Z.yes (s := 80) (b := true) rfl rfl rfl ?_
  refine Z.le rfl (by exact ⟨rfl, trivial⟩) ?_
  refine Z.ZO.call rfl rfl (by rfl) rfl rfl Try.call24 rfl (num23 _ _) ?_
  rintro v12_19 w12_19 ⟨rfl, hy⟩
  replace hs := hs.call hy
  clear hy
  try simp only [List.cons_append, List.nil_append, List.append_nil] at hs
  refine Z.lb 1 rfl ?_
  refine Z.yes (s := 80) (b := true) rfl rfl rfl ?_
  refine Z.l rfl rfl (by rfl) (Z.keepS hs) (Z.Yd.pickT rfl rfl) ?_
  refine Z.lb 1 rfl ?_
  refine Z.yes (s := 85) (b := true) rfl ((by simp)) rfl ?_
  refine Z.le rfl (by exact ⟨rfl, trivial⟩) ?_
  refine Z.ZO.call rfl rfl (by rfl) rfl rfl Try.call10 rfl (works23 _) ?_
  rintro v12_23 w12_23 ⟨rfl, hy⟩
  replace hs := hs.call hy
  clear hy
  try simp only [List.cons_append, List.nil_append, List.append_nil] at hs
  refine Z.l rfl rfl (by rfl) (Z.keepS hs) (Z.Yd.pickT rfl rfl) ?_
  refine Z.lb 1 rfl ?_
  refine Z.lnil ?_
  refine Z.only [4] rfl ?_
  refine Z.nthen ?_
  refine Z.ret ?_
  repeat (first | refine Z.rthen ?_ | refine Z.rblock ?_ | refine Z.rscope ?_)
  -- ret#0
  refine Z.out1 (by exact ⟨rfl, trivial⟩) ?_
  exact ⟨_, rfl, rfl, hs.sub (List.nil_sublist _)⟩
theorem macpduBounds_walk (ch : Int) (past : Bool) (w : World) : Calls Try.prog 6 #[.int .i64 ch, .bool past] w (SX.Ret fun v w' => v = .bool true ∧ SX.St w [] w' []) := by
  by_cases hch : 1 ≤ ch ∧ ch ≤ 10
  · have hr : ∀ m, List.replicate m (0 : Int) = List.replicate (List.replicate m (0 : Int)).length 0 := fun m => by rw [List.length_replicate]
    cases past
    · exact bounds_in ch _ _ w hch (hr 16383) (hr 32767) List.length_replicate List.length_replicate
    · exact bounds_past ch _ _ w hch (hr 16384) (hr 32768) List.length_replicate List.length_replicate
  · have hs := SX.St.start w
    refine Z.enter Try.func6 rfl Try.ntmps6 rfl rfl ?_
    refine Z.seq ?_
    refine Z.region ?_
    refine Z.lb 1 rfl ?_
    refine Z.lnil ?_
    refine Z.only [0, 1] rfl ?_
    refine Z.nthen ?_
    refine Z.seq ?_
    refine Z.seq ?_
    refine Z.region ?_
    refine Z.lb 6 rfl ?_
    refine Z.lnil ?_
    refine Z.only [0, 1, 20] rfl ?_
    refine Z.nthen ?_
    refine Z.cond rfl (fun hc1 => ?_) (fun h => absurd h (by simp; omega))
    refine Z.seq ?_
    refine Z.region ?_
    refine Z.le rfl trivial ?_
    refine Z.ZO.call rfl rfl (by rfl) rfl rfl Try.call10 rfl (works23 _) ?_
    rintro v2_0 w2_0 ⟨rfl, hy⟩
    replace hs := hs.call hy
    clear hy
    try simp only [List.cons_append, List.nil_append, List.append_nil] at hs
    refine Z.lb 1 rfl ?_
    refine Z.lnil ?_
    refine Z.only [4] rfl ?_
    refine Z.nthen ?_
    refine Z.ret ?_
    repeat (first | refine Z.rthen ?_ | refine Z.rblock ?_ | refine Z.rscope ?_)
    -- ret#0
    refine Z.out1 (by exact ⟨rfl, trivial⟩) ?_
    first | exact ⟨_, rfl, rfl, hs⟩ | exact ⟨_, rfl, rfl, hs.sub (List.nil_sublist _)⟩
theorem macpduBounds_rd (a0 : Int) (a1 : Bool) (w : World) (z0 : Rd Try.prog w 3 (Value.int .i64 a0).cells.toList) (z1 : Rd Try.prog w 4 (Value.bool a1).cells.toList) :
    Calls Try.prog 6 #[.int .i64 a0, .bool a1] w fun e w' => e = .returned (.bool true) ∧ Below w.heap.size w w' := by
  refine (macpduBounds_walk a0 a1 w).mono ?_
  rintro e w' ⟨v, rfl, rfl, h⟩
  exact ⟨rfl, h.below⟩
end Go.Proofs.Ytogjkgoiofngaaa

/- What every row needs. -/
namespace Go.Proofs.Ytogjkgoiofngaaa
open Go.ChangeShapes Go.WideShapes Go.ChangeAt Go.RowKit
theorem pown : ownKnob Try.prog.godebug = none := by kernel_rfl
theorem plaidOut : laidOutB Try.prog = true := by kernel_rfl
end Go.Proofs.Ytogjkgoiofngaaa
