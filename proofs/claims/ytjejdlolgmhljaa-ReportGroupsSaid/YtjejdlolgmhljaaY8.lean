/- Part 8 of the proofs that lead to the statement. -/
import Derived.Test.YtjejdlolgmhljaaY7
import Derived.Test.YtjejdlolgmhljaaRows
import Derived.WalkKit
import Derived.ProofKit
import Derived.OpenShut
import Derived.ShutString
import Derived.ChangeOld
import Derived.Below
/- Reports: the iterator over the groups. -/
namespace Go.Proofs.Ytjejdlolgmhljaa
open Go.RowKit
set_option linter.unusedSimpArgs false
set_option linter.unusedVariables false
--newlaws

/-- the groups that have bytes, of the first k -/
def gl (l : List Int) (k : Nat) : List Nat := (List.range k).filter fun j => decide (0 < elt l (j : Int))
def glC (l : List Int) (k : Nat) : List Value := (gl l k).map fun j : Nat => Value.int .i64 (j : Int)
theorem gl_T {l : List Int} {k : Nat} (h : 0 < elt l (k : Int)) : gl l (k + 1) = gl l k ++ [k] := flt_take (by simpa using h)
theorem gl_F {l : List Int} {k : Nat} (h : ¬ 0 < elt l (k : Int)) : gl l (k + 1) = gl l k := flt_skip (by simpa using h)
theorem gl_le (l : List Int) (k : Nat) : (gl l k).length ≤ k := by
  have := List.length_filter_le (fun j : Nat => decide (0 < elt l (j : Int))) (List.range k)
  simpa [gl] using this
theorem zeroR_ok : zeroR.ok := by constructor <;> simp [zeroR, okC, okW]
/-- both start at the same time, and so take or leave the same -/
theorem upd_both (a b c d : Int) : (updV (newR 0 0 0 0) 0 a b c d 0).2 = (updV zeroR 0 a b c d 0).2 ∧ (updV (newR 0 0 0 0) 0 a b c d 0).1.bs = (updV zeroR 0 a b c d 0).1.bs ∧ ∀ x : Nat, x < 4 → 0 < elt (updV (newR 0 0 0 0) 0 a b c d 0).1.bs (x : Int) → elt [a, b, c, d] (x : Int) = elt (updV (newR 0 0 0 0) 0 a b c d 0).1.bs (x : Int) := by
  have e : okU (newR 0 0 0 0) 0 a b c d 0 ↔ okU zeroR 0 a b c d 0 := by rw [okU_iff, okU_iff]; rfl
  unfold updV
  by_cases h : okU (newR 0 0 0 0) 0 a b c d 0
  · rw [if_pos h, if_pos (e.1 h)]
    exact ⟨rfl, rfl, fun x _ _ => rfl⟩
  · rw [if_neg h, if_neg (fun q => h (e.2 q))]
    refine ⟨rfl, rfl, fun x hx4 hx => ?_⟩
    exfalso
    have h0 : elt (newR 0 0 0 0).bs (x : Int) = 0 := by
      have h4 : x = 0 ∨ x = 1 ∨ x = 2 ∨ x = 3 := by omega
      rcases h4 with rfl | rfl | rfl | rfl <;> rfl
    simp only [h0] at hx
    omega
set_option maxHeartbeats 2000000 in
set_option maxRecDepth 100000 in
theorem reportGroups_walk (a b c d many : Int) (w : World) : Calls Try.prog 3 #[.agg #[.int .i64 a, .int .i64 b, .int .i64 c, .int .i64 d], .int .i64 many] w (SX.Ret fun v w' => v = .bool true ∧ SX.St w [] w' []) := by
  have hs := SX.St.start w
  obtain ⟨he, hbs, hel⟩ := upd_both a b c d
  have hm1 : (updV (newR 0 0 0 0) 0 a b c d 0).1.ok := (newR_ok (by decide)).updV _ _ _ _ _ _
  have hm2 : (updV zeroR 0 a b c d 0).1.ok := zeroR_ok.updV _ _ _ _ _ _
  obtain ⟨U1, hU1⟩ : ∃ U, U = updV (newR 0 0 0 0) 0 a b c d 0 := ⟨_, rfl⟩
  obtain ⟨U2, hU2⟩ : ∃ U, U = updV zeroR 0 a b c d 0 := ⟨_, rfl⟩
  rw [← hU1] at he hbs hel hm1
  rw [← hU2] at he hbs hm2
  obtain ⟨m1, f1⟩ := U1
  obtain ⟨m2, f2⟩ := U2
  dsimp only at he hbs hel hm1 hm2
  subst he
  have hone2 := rr_one m2
  refine Z.enterM Try.func3 rfl Try.ntmps3 rfl rfl ?_
  refine Z.seq ?_
  refine Z.region ?_
  refine Z.le rfl trivial ?_
  refine Z.ZO.box rfl rfl (by rfl) rfl rfl hs ?_
  clear hs; intro g2 w2 hs
  refine Z.le rfl trivial ?_
  refine Z.ZO.box rfl rfl (by rfl) rfl rfl hs ?_
  clear hs; intro g3 w3 hs
  refine Z.le rfl trivial ?_
  refine Z.ZO.alloc rfl rfl (by rfl) Try.zeroValue4 rfl hs ?_
  clear hs; intro g4 w4 hs
  refine Z.lnil ?_
  refine Z.only [2, 3, 4] rfl ?_
  refine Z.nthen ?_
  refine Z.seq ?_
  refine Z.region ?_
  refine Z.l rfl rfl (by rfl) (Z.keepS hs) (Z.Yd.buildL [(0, 1), (1, 1), (2, 1), (3, 1)] [.int .i64 0, .int .i64 0, .int .i64 0, .int .i64 0] rfl rfl (by intro w; kernel_rfl)) ?_
  refine Z.le rfl trivial ?_
  refine Z.ZO.call rfl rfl (by rfl) rfl rfl Try.call8 rfl (wk_new 0 0 0 0 _ (by decide)) ?_
  rintro v1_1 w1_1 ⟨ga, rfl, hy⟩
  replace hs := hs.call hy
  clear hy
  try simp only [List.cons_append, List.nil_append, List.append_nil] at hs
  refine Z.lb 5 rfl ?_
  refine Z.lnil ?_
  refine Z.only [2, 3, 4, 5, 6] rfl ?_
  refine Z.nthen ?_
  refine Z.seq ?_
  refine Z.region ?_
  refine Z.lb 1 rfl ?_
  refine Z.l rfl rfl (by rfl) (Z.keepS hs) (by first | exact Z.Yd.loadA _ rfl Try.isAgg22 (fun _ => Z.cellsB (by first | ((repeat (first | exact List.mem_cons_self | refine List.mem_cons_of_mem _ ?_ | refine List.mem_append_right _ ?_)); done) | fail)) (by exact Try.sizeOf22) | fail "load 2.1") ?_
  refine Z.le rfl trivial ?_
  refine Z.ZO.call rfl rfl (by rfl) rfl rfl Try.call9 rfl (wk_upd ga (newR 0 0 0 0) 0 a b c d 0 _ _ (hs.lend (L1 := RpB ga (newR 0 0 0 0))) (newR_ok (by decide)) hU1.symm) ?_
  rintro v2_2 w2_2 ⟨rfl, hz⟩
  replace hs := hs.regain (L1 := RpB ga (newR 0 0 0 0)) hz
  simp only [List.cons_append, List.nil_append] at hs
  refine Z.lb 1 rfl ?_
  refine Z.lnil ?_
  refine Z.only [2, 3, 4, 5, 6, 7] rfl ?_
  refine Z.nthen ?_
  refine Z.seq ?_
  refine Z.region ?_
  refine Z.l rfl rfl (by rfl) (Z.keepS hs) (Z.Yd.buildL [(0, 4), (4, 1), (5, 4), (9, 1), (10, 1), (11, 1), (12, 1), (13, 1), (14, 1), (15, 1), (16, 1)] [.int .i64 0, .int .i64 0, .int .i64 0, .int .i64 0, .int .i64 0, .int .i64 0, .int .i64 0, .int .i64 0, .int .i64 0, .int .i64 0, .bool false, .bool false, .bool false, .bool false, .int .i64 0, .int .i64 0, .int .i64 0] rfl rfl (by intro w; kernel_rfl)) ?_
  refine Z.l rfl rfl (by rfl) (Z.keepS hs) (by first | exact Z.Yd.loadA _ rfl Try.isAgg22 (fun _ => Z.cellsB (by first | ((repeat (first | exact List.mem_cons_self | refine List.mem_cons_of_mem _ ?_ | refine List.mem_append_right _ ?_)); done) | fail)) (by exact Try.sizeOf22) | fail "load 3.1") ?_
  refine Z.le rfl trivial ?_
  refine Z.ZO.call rfl rfl (by rfl) rfl rfl Try.call10 rfl (rpr_update zeroR 0 a b c d 0 _ zeroR_ok) ?_
  rintro v3_2 w3_2 ⟨rfl, hy⟩
  replace hs := hs.call hy
  clear hy
  try simp only [List.cons_append, List.nil_append, List.append_nil] at hs
  rw [← hU2]
  refine Z.lb 3 rfl ?_
  refine Z.le rfl trivial ?_
  refine Z.ZO.alloc rfl rfl (by rfl) Try.zeroValue31 rfl hs ?_
  clear hs; intro g8 w8 hs
  refine Z.le rfl trivial ?_
  first | refine Z.ZO.storeA rfl rfl hs rfl rfl (by kernel_rfl) (by first | (simp [Value.oneCell']; done) | (refine Z.all_one ?_; assumption)) (by first | exact SX.at0 | exact SX.at1 | exact SX.at2 | exact SX.at3 | exact SX.at4 | exact SX.at5 | exact Z.at6 | exact Z.at7 | exact Z.at8 | exact Z.at9 | exact Z.at10 | exact Z.at11 | exact Z.at12) (by rfl) ?_ | refine Z.ZO.storeP rfl rfl hs rfl rfl (by kernel_rfl) (by first | (simp [Value.oneCell']; done) | (refine Z.all_one ?_; assumption)) (by first | exact SX.at0 | exact SX.at1 | exact SX.at2 | exact SX.at3 | exact SX.at4 | exact SX.at5 | exact Z.at6 | exact Z.at7 | exact Z.at8 | exact Z.at9 | exact Z.at10 | exact Z.at11 | exact Z.at12) (by first | decide | (simp; done) | (simp; omega)) ?_ | refine Z.ZO.storePR rfl rfl hs rfl rfl (by kernel_rfl) (by first | (simp [Value.oneCell']; done) | (refine Z.all_one ?_; assumption)) (by first | exact SX.at0 | exact SX.at1 | exact SX.at2 | exact SX.at3 | exact SX.at4 | exact SX.at5 | exact Z.at6 | exact Z.at7 | exact Z.at8 | exact Z.at9 | exact Z.at10 | exact Z.at11 | exact Z.at12) (by first | decide | (simp; done) | (simp; omega)) ?_
  clear hs; intro ws hs
  simp only [Nat.zero_add, Nat.add_zero, Nat.reduceAdd, Int.reduceToNat, Nat.reduceMul, List.set_cons_zero, List.set_cons_succ, List.setIfInBounds_toArray] at hs
  try simp only [Z.putL, Nat.zero_add] at hs
  refine Z.lb 1 rfl ?_
  refine Z.lnil ?_
  refine Z.only [2, 3, 4, 5, 6, 7, 8, 9] rfl ?_
  refine Z.nthen ?_
  refine Z.seq ?_
  refine Z.seq ?_
  refine Z.region ?_
  refine Z.lb 1 rfl ?_
  refine Z.le rfl trivial ?_
  refine Z.ZO.call rfl rfl (by rfl) rfl rfl Try.call11 rfl (rp_num _ _) ?_
  rintro v4_1 w4_1 ⟨rfl, hy⟩
  replace hs := hs.call hy
  clear hy
  try simp only [List.cons_append, List.nil_append, List.append_nil] at hs
  refine Z.lb 2 rfl ?_
  refine Z.yes (s := 34) (b := false) rfl ((by simp)) rfl ?_
  refine Z.lb 1 rfl ?_
  refine Z.yes (s := 34) (b := false) rfl rfl rfl ?_
  refine Z.le rfl (by exact ⟨rfl, trivial⟩) ?_
  refine Z.ZO.call rfl rfl (by rfl) rfl rfl Try.call11 rfl (rp_num _ _) ?_
  rintro v4_5 w4_5 ⟨rfl, hy⟩
  replace hs := hs.call hy
  clear hy
  try simp only [List.cons_append, List.nil_append, List.append_nil] at hs
  refine Z.lb 2 rfl ?_
  refine Z.yes (s := 34) (b := false) rfl rfl rfl ?_
  refine Z.l rfl rfl (by rfl) (Z.keepS hs) (Z.Yd.pickF rfl rfl) ?_
  refine Z.lnil ?_
  refine Z.only [2, 3, 4, 5, 8, 39] rfl ?_
  refine Z.nthen ?_
  refine Z.cond rfl (fun h => absurd h (by simp)) (fun hc4 => ?_)
  refine Z.skip ?_
  refine Z.nthen ?_
  refine Z.seq ?_
  refine Z.region ?_
  refine Z.le rfl trivial ?_
  refine Z.ZO.alloc rfl rfl (by rfl) Try.zeroValue35 rfl hs ?_
  clear hs; intro g10 w10 hs
  refine Z.lnil ?_
  refine Z.only [2, 3, 4, 5, 8, 10] rfl ?_
  refine Z.nthen ?_
  refine Z.seq ?_
  refine Z.seq ?_
  refine Z.region ?_
  replace hs := hs.nil 3 1
  refine Z.l rfl rfl (by rfl) (Z.keepS hs) (Z.Yd.pure rfl) ?_
  refine Z.lnil ?_
  refine Z.only [2, 3, 4, 5, 8, 10, 11] rfl ?_
  refine Z.nthen ?_
  refine Z.block ?_
  refine Z.loopk (ι := Nat × Value) [2, 3, 4, 5, 8, 10] rfl (fun x => [(11, [], .int .i64 (x.1 : Int))]) (fun x wr => x.1 ≤ 4 ∧ SX.St w [] wr [SX.Ent.row x.2 3 1 (gl m1.bs x.1).length (glC m1.bs x.1), SX.Ent.blk g10 35 #[x.2], SX.Ent.blk g8 31 m2.ref.toArray, SX.Ent.blk ga 66 m1.cells.toArray, SX.Ent.blk g4 4 #[.bool false], SX.Ent.blk g3 3 #[.int .i64 many], SX.Ent.blk g2 22 #[.int .i64 a, .int .i64 b, .int .i64 c, .int .i64 d]]) (fun x => 4 - x.1) (0, .slice none 0 0) (by refine ⟨?_, trivial⟩ <;> (first | rfl | (refine Z.lookv rfl ?_; simp; done) | (refine Z.lookv rfl ?_; simp; omega))) ⟨by simp, hs⟩ ?_
  clear hs
  rintro ⟨k, sv⟩ w8 ⟨hk, hs⟩
  refine Z.only [2, 3, 4, 5, 8, 10, 11] rfl ?_
  (try dsimp only at hs)
  dsimp only at hk hs
  obtain ⟨Ba, ca, rfl, -, -, -⟩ := SX.row_slv hs (j := 0) rfl
  have hgl := gl_le m1.bs k
  refine Z.seq ?_
  refine Z.seq ?_
  refine Z.region ?_
  refine Z.lb 2 rfl ?_
  refine Z.lnil ?_
  refine Z.only [2, 3, 4, 5, 8, 10, 11, 41] rfl ?_
  refine Z.nthen ?_
  refine Z.cond rfl (fun hc8 => ?_) (fun hc8 => ?_)
  · first
      | (exfalso; simp at hc8 <;> omega)
      | (
        (try simp at hc8)
        refine Z.skip ?_
        refine Z.nthen ?_
        refine Z.seq ?_
        refine Z.block ?_
        refine Z.seq ?_
        refine Z.region ?_
        refine Z.lb 1 rfl ?_
        refine Z.l rfl rfl (by rfl) (Z.keepS hs) (Z.Yd.fieldA (m := 5) rfl (by kernel_rfl)) ?_
        refine Z.l rfl rfl (by rfl) (Z.keepS hs) (Z.Yd.elemA rfl rfl Try.underlying22 Try.sizeOf3 (fun hG => ⟨(by first | omega | (have hG' := Z.gh rfl hG; simp at hG'; omega)), (by first | omega | (have hG' := Z.gh rfl hG; simp at hG'; omega))⟩)) ?_
        refine Z.l rfl rfl (by rfl) (Z.keepS hs) (Z.Yd.load rfl Try.isAgg3 (fun hG => Z.cellB (by first | ((repeat (first | exact List.mem_cons_self | refine List.mem_cons_of_mem _ ?_ | refine List.mem_append_right _ ?_)); done) | fail) (by rw [Z.nth_eq]; exact (show m2.ref[0 + 5 + (k : Int).toNat * 1]? = some (.int .i64 (elt m2.bs (k : Int))) from ref_get m2 k (by omega))))) ?_
        refine Z.lb 1 rfl ?_
        refine Z.lnil ?_
        refine Z.only [2, 3, 4, 5, 8, 10, 11, 48] rfl ?_
        refine Z.nthen ?_
        refine Z.cond rfl (fun hc10 => ?_) (fun hc10 => ?_)
        · first
            | (exfalso; simp at hc10 <;> omega)
            | (
              (try simp at hc10)
              have hgt : gl m1.bs (k + 1) = gl m1.bs k ++ [k] := gl_T (by rw [hbs]; assumption)
              refine Z.region ?_
              refine Z.l rfl rfl (by rfl) (Z.keepS hs) (by first | exact Z.Yd.load rfl Try.isAgg35 (fun _ => Z.cellB (by first | ((repeat (first | exact List.mem_cons_self | refine List.mem_cons_of_mem _ ?_ | refine List.mem_append_right _ ?_)); done) | fail) rfl) | exact Z.Yd.load rfl Try.isAgg35 (fun _ => Z.cellO (by assumption) (by simp) (by assumption)) | fail "load 11.0") ?_
              refine Z.lb 1 rfl ?_
              refine Z.le rfl trivial ?_
              refine Z.ZO.litL (T' := 3) [(0, 1)] [.int .i64 0] rfl rfl (by rfl) rfl rfl (by intro W; kernel_rfl) hs ?_
              clear hs; intro g51 w51 hs
              refine Z.le rfl trivial ?_
              refine Z.ZO.append (i0 := Try.t3) (size := 1) (bytes := 8) rfl rfl (by rfl) hs Try.underlying35 (by kernel_rfl) rfl rfl rfl rfl (by decide) rfl rfl (by first | exact SX.at0 | exact SX.at1 | exact SX.at2 | exact SX.at3 | exact SX.at4 | exact SX.at5 | exact Z.at6 | exact Z.at7 | exact Z.at8 | exact Z.at9 | exact Z.at10 | exact Z.at11 | exact Z.at12) (by first | exact SX.at0 | exact SX.at1 | exact SX.at2 | exact SX.at3 | exact SX.at4 | exact SX.at5 | exact Z.at6 | exact Z.at7 | exact Z.at8 | exact Z.at9 | exact Z.at10 | exact Z.at11 | exact Z.at12) (by first | rfl | simp) (by simp [Value.oneCell']) (by decide) (by unfold maxLen; omega) (by omega) ?_
              clear hs; intro g52 cap52 w52 hs
              simp only [List.set_cons_zero, List.set_cons_succ, List.eraseIdx_cons_zero, List.eraseIdx_cons_succ] at hs
              refine Z.le rfl trivial ?_
              first | refine Z.ZO.store rfl rfl hs Try.sizeOf35 rfl rfl rfl (by first | exact SX.at0 | exact SX.at1 | exact SX.at2 | exact SX.at3 | exact SX.at4 | exact SX.at5 | exact Z.at6 | exact Z.at7 | exact Z.at8 | exact Z.at9 | exact Z.at10 | exact Z.at11 | exact Z.at12) (by first | (simp; done) | (simp; omega)) ?_ | refine Z.ZO.storeR rfl rfl hs Try.sizeOf35 rfl rfl rfl (by first | exact SX.at0 | exact SX.at1 | exact SX.at2 | exact SX.at3 | exact SX.at4 | exact SX.at5 | exact Z.at6 | exact Z.at7 | exact Z.at8 | exact Z.at9 | exact Z.at10 | exact Z.at11 | exact Z.at12) (by first | omega | (simp [ints_length]; done) | (simp [ints_length]; omega)) ?_
              clear hs; intro ws hs
              simp only [Nat.zero_add, Nat.add_zero, Nat.reduceAdd, Int.reduceToNat, Nat.reduceMul, List.set_cons_zero, List.set_cons_succ, List.setIfInBounds_toArray] at hs
              refine Z.lnil ?_
              refine Z.only [2, 3, 4, 5, 8, 10, 11] rfl ?_
              refine Z.nblock ?_
              refine Z.nthen ?_
              refine Z.region ?_
              refine Z.lb 1 rfl ?_
              refine Z.l rfl rfl (by rfl) (Z.keepS hs) (Z.Yd.add rfl rfl (fun hG => Z.wi64 (by first | omega | (have hG' := Z.gh rfl hG; simp at hG'; omega)))) ?_
              refine Z.lb 1 rfl ?_
              refine Z.lnil ?_
              refine Z.only [2, 3, 4, 5, 8, 10, 11] rfl ?_
              refine Z.nthen ?_
              first
              | exact Z.again (k + 1, _) (by refine ⟨?_, ?_, ?_, ?_, ?_, ?_, ?_, trivial⟩ <;> (first | rfl | (refine Z.lookv rfl ?_; simp; done) | (refine Z.lookv rfl ?_; simp; omega))) ⟨by simp only; omega, by simp only [glC, hgt]; exact hs⟩ (by simp only; omega)
              | exact Z.again (k + 1, _) (by refine ⟨?_, ?_, ?_, ?_, ?_, ?_, ?_, trivial⟩ <;> (first | rfl | (refine Z.lookv rfl ?_; simp; done) | (refine Z.lookv rfl ?_; simp; omega))) ⟨by simp only; omega, by simp only [glC, hgt, List.length_append, List.map_append, List.length_singleton, List.map_cons, List.map_nil]; exact hs⟩ (by simp only; omega)
              )
        · first
            | (exfalso; simp at hc10 <;> omega)
            | (
              (try simp at hc10)
              have hgt : gl m1.bs (k + 1) = gl m1.bs k := gl_F (by rw [hbs]; omega)
              refine Z.skip ?_
              refine Z.nblock ?_
              refine Z.nthen ?_
              refine Z.region ?_
              refine Z.lb 1 rfl ?_
              refine Z.l rfl rfl (by rfl) (Z.keepS hs) (Z.Yd.add rfl rfl (fun hG => Z.wi64 (by first | omega | (have hG' := Z.gh rfl hG; simp at hG'; omega)))) ?_
              refine Z.lb 1 rfl ?_
              refine Z.lnil ?_
              refine Z.only [2, 3, 4, 5, 8, 10, 11] rfl ?_
              refine Z.nthen ?_
              first
              | exact Z.again (k + 1, _) (by refine ⟨?_, ?_, ?_, ?_, ?_, ?_, ?_, trivial⟩ <;> (first | rfl | (refine Z.lookv rfl ?_; simp; done) | (refine Z.lookv rfl ?_; simp; omega))) ⟨by simp only; omega, by simp only [glC, hgt]; exact hs⟩ (by simp only; omega)
              | exact Z.again (k + 1, _) (by refine ⟨?_, ?_, ?_, ?_, ?_, ?_, ?_, trivial⟩ <;> (first | rfl | (refine Z.lookv rfl ?_; simp; done) | (refine Z.lookv rfl ?_; simp; omega))) ⟨by simp only; omega, by simp only [glC, hgt, List.length_append, List.map_append, List.length_singleton, List.map_cons, List.map_nil]; exact hs⟩ (by simp only; omega)
              )
        )
  · first
      | (exfalso; simp at hc8 <;> omega)
      | (
        (try simp at hc8)
        refine Z.exit ?_
        refine Z.xthen ?_
        refine Z.xthen ?_
        refine Z.xblock ?_
        refine Z.nthen ?_
        refine Z.seq ?_
        refine Z.region ?_
        obtain rfl : k = 4 := by omega
        have hgp : gl m1.bs 4 = gps m1.b0 m1.b1 m1.b2 m1.b3 := rfl
        obtain ⟨K, hK⟩ : ∃ K, (gl m1.bs 4).length = K := ⟨_, rfl⟩
        rw [hK] at hs hgl ⊢
        refine Z.l rfl rfl (by rfl) (Z.keepS hs) (Z.Yd.pure rfl) ?_
        refine Z.le rfl trivial ?_
        refine Z.ZO.call rfl rfl (by rfl) rfl rfl Try.call12 rfl (rp_Groups ga m1 _ (hs.celOf (cs := m1.cells) (by first | ((repeat (first | exact List.mem_cons_self | refine List.mem_cons_of_mem _ ?_ | refine List.mem_append_right _ ?_)); done) | fail))) ?_
        rintro v12_1 w12_1 ⟨gg, rfl, hy⟩
        replace hs := hs.call hy
        clear hy
        try simp only [List.cons_append, List.nil_append, List.append_nil] at hs
        refine Z.lb 1 rfl ?_
        refine Z.lnil ?_
        refine Z.only [2, 3, 4, 5, 10, 12] rfl ?_
        refine Z.nthen ?_
        refine Z.seq ?_
        refine Z.seq ?_
        refine Z.region ?_
        refine Z.lb 1 rfl ?_
        refine Z.l rfl rfl (by rfl) (Z.keepS hs) (Z.Yd.fnNil rfl rfl Try.underlying37) ?_
        refine Z.lnil ?_
        refine Z.only [2, 3, 4, 5, 10, 12, 56] rfl ?_
        refine Z.nthen ?_
        refine Z.cond rfl (fun h => absurd h (by simp)) (fun hc13 => ?_)
        refine Z.skip ?_
        refine Z.nthen ?_
        refine Z.seq ?_
        refine Z.region ?_
        refine Z.lb 1 rfl ?_
        refine Z.l rfl rfl (by rfl) (Z.keepS hs) (Z.Yd.buildL [(0, 1), (1, 1), (2, 1), (3, 1)] [.int .i64 0, .int .i64 0, .int .i64 0, .int .i64 0] rfl rfl (by intro w; kernel_rfl)) ?_
        replace hs : SX.St w [] _ (RpB ga m1 ++ [SX.Ent.blk gg 22 #[.int .i64 (m1).b0, .int .i64 (m1).b1, .int .i64 (m1).b2, .int .i64 (m1).b3], SX.Ent.blk g10 _ _, SX.Ent.row _ _ _ _ _, SX.Ent.blk g4 _ _, SX.Ent.blk g3 _ _, SX.Ent.blk g2 _ _]) := hs.sel [4, 0, 2, 1, 5, 6, 7] (by decide)
        refine Z.le rfl trivial ?_
        refine Z.ZO.call rfl rfl (by rfl) rfl rfl Try.call9 rfl (rp_update ga _ m1 1 7 7 7 7 0 _ hs.lend hm1) ?_
        rintro v15_2 w15_2 ⟨rfl, hz⟩
        replace hs := hs.regain hz
        simp only [List.cons_append, List.nil_append] at hs
        refine Z.lnil ?_
        refine Z.only [2, 3, 4, 10, 12] rfl ?_
        refine Z.nthen ?_
        refine Z.seq ?_
        refine Z.seq ?_
        refine Z.region ?_
        refine Z.le rfl trivial ?_
        refine Z.ZO.alloc rfl rfl (by rfl) Try.zeroValue3 rfl hs ?_
        clear hs; intro g13 w13 hs
        refine Z.le rfl trivial ?_
        first | refine Z.ZO.store rfl rfl hs Try.sizeOf3 rfl rfl rfl (by first | exact SX.at0 | exact SX.at1 | exact SX.at2 | exact SX.at3 | exact SX.at4 | exact SX.at5 | exact Z.at6 | exact Z.at7 | exact Z.at8 | exact Z.at9 | exact Z.at10 | exact Z.at11 | exact Z.at12) (by first | (simp; done) | (simp; omega)) ?_ | refine Z.ZO.storeR rfl rfl hs Try.sizeOf3 rfl rfl rfl (by first | exact SX.at0 | exact SX.at1 | exact SX.at2 | exact SX.at3 | exact SX.at4 | exact SX.at5 | exact Z.at6 | exact Z.at7 | exact Z.at8 | exact Z.at9 | exact Z.at10 | exact Z.at11 | exact Z.at12) (by first | omega | (simp [ints_length]; done) | (simp [ints_length]; omega)) ?_
        clear hs; intro ws hs
        simp only [Nat.zero_add, Nat.add_zero, Nat.reduceAdd, Int.reduceToNat, Nat.reduceMul, List.set_cons_zero, List.set_cons_succ, List.setIfInBounds_toArray] at hs
        refine Z.lnil ?_
        refine Z.only [2, 3, 4, 10, 12, 13] rfl ?_
        replace hs : SX.St w [] _ [SX.Ent.blk g13 _ _, SX.Ent.blk g10 _ _, SX.Ent.row _ _ _ _ _, SX.Ent.blk g4 _ _, SX.Ent.blk g3 _ _, SX.Ent.blk g2 _ _, SX.Ent.blk gg 22 #[.int .i64 (m1).b0, .int .i64 (m1).b1, .int .i64 (m1).b2, .int .i64 (m1).b3]] := hs.sel [0, 3, 4, 5, 6, 7, 2] (by decide)
        refine Z.nthen ?_
        refine Z.block ?_
        refine Z.loopD (ι := Nat × Nat × List Nat) (fun x => x.2.2.map Z.mkD) [2, 3, 4, 10, 12] rfl (fun x => [(13, [], .pointer (some ⟨x.1, 0, none⟩))]) (fun x wr => x.2.1 ≤ 2 ∧ SX.St w [] wr (SX.Ent.blk x.1 3 #[.int .i64 (x.2.1 : Int)] :: SX.Ent.blk g10 35 #[.slice Ba K ca] :: SX.Ent.row (.slice Ba K ca) 3 1 K (glC m1.bs 4) :: SX.Ent.blk g4 4 #[.bool false] :: SX.Ent.blk g3 3 #[.int .i64 many] :: SX.Ent.blk g2 22 #[.int .i64 a, .int .i64 b, .int .i64 c, .int .i64 d] :: SX.Ent.blk gg 22 #[.int .i64 (m1).b0, .int .i64 (m1).b1, .int .i64 (m1).b2, .int .i64 (m1).b3] :: x.2.2.map Z.mkE)) (fun x => 2 - x.2.1) (g13, 0, []) rfl (by refine ⟨?_, trivial⟩ <;> (first | rfl | (refine Z.lookv rfl ?_; simp; done) | (refine Z.lookv rfl ?_; simp; omega))) ⟨by simp only; omega, hs⟩ ?_
        clear hs
        rintro ⟨g13, turn, ds⟩ w2 ⟨hb, hs⟩
        refine Z.only [2, 3, 4, 10, 12, 13] rfl ?_
        (try dsimp only at hs)
        dsimp only at hb
        refine Z.seq ?_
        refine Z.seq ?_
        refine Z.region ?_
        refine Z.l rfl rfl (by rfl) (Z.keepS hs) (by first | exact Z.Yd.load rfl Try.isAgg3 (fun _ => Z.cellB (by first | ((repeat (first | exact List.mem_cons_self | refine List.mem_cons_of_mem _ ?_ | refine List.mem_append_right _ ?_)); done) | fail) rfl) | exact Z.Yd.load rfl Try.isAgg3 (fun _ => Z.cellO (by assumption) (by simp) (by assumption)) | fail "load 17.0") ?_
        refine Z.lb 1 rfl ?_
        refine Z.lnil ?_
        refine Z.only [2, 3, 4, 10, 12, 13, 61] rfl ?_
        refine Z.nthen ?_
        refine Z.cond rfl (fun hc17 => ?_) (fun hc17 => ?_)
        · first
            | (exfalso; simp at hc17 <;> omega)
            | (
              (try simp at hc17)
              have ht2 : turn < 2 := by omega
              refine Z.skip ?_
              refine Z.nthen ?_
              refine Z.seq ?_
              refine Z.block ?_
              refine Z.seq ?_
              refine Z.region ?_
              refine Z.le rfl trivial ?_
              refine Z.ZO.alloc rfl rfl (by rfl) Try.zeroValue3 rfl hs ?_
              clear hs; intro g14 w14 hs
              refine Z.le rfl trivial ?_
              first | refine Z.ZO.store rfl rfl hs Try.sizeOf3 rfl rfl rfl (by first | exact SX.at0 | exact SX.at1 | exact SX.at2 | exact SX.at3 | exact SX.at4 | exact SX.at5 | exact Z.at6 | exact Z.at7 | exact Z.at8 | exact Z.at9 | exact Z.at10 | exact Z.at11 | exact Z.at12) (by first | (simp; done) | (simp; omega)) ?_ | refine Z.ZO.storeR rfl rfl hs Try.sizeOf3 rfl rfl rfl (by first | exact SX.at0 | exact SX.at1 | exact SX.at2 | exact SX.at3 | exact SX.at4 | exact SX.at5 | exact Z.at6 | exact Z.at7 | exact Z.at8 | exact Z.at9 | exact Z.at10 | exact Z.at11 | exact Z.at12) (by first | omega | (simp [ints_length]; done) | (simp [ints_length]; omega)) ?_
              clear hs; intro ws hs
              simp only [Nat.zero_add, Nat.add_zero, Nat.reduceAdd, Int.reduceToNat, Nat.reduceMul, List.set_cons_zero, List.set_cons_succ, List.setIfInBounds_toArray] at hs
              refine Z.lnil ?_
              refine Z.only [2, 3, 4, 10, 12, 13, 14] rfl ?_
              refine Z.nthen ?_
              refine Z.seq ?_
              refine Z.seq ?_
              refine Z.region ?_
              refine Z.lb 1 rfl ?_
              refine Z.lnil ?_
              refine Z.only [2, 3, 4, 10, 12, 13, 14, 64] rfl ?_
              refine Z.nthen ?_
              refine Z.block ?_
              refine Z.rangeFunc (ps := [65, 66]) (L0 := SX.Ent.blk g14 3 #[.int .i64 (0 : Int)] :: SX.Ent.blk g13 3 #[.int .i64 (turn : Int)] :: SX.Ent.blk g10 35 #[.slice Ba K ca] :: SX.Ent.row (.slice Ba K ca) 3 1 K (glC m1.bs 4) :: SX.Ent.blk g4 4 #[.bool false] :: SX.Ent.blk g3 3 #[.int .i64 many] :: SX.Ent.blk g2 22 #[.int .i64 a, .int .i64 b, .int .i64 c, .int .i64 d] :: ds.map Z.mkE) (groups_seq gg _ m1.b0 m1.b1 m1.b2 m1.b3) rfl Try.call30 ((Z.toRange (C := [_, _, _, _, _, _, _]) (E0 := [_]) hs)) trivial (by rintro x args Lx ⟨rfl, rfl⟩; rfl) rfl (fun pre L => (turn = 0 → (pre = [] ∨ (pre.length : Int) < many)) ∧ L = SX.Ent.blk g14 3 #[.int .i64 (pre.length : Int)] :: SX.Ent.blk g13 3 #[.int .i64 (turn : Int)] :: SX.Ent.blk g10 35 #[.slice Ba K ca] :: SX.Ent.row (.slice Ba K ca) 3 1 K (glC m1.bs 4) :: SX.Ent.blk g4 4 #[.bool false] :: SX.Ent.blk g3 3 #[.int .i64 many] :: SX.Ent.blk g2 22 #[.int .i64 a, .int .i64 b, .int .i64 c, .int .i64 d] :: ds.map Z.mkE) (fun q L => (turn = 0 ∧ q = .exit 4) ∧ ∃ N : Nat, (N : Int) = min (K : Int) (max 1 many) ∧ L = SX.Ent.blk g14 3 #[.int .i64 (N : Int)] :: SX.Ent.blk g13 3 #[.int .i64 (turn : Int)] :: SX.Ent.blk g10 35 #[.slice Ba K ca] :: SX.Ent.row (.slice Ba K ca) 3 1 K (glC m1.bs 4) :: SX.Ent.blk g4 4 #[.bool false] :: SX.Ent.blk g3 3 #[.int .i64 many] :: SX.Ent.blk g2 22 #[.int .i64 a, .int .i64 b, .int .i64 c, .int .i64 d] :: ds.map Z.mkE) ⟨fun _ => .inl rfl, rfl⟩ ?_ ?_ ?_
              · clear hs
                rintro l4 Z4 pre x args W4 L4 Lx ⟨hi, rfl⟩ hpre ⟨rfl, rfl⟩ hs
                refine ⟨_, rfl, ?_⟩
                refine Z.seq ?_
                refine Z.region ?_
                refine Z.lb 1 rfl ?_
                refine Z.lnil ?_
                refine Z.only [2, 3, 4, 10, 12, 13, 14, 15, 66] rfl ?_
                refine Z.nthen ?_
                refine Z.region ?_
                refine Z.lb 1 rfl ?_
                refine Z.lnil ?_
                refine Z.only [2, 3, 4, 10, 12, 13, 14, 15, 16] rfl ?_
                refine Z.nthen ?_
                refine Z.assigned (SX.Ent.blk g14 3 #[.int .i64 (pre.length : Int)] :: SX.Ent.blk g13 3 #[.int .i64 (turn : Int)] :: SX.Ent.blk g10 35 #[.slice Ba K ca] :: SX.Ent.row (.slice Ba K ca) 3 1 K (glC m1.bs 4) :: SX.Ent.blk g4 4 #[.bool false] :: SX.Ent.blk g3 3 #[.int .i64 many] :: SX.Ent.blk g2 22 #[.int .i64 a, .int .i64 b, .int .i64 c, .int .i64 d] :: ds.map Z.mkE) hs ?_
                clear hs
                intro Wb4 Zb4 hs
                refine Z.block ?_
                refine Z.seq ?_
                refine Z.seq ?_
                refine Z.region ?_
                obtain ⟨hlt, hx4, hx0, hxa, hpl⟩ := gps_pre hpre
                have hex := hel x hx4 hx0
                rw [← hgp] at hxa hpl
                rw [hK] at hpl
                have hxa2 : (glC m1.bs 4)[0 + (pre.length : Int).toNat * 1]? = some (.int .i64 (x : Int)) := by
                  rw [show 0 + (pre.length : Int).toNat * 1 = pre.length from by omega]
                  unfold glC
                  rw [List.getElem?_map, hxa]
                  rfl
                simp only [List.cons_append] at hs
                obtain ⟨gB, cB, eB, -, -⟩ := row_form (j := 3) hs rfl (by omega)
                cases eB
                refine Z.l rfl rfl (by rfl) (Z.keepS hs) (by first | exact Z.Yd.load rfl Try.isAgg3 (fun _ => Z.cellB (by first | ((repeat (first | exact List.mem_cons_self | refine List.mem_cons_of_mem _ ?_ | refine List.mem_append_right _ ?_)); done) | fail) rfl) | exact Z.Yd.load rfl Try.isAgg3 (fun _ => Z.cellO (by assumption) (by simp) (by assumption)) | fail "load 23.0") ?_
                refine Z.l rfl rfl (by rfl) (Z.keepS hs) (by first | exact Z.Yd.load rfl Try.isAgg35 (fun _ => Z.cellB (by first | ((repeat (first | exact List.mem_cons_self | refine List.mem_cons_of_mem _ ?_ | refine List.mem_append_right _ ?_)); done) | fail) rfl) | exact Z.Yd.load rfl Try.isAgg35 (fun _ => Z.cellO (by assumption) (by simp) (by assumption)) | fail "load 23.1") ?_
                refine Z.l rfl rfl (by rfl) (Z.keepS hs) (Z.Yd.lenS rfl Try.underlying35) ?_
                refine Z.lb 2 rfl ?_
                refine Z.yes (s := 71) (b := false) rfl ((by simp; omega)) rfl ?_
                refine Z.lb 1 rfl ?_
                refine Z.l rfl rfl (by rfl) (Z.keepS hs) (by first | exact Z.Yd.load rfl Try.isAgg35 (fun _ => Z.cellB (by first | ((repeat (first | exact List.mem_cons_self | refine List.mem_cons_of_mem _ ?_ | refine List.mem_append_right _ ?_)); done) | fail) rfl) | exact Z.Yd.load rfl Try.isAgg35 (fun _ => Z.cellO (by assumption) (by simp) (by assumption)) | fail "load 23.6") ?_
                refine Z.l rfl rfl (by rfl) (Z.keepS hs) (by first | exact Z.Yd.load rfl Try.isAgg3 (fun _ => Z.cellB (by first | ((repeat (first | exact List.mem_cons_self | refine List.mem_cons_of_mem _ ?_ | refine List.mem_append_right _ ?_)); done) | fail) rfl) | exact Z.Yd.load rfl Try.isAgg3 (fun _ => Z.cellO (by assumption) (by simp) (by assumption)) | fail "load 23.7") ?_
                refine Z.l rfl rfl (by rfl) (Z.keepS hs) (Z.Yd.elem rfl rfl Try.underlying35 Try.sizeOf3 (fun hG => ⟨(by first | omega | (have hG' := Z.gh rfl hG; simp at hG'; omega)), (by first | omega | (have hG' := Z.gh rfl hG; simp at hG'; omega))⟩)) ?_
                refine Z.l rfl rfl (by rfl) (Z.keepS hs) (Z.Yd.load rfl Try.isAgg3 (fun _ => Z.cellR (by first | ((repeat (first | exact List.mem_cons_self | refine List.mem_cons_of_mem _ ?_ | refine List.mem_append_right _ ?_)); done) | fail) hxa2)) ?_
                refine Z.lb 1 rfl ?_
                refine Z.yes (s := 71) (b := false) rfl rfl rfl ?_
                refine Z.l rfl rfl (by rfl) (Z.keepS hs) (Z.Yd.pickF rfl rfl) ?_
                refine Z.lb 1 rfl ?_
                refine Z.yes (s := 79) (b := false) rfl ((by simp)) rfl ?_
                refine Z.lb 2 rfl ?_
                refine Z.l rfl rfl (by rfl) (Z.keepS hs) (Z.Yd.elemA rfl rfl Try.underlying22 Try.sizeOf3 (fun hG => ⟨(by first | omega | (have hG' := Z.gh rfl hG; simp at hG'; omega)), (by first | omega | (have hG' := Z.gh rfl hG; simp at hG'; omega))⟩)) ?_
                refine Z.l rfl rfl (by rfl) (Z.keepS hs) (Z.Yd.load rfl Try.isAgg3 (fun hG => Z.cellB (by first | ((repeat (first | exact List.mem_cons_self | refine List.mem_cons_of_mem _ ?_ | refine List.mem_append_right _ ?_)); done) | fail) (by rw [Z.nth_eq]; show _[0 + (x : Int).toNat * 1]? = _; rw [show 0 + (x : Int).toNat * 1 = x from by omega]; exact elt4 (a := a) (b := b) (c := c) (d := d) hx4))) ?_
                refine Z.lb 1 rfl ?_
                refine Z.yes (s := 79) (b := false) rfl rfl rfl ?_
                refine Z.l rfl rfl (by rfl) (Z.keepS hs) (Z.Yd.pickF rfl rfl) ?_
                refine Z.lnil ?_
                refine Z.only [2, 3, 4, 10, 12, 13, 14, 85] rfl ?_
                refine Z.nthen ?_
                refine Z.cond rfl (fun h => absurd h (by simp [hex])) (fun hc23 => ?_)
                refine Z.skip ?_
                refine Z.nthen ?_
                refine Z.seq ?_
                refine Z.region ?_
                refine Z.l rfl rfl (by rfl) (Z.keepS hs) (by first | exact Z.Yd.load rfl Try.isAgg3 (fun _ => Z.cellB (by first | ((repeat (first | exact List.mem_cons_self | refine List.mem_cons_of_mem _ ?_ | refine List.mem_append_right _ ?_)); done) | fail) rfl) | exact Z.Yd.load rfl Try.isAgg3 (fun _ => Z.cellO (by assumption) (by simp) (by assumption)) | fail "load 25.0") ?_
                refine Z.l rfl rfl (by rfl) (Z.keepS hs) (Z.Yd.add rfl rfl (fun hG => Z.wi64 (by first | omega | (have hG' := Z.gh rfl hG; simp at hG'; omega)))) ?_
                refine Z.le rfl trivial ?_
                first | refine Z.ZO.store rfl rfl hs Try.sizeOf3 rfl rfl rfl (by first | exact SX.at0 | exact SX.at1 | exact SX.at2 | exact SX.at3 | exact SX.at4 | exact SX.at5 | exact Z.at6 | exact Z.at7 | exact Z.at8 | exact Z.at9 | exact Z.at10 | exact Z.at11 | exact Z.at12) (by first | (simp; done) | (simp; omega)) ?_ | refine Z.ZO.storeR rfl rfl hs Try.sizeOf3 rfl rfl rfl (by first | exact SX.at0 | exact SX.at1 | exact SX.at2 | exact SX.at3 | exact SX.at4 | exact SX.at5 | exact Z.at6 | exact Z.at7 | exact Z.at8 | exact Z.at9 | exact Z.at10 | exact Z.at11 | exact Z.at12) (by first | omega | (simp [ints_length]; done) | (simp [ints_length]; omega)) ?_
                clear hs; intro ws hs
                simp only [Nat.zero_add, Nat.add_zero, Nat.reduceAdd, Int.reduceToNat, Nat.reduceMul, List.set_cons_zero, List.set_cons_succ, List.setIfInBounds_toArray] at hs
                refine Z.lnil ?_
                refine Z.only [2, 3, 4, 10, 12, 13, 14] rfl ?_
                refine Z.nthen ?_
                refine Z.seq ?_
                refine Z.region ?_
                refine Z.l rfl rfl (by rfl) (Z.keepS hs) (by first | exact Z.Yd.load rfl Try.isAgg3 (fun _ => Z.cellB (by first | ((repeat (first | exact List.mem_cons_self | refine List.mem_cons_of_mem _ ?_ | refine List.mem_append_right _ ?_)); done) | fail) rfl) | exact Z.Yd.load rfl Try.isAgg3 (fun _ => Z.cellO (by assumption) (by simp) (by assumption)) | fail "load 26.0") ?_
                refine Z.lb 2 rfl ?_
                refine Z.split (s := 90) rfl (fun hsp90 => ?_) (fun hsp90 => ?_)
                · first
                    | (exfalso; simp at hsp90 <;> omega)
                    | (
                      refine Z.yes (s := 90) (b := true) rfl hsp90 rfl ?_
                      (try simp at hsp90)
                      refine Z.l rfl rfl (by rfl) (Z.keepS hs) (by first | exact Z.Yd.load rfl Try.isAgg3 (fun _ => Z.cellB (by first | ((repeat (first | exact List.mem_cons_self | refine List.mem_cons_of_mem _ ?_ | refine List.mem_append_right _ ?_)); done) | fail) rfl) | exact Z.Yd.load rfl Try.isAgg3 (fun _ => Z.cellO (by assumption) (by simp) (by assumption)) | fail "load 26.3") ?_
                      refine Z.l rfl rfl (by rfl) (Z.keepS hs) (by first | exact Z.Yd.load rfl Try.isAgg3 (fun _ => Z.cellB (by first | ((repeat (first | exact List.mem_cons_self | refine List.mem_cons_of_mem _ ?_ | refine List.mem_append_right _ ?_)); done) | fail) rfl) | exact Z.Yd.load rfl Try.isAgg3 (fun _ => Z.cellO (by assumption) (by simp) (by assumption)) | fail "load 26.4") ?_
                      refine Z.lb 1 rfl ?_
                      refine Z.yes (s := 90) (b := true) rfl rfl rfl ?_
                      refine Z.l rfl rfl (by rfl) (Z.keepS hs) (Z.Yd.pickT rfl rfl) ?_
                      refine Z.lnil ?_
                      refine Z.only [2, 3, 4, 10, 12, 13, 14, 94] rfl ?_
                      refine Z.nthen ?_
                      refine Z.cond rfl (fun hc26 => ?_) (fun hc26 => ?_)
                      · first
                          | (exfalso; simp at hc26 <;> omega)
                          | (
                            (try simp at hc26)
                            refine Z.exit ?_
                            refine Z.xblockn rfl ?_
                            refine Z.rexit _ ⟨⟨by omega, rfl⟩, pre.length + 1, by rcases hi (by omega) with h | h <;> simp_all <;> omega, rfl⟩ hs
                            )
                      · first
                          | (exfalso; simp at hc26 <;> omega)
                          | (
                            (try simp at hc26)
                            refine Z.skip ?_
                            refine Z.nblock ?_
                            have e : ((pre ++ [x]).length : Int) = pre.length + 1 := by simp
                            refine Z.rnorm _ ⟨fun h => .inr (by rw [e]; omega), by rw [e]⟩ hs
                            )
                      )
                · first
                    | (exfalso; simp at hsp90 <;> omega)
                    | (
                      refine Z.yes (s := 90) (b := false) rfl hsp90 rfl ?_
                      (try simp at hsp90)
                      refine Z.ls rfl rfl rfl (by rfl) ?_
                      refine Z.ls rfl rfl rfl (by rfl) ?_
                      refine Z.ls rfl rfl rfl (by rfl) ?_
                      refine Z.l rfl rfl (by rfl) (Z.keepS hs) (Z.Yd.pickF rfl rfl) ?_
                      refine Z.lnil ?_
                      refine Z.only [2, 3, 4, 10, 12, 13, 14, 94] rfl ?_
                      refine Z.nthen ?_
                      refine Z.cond rfl (fun hc26 => ?_) (fun hc26 => ?_)
                      · first
                          | (exfalso; simp at hc26 <;> omega)
                          | (
                            (try simp at hc26)
                            refine Z.exit ?_
                            refine Z.xblockn rfl ?_
                            refine Z.rexit _ ⟨⟨by omega, rfl⟩, pre.length + 1, by rcases hi (by omega) with h | h <;> simp_all <;> omega, rfl⟩ hs
                            )
                      · first
                          | (exfalso; simp at hc26 <;> omega)
                          | (
                            (try simp at hc26)
                            refine Z.skip ?_
                            refine Z.nblock ?_
                            have e : ((pre ++ [x]).length : Int) = pre.length + 1 := by simp
                            refine Z.rnorm _ ⟨fun h => .inr (by rw [e]; omega), by rw [e]⟩ hs
                            )
                      )
              · clear hs
                rintro Dd W4 L4 hi hs
                obtain ⟨hi, rfl⟩ := hi
                rw [← hgp, hK] at hs hi
                have hn0 : turn = 0 → (K : Int) = min (K : Int) (max 1 many) := fun h => by
                  rcases hi h with h1 | h1
                  · rw [h1] at hK; simp at hK; omega
                  · omega
                replace hs := Z.fromRange (C := [_, _, _, _, _, _, _]) (E0 := [_]) hs
                refine Z.nblock ?_
                refine Z.nthen ?_
                refine Z.seq ?_
                refine Z.region ?_
                refine Z.l rfl rfl (by rfl) (Z.keepS hs) (by first | exact Z.Yd.load rfl Try.isAgg3 (fun _ => Z.cellB (by first | ((repeat (first | exact List.mem_cons_self | refine List.mem_cons_of_mem _ ?_ | refine List.mem_append_right _ ?_)); done) | fail) rfl) | exact Z.Yd.load rfl Try.isAgg3 (fun _ => Z.cellO (by assumption) (by simp) (by assumption)) | fail "load 27.0") ?_
                refine Z.lb 2 rfl ?_
                refine Z.split (s := 97) rfl (fun hsp97 => ?_) (fun hsp97 => ?_)
                · first
                    | (exfalso; simp at hsp97 <;> omega)
                    | (
                      refine Z.yes (s := 97) (b := true) rfl hsp97 rfl ?_
                      (try simp at hsp97)
                      refine Z.l rfl rfl (by rfl) (Z.keepS hs) (by first | exact Z.Yd.load rfl Try.isAgg3 (fun _ => Z.cellB (by first | ((repeat (first | exact List.mem_cons_self | refine List.mem_cons_of_mem _ ?_ | refine List.mem_append_right _ ?_)); done) | fail) rfl) | exact Z.Yd.load rfl Try.isAgg3 (fun _ => Z.cellO (by assumption) (by simp) (by assumption)) | fail "load 27.3") ?_
                      refine Z.l rfl rfl (by rfl) (Z.keepS hs) (by first | exact Z.Yd.load rfl Try.isAgg35 (fun _ => Z.cellB (by first | ((repeat (first | exact List.mem_cons_self | refine List.mem_cons_of_mem _ ?_ | refine List.mem_append_right _ ?_)); done) | fail) rfl) | exact Z.Yd.load rfl Try.isAgg35 (fun _ => Z.cellO (by assumption) (by simp) (by assumption)) | fail "load 27.4") ?_
                      refine Z.l rfl rfl (by rfl) (Z.keepS hs) (Z.Yd.lenS rfl Try.underlying35) ?_
                      refine Z.l rfl rfl (by rfl) (Z.keepS hs) (by first | exact Z.Yd.load rfl Try.isAgg3 (fun _ => Z.cellB (by first | ((repeat (first | exact List.mem_cons_self | refine List.mem_cons_of_mem _ ?_ | refine List.mem_append_right _ ?_)); done) | fail) rfl) | exact Z.Yd.load rfl Try.isAgg3 (fun _ => Z.cellO (by assumption) (by simp) (by assumption)) | fail "load 27.6") ?_
                      refine Z.l rfl rfl (by rfl) (Z.keepS hs) (Z.Yd.max rfl rfl) ?_
                      refine Z.l rfl rfl (by rfl) (Z.keepS hs) (Z.Yd.min rfl rfl) ?_
                      refine Z.lb 1 rfl ?_
                      refine Z.yes (s := 97) (b := true) rfl rfl rfl ?_
                      refine Z.l rfl rfl (by rfl) (Z.keepS hs) (Z.Yd.pickT rfl rfl) ?_
                      refine Z.lb 1 rfl ?_
                      refine Z.yes (s := 106) (b := false) rfl ((by first | (simp; done) | (have h := hn0 (by omega); simp [← h]; done) | (exfalso; omega))) rfl ?_
                      refine Z.l rfl rfl (by rfl) (Z.keepS hs) (by first | exact Z.Yd.load rfl Try.isAgg3 (fun _ => Z.cellB (by first | ((repeat (first | exact List.mem_cons_self | refine List.mem_cons_of_mem _ ?_ | refine List.mem_append_right _ ?_)); done) | fail) rfl) | exact Z.Yd.load rfl Try.isAgg3 (fun _ => Z.cellO (by assumption) (by simp) (by assumption)) | fail "load 27.12") ?_
                      refine Z.lb 2 rfl ?_
                      refine Z.yes (s := 106) (b := false) rfl rfl rfl ?_
                      refine Z.split (s := 109) rfl (fun hsp109 => ?_) (fun hsp109 => ?_)
                      · first
                          | (exfalso; simp at hsp109 <;> omega)
                          | (
                            refine Z.yes (s := 109) (b := true) rfl hsp109 rfl ?_
                            (try simp at hsp109)
                            refine Z.l rfl rfl (by rfl) (Z.keepS hs) (by first | exact Z.Yd.load rfl Try.isAgg3 (fun _ => Z.cellB (by first | ((repeat (first | exact List.mem_cons_self | refine List.mem_cons_of_mem _ ?_ | refine List.mem_append_right _ ?_)); done) | fail) rfl) | exact Z.Yd.load rfl Try.isAgg3 (fun _ => Z.cellO (by assumption) (by simp) (by assumption)) | fail "load 27.15") ?_
                            refine Z.l rfl rfl (by rfl) (Z.keepS hs) (by first | exact Z.Yd.load rfl Try.isAgg35 (fun _ => Z.cellB (by first | ((repeat (first | exact List.mem_cons_self | refine List.mem_cons_of_mem _ ?_ | refine List.mem_append_right _ ?_)); done) | fail) rfl) | exact Z.Yd.load rfl Try.isAgg35 (fun _ => Z.cellO (by assumption) (by simp) (by assumption)) | fail "load 27.16") ?_
                            refine Z.l rfl rfl (by rfl) (Z.keepS hs) (Z.Yd.lenS rfl Try.underlying35) ?_
                            refine Z.lb 1 rfl ?_
                            refine Z.yes (s := 109) (b := true) rfl rfl rfl ?_
                            refine Z.l rfl rfl (by rfl) (Z.keepS hs) (Z.Yd.pickT rfl rfl) ?_
                            refine Z.yes (s := 106) (b := false) rfl rfl rfl ?_
                            refine Z.l rfl rfl (by rfl) (Z.keepS hs) (Z.Yd.pickF rfl rfl) ?_
                            refine Z.lnil ?_
                            refine Z.only [2, 3, 4, 10, 12, 13, 115] rfl ?_
                            refine Z.nthen ?_
                            refine Z.cond rfl (fun h => absurd h (by first | (simp; done) | (have h := hn0 (by omega); simp [← h]; done) | (exfalso; omega))) (fun hc27 => ?_)
                            refine Z.skip ?_
                            refine Z.nblock ?_
                            refine Z.nthen ?_
                            refine Z.seq ?_
                            refine Z.seq ?_
                            refine Z.region ?_
                            refine Z.l rfl rfl (by rfl) (Z.keepS hs) (by first | exact Z.Yd.load rfl Try.isAgg3 (fun _ => Z.cellB (by first | ((repeat (first | exact List.mem_cons_self | refine List.mem_cons_of_mem _ ?_ | refine List.mem_append_right _ ?_)); done) | fail) rfl) | exact Z.Yd.load rfl Try.isAgg3 (fun _ => Z.cellO (by assumption) (by simp) (by assumption)) | fail "load 29.0") ?_
                            refine Z.lnil ?_
                            refine Z.only [2, 3, 4, 10, 12, 116] rfl ?_
                            refine Z.nthen ?_
                            refine Z.region ?_
                            refine Z.le rfl trivial ?_
                            refine Z.ZO.alloc rfl rfl (by rfl) Try.zeroValue3 rfl hs ?_
                            clear hs; intro g13 w13 hs
                            refine Z.le rfl trivial ?_
                            first | refine Z.ZO.store rfl rfl hs Try.sizeOf3 rfl rfl rfl (by first | exact SX.at0 | exact SX.at1 | exact SX.at2 | exact SX.at3 | exact SX.at4 | exact SX.at5 | exact Z.at6 | exact Z.at7 | exact Z.at8 | exact Z.at9 | exact Z.at10 | exact Z.at11 | exact Z.at12) (by first | (simp; done) | (simp; omega)) ?_ | refine Z.ZO.storeR rfl rfl hs Try.sizeOf3 rfl rfl rfl (by first | exact SX.at0 | exact SX.at1 | exact SX.at2 | exact SX.at3 | exact SX.at4 | exact SX.at5 | exact Z.at6 | exact Z.at7 | exact Z.at8 | exact Z.at9 | exact Z.at10 | exact Z.at11 | exact Z.at12) (by first | omega | (simp [ints_length]; done) | (simp [ints_length]; omega)) ?_
                            clear hs; intro ws hs
                            simp only [Nat.zero_add, Nat.add_zero, Nat.reduceAdd, Int.reduceToNat, Nat.reduceMul, List.set_cons_zero, List.set_cons_succ, List.setIfInBounds_toArray] at hs
                            refine Z.lnil ?_
                            refine Z.only [2, 3, 4, 10, 12, 13] rfl ?_
                            refine Z.nthen ?_
                            refine Z.region ?_
                            refine Z.l rfl rfl (by rfl) (Z.keepS hs) (by first | exact Z.Yd.load rfl Try.isAgg3 (fun _ => Z.cellB (by first | ((repeat (first | exact List.mem_cons_self | refine List.mem_cons_of_mem _ ?_ | refine List.mem_append_right _ ?_)); done) | fail) rfl) | exact Z.Yd.load rfl Try.isAgg3 (fun _ => Z.cellO (by assumption) (by simp) (by assumption)) | fail "load 18.0") ?_
                            refine Z.l rfl rfl (by rfl) (Z.keepS hs) (Z.Yd.add rfl rfl (fun hG => Z.wi64 (by first | omega | (have hG' := Z.gh rfl hG; simp at hG'; omega)))) ?_
                            refine Z.le rfl trivial ?_
                            first | refine Z.ZO.store rfl rfl hs Try.sizeOf3 rfl rfl rfl (by first | exact SX.at0 | exact SX.at1 | exact SX.at2 | exact SX.at3 | exact SX.at4 | exact SX.at5 | exact Z.at6 | exact Z.at7 | exact Z.at8 | exact Z.at9 | exact Z.at10 | exact Z.at11 | exact Z.at12) (by first | (simp; done) | (simp; omega)) ?_ | refine Z.ZO.storeR rfl rfl hs Try.sizeOf3 rfl rfl rfl (by first | exact SX.at0 | exact SX.at1 | exact SX.at2 | exact SX.at3 | exact SX.at4 | exact SX.at5 | exact Z.at6 | exact Z.at7 | exact Z.at8 | exact Z.at9 | exact Z.at10 | exact Z.at11 | exact Z.at12) (by first | omega | (simp [ints_length]; done) | (simp [ints_length]; omega)) ?_
                            clear hs; intro ws hs
                            simp only [Nat.zero_add, Nat.add_zero, Nat.reduceAdd, Int.reduceToNat, Nat.reduceMul, List.set_cons_zero, List.set_cons_succ, List.setIfInBounds_toArray] at hs
                            refine Z.lnil ?_
                            refine Z.only [2, 3, 4, 10, 12, 13] rfl ?_
                            refine Z.nthen ?_
                            exact Z.againD (g13, turn + 1, Dd :: ds) rfl (by refine ⟨?_, ?_, ?_, ?_, ?_, ?_, trivial⟩ <;> (first | rfl | (refine Z.lookv rfl ?_; simp; done) | (refine Z.lookv rfl ?_; simp; omega))) ⟨by simp only; omega, hs.sub ((((List.Sublist.refl _).cons _).cons _).cons_cons _)⟩ (by simp only; omega)
                            )
                      · first
                          | (exfalso; simp at hsp109 <;> omega)
                          | (
                            refine Z.yes (s := 109) (b := false) rfl hsp109 rfl ?_
                            (try simp at hsp109)
                            refine Z.ls rfl rfl rfl (by rfl) ?_
                            refine Z.ls rfl rfl rfl (by rfl) ?_
                            refine Z.ls rfl rfl rfl (by rfl) ?_
                            refine Z.ls rfl rfl rfl (by rfl) ?_
                            refine Z.l rfl rfl (by rfl) (Z.keepS hs) (Z.Yd.pickF rfl rfl) ?_
                            refine Z.yes (s := 106) (b := false) rfl rfl rfl ?_
                            refine Z.l rfl rfl (by rfl) (Z.keepS hs) (Z.Yd.pickF rfl rfl) ?_
                            refine Z.lnil ?_
                            refine Z.only [2, 3, 4, 10, 12, 13, 115] rfl ?_
                            refine Z.nthen ?_
                            refine Z.cond rfl (fun h => absurd h (by first | (simp; done) | (have h := hn0 (by omega); simp [← h]; done) | (exfalso; omega))) (fun hc27 => ?_)
                            refine Z.skip ?_
                            refine Z.nblock ?_
                            refine Z.nthen ?_
                            refine Z.seq ?_
                            refine Z.seq ?_
                            refine Z.region ?_
                            refine Z.l rfl rfl (by rfl) (Z.keepS hs) (by first | exact Z.Yd.load rfl Try.isAgg3 (fun _ => Z.cellB (by first | ((repeat (first | exact List.mem_cons_self | refine List.mem_cons_of_mem _ ?_ | refine List.mem_append_right _ ?_)); done) | fail) rfl) | exact Z.Yd.load rfl Try.isAgg3 (fun _ => Z.cellO (by assumption) (by simp) (by assumption)) | fail "load 29.0") ?_
                            refine Z.lnil ?_
                            refine Z.only [2, 3, 4, 10, 12, 116] rfl ?_
                            refine Z.nthen ?_
                            refine Z.region ?_
                            refine Z.le rfl trivial ?_
                            refine Z.ZO.alloc rfl rfl (by rfl) Try.zeroValue3 rfl hs ?_
                            clear hs; intro g13 w13 hs
                            refine Z.le rfl trivial ?_
                            first | refine Z.ZO.store rfl rfl hs Try.sizeOf3 rfl rfl rfl (by first | exact SX.at0 | exact SX.at1 | exact SX.at2 | exact SX.at3 | exact SX.at4 | exact SX.at5 | exact Z.at6 | exact Z.at7 | exact Z.at8 | exact Z.at9 | exact Z.at10 | exact Z.at11 | exact Z.at12) (by first | (simp; done) | (simp; omega)) ?_ | refine Z.ZO.storeR rfl rfl hs Try.sizeOf3 rfl rfl rfl (by first | exact SX.at0 | exact SX.at1 | exact SX.at2 | exact SX.at3 | exact SX.at4 | exact SX.at5 | exact Z.at6 | exact Z.at7 | exact Z.at8 | exact Z.at9 | exact Z.at10 | exact Z.at11 | exact Z.at12) (by first | omega | (simp [ints_length]; done) | (simp [ints_length]; omega)) ?_
                            clear hs; intro ws hs
                            simp only [Nat.zero_add, Nat.add_zero, Nat.reduceAdd, Int.reduceToNat, Nat.reduceMul, List.set_cons_zero, List.set_cons_succ, List.setIfInBounds_toArray] at hs
                            refine Z.lnil ?_
                            refine Z.only [2, 3, 4, 10, 12, 13] rfl ?_
                            refine Z.nthen ?_
                            refine Z.region ?_
                            refine Z.l rfl rfl (by rfl) (Z.keepS hs) (by first | exact Z.Yd.load rfl Try.isAgg3 (fun _ => Z.cellB (by first | ((repeat (first | exact List.mem_cons_self | refine List.mem_cons_of_mem _ ?_ | refine List.mem_append_right _ ?_)); done) | fail) rfl) | exact Z.Yd.load rfl Try.isAgg3 (fun _ => Z.cellO (by assumption) (by simp) (by assumption)) | fail "load 18.0") ?_
                            refine Z.l rfl rfl (by rfl) (Z.keepS hs) (Z.Yd.add rfl rfl (fun hG => Z.wi64 (by first | omega | (have hG' := Z.gh rfl hG; simp at hG'; omega)))) ?_
                            refine Z.le rfl trivial ?_
                            first | refine Z.ZO.store rfl rfl hs Try.sizeOf3 rfl rfl rfl (by first | exact SX.at0 | exact SX.at1 | exact SX.at2 | exact SX.at3 | exact SX.at4 | exact SX.at5 | exact Z.at6 | exact Z.at7 | exact Z.at8 | exact Z.at9 | exact Z.at10 | exact Z.at11 | exact Z.at12) (by first | (simp; done) | (simp; omega)) ?_ | refine Z.ZO.storeR rfl rfl hs Try.sizeOf3 rfl rfl rfl (by first | exact SX.at0 | exact SX.at1 | exact SX.at2 | exact SX.at3 | exact SX.at4 | exact SX.at5 | exact Z.at6 | exact Z.at7 | exact Z.at8 | exact Z.at9 | exact Z.at10 | exact Z.at11 | exact Z.at12) (by first | omega | (simp [ints_length]; done) | (simp [ints_length]; omega)) ?_
                            clear hs; intro ws hs
                            simp only [Nat.zero_add, Nat.add_zero, Nat.reduceAdd, Int.reduceToNat, Nat.reduceMul, List.set_cons_zero, List.set_cons_succ, List.setIfInBounds_toArray] at hs
                            refine Z.lnil ?_
                            refine Z.only [2, 3, 4, 10, 12, 13] rfl ?_
                            refine Z.nthen ?_
                            exact Z.againD (g13, turn + 1, Dd :: ds) rfl (by refine ⟨?_, ?_, ?_, ?_, ?_, ?_, trivial⟩ <;> (first | rfl | (refine Z.lookv rfl ?_; simp; done) | (refine Z.lookv rfl ?_; simp; omega))) ⟨by simp only; omega, hs.sub ((((List.Sublist.refl _).cons _).cons _).cons_cons _)⟩ (by simp only; omega)
                            )
                      )
                · first
                    | (exfalso; simp at hsp97 <;> omega)
                    | (
                      refine Z.yes (s := 97) (b := false) rfl hsp97 rfl ?_
                      (try simp at hsp97)
                      refine Z.ls rfl rfl rfl (by rfl) ?_
                      refine Z.ls rfl rfl rfl (by rfl) ?_
                      refine Z.ls rfl rfl rfl (by rfl) ?_
                      refine Z.ls rfl rfl rfl (by rfl) ?_
                      refine Z.ls rfl rfl rfl (by rfl) ?_
                      refine Z.ls rfl rfl rfl (by rfl) ?_
                      refine Z.ls rfl rfl rfl (by rfl) ?_
                      refine Z.l rfl rfl (by rfl) (Z.keepS hs) (Z.Yd.pickF rfl rfl) ?_
                      refine Z.lb 1 rfl ?_
                      refine Z.yes (s := 106) (b := false) rfl ((by first | (simp; done) | (have h := hn0 (by omega); simp [← h]; done) | (exfalso; omega))) rfl ?_
                      refine Z.l rfl rfl (by rfl) (Z.keepS hs) (by first | exact Z.Yd.load rfl Try.isAgg3 (fun _ => Z.cellB (by first | ((repeat (first | exact List.mem_cons_self | refine List.mem_cons_of_mem _ ?_ | refine List.mem_append_right _ ?_)); done) | fail) rfl) | exact Z.Yd.load rfl Try.isAgg3 (fun _ => Z.cellO (by assumption) (by simp) (by assumption)) | fail "load 27.12") ?_
                      refine Z.lb 2 rfl ?_
                      refine Z.yes (s := 106) (b := false) rfl rfl rfl ?_
                      refine Z.split (s := 109) rfl (fun hsp109 => ?_) (fun hsp109 => ?_)
                      · first
                          | (exfalso; simp at hsp109 <;> omega)
                          | (
                            refine Z.yes (s := 109) (b := true) rfl hsp109 rfl ?_
                            (try simp at hsp109)
                            refine Z.l rfl rfl (by rfl) (Z.keepS hs) (by first | exact Z.Yd.load rfl Try.isAgg3 (fun _ => Z.cellB (by first | ((repeat (first | exact List.mem_cons_self | refine List.mem_cons_of_mem _ ?_ | refine List.mem_append_right _ ?_)); done) | fail) rfl) | exact Z.Yd.load rfl Try.isAgg3 (fun _ => Z.cellO (by assumption) (by simp) (by assumption)) | fail "load 27.15") ?_
                            refine Z.l rfl rfl (by rfl) (Z.keepS hs) (by first | exact Z.Yd.load rfl Try.isAgg35 (fun _ => Z.cellB (by first | ((repeat (first | exact List.mem_cons_self | refine List.mem_cons_of_mem _ ?_ | refine List.mem_append_right _ ?_)); done) | fail) rfl) | exact Z.Yd.load rfl Try.isAgg35 (fun _ => Z.cellO (by assumption) (by simp) (by assumption)) | fail "load 27.16") ?_
                            refine Z.l rfl rfl (by rfl) (Z.keepS hs) (Z.Yd.lenS rfl Try.underlying35) ?_
                            refine Z.lb 1 rfl ?_
                            refine Z.yes (s := 109) (b := true) rfl rfl rfl ?_
                            refine Z.l rfl rfl (by rfl) (Z.keepS hs) (Z.Yd.pickT rfl rfl) ?_
                            refine Z.yes (s := 106) (b := false) rfl rfl rfl ?_
                            refine Z.l rfl rfl (by rfl) (Z.keepS hs) (Z.Yd.pickF rfl rfl) ?_
                            refine Z.lnil ?_
                            refine Z.only [2, 3, 4, 10, 12, 13, 115] rfl ?_
                            refine Z.nthen ?_
                            refine Z.cond rfl (fun h => absurd h (by first | (simp; done) | (have h := hn0 (by omega); simp [← h]; done) | (exfalso; omega))) (fun hc27 => ?_)
                            refine Z.skip ?_
                            refine Z.nblock ?_
                            refine Z.nthen ?_
                            refine Z.seq ?_
                            refine Z.seq ?_
                            refine Z.region ?_
                            refine Z.l rfl rfl (by rfl) (Z.keepS hs) (by first | exact Z.Yd.load rfl Try.isAgg3 (fun _ => Z.cellB (by first | ((repeat (first | exact List.mem_cons_self | refine List.mem_cons_of_mem _ ?_ | refine List.mem_append_right _ ?_)); done) | fail) rfl) | exact Z.Yd.load rfl Try.isAgg3 (fun _ => Z.cellO (by assumption) (by simp) (by assumption)) | fail "load 29.0") ?_
                            refine Z.lnil ?_
                            refine Z.only [2, 3, 4, 10, 12, 116] rfl ?_
                            refine Z.nthen ?_
                            refine Z.region ?_
                            refine Z.le rfl trivial ?_
                            refine Z.ZO.alloc rfl rfl (by rfl) Try.zeroValue3 rfl hs ?_
                            clear hs; intro g13 w13 hs
                            refine Z.le rfl trivial ?_
                            first | refine Z.ZO.store rfl rfl hs Try.sizeOf3 rfl rfl rfl (by first | exact SX.at0 | exact SX.at1 | exact SX.at2 | exact SX.at3 | exact SX.at4 | exact SX.at5 | exact Z.at6 | exact Z.at7 | exact Z.at8 | exact Z.at9 | exact Z.at10 | exact Z.at11 | exact Z.at12) (by first | (simp; done) | (simp; omega)) ?_ | refine Z.ZO.storeR rfl rfl hs Try.sizeOf3 rfl rfl rfl (by first | exact SX.at0 | exact SX.at1 | exact SX.at2 | exact SX.at3 | exact SX.at4 | exact SX.at5 | exact Z.at6 | exact Z.at7 | exact Z.at8 | exact Z.at9 | exact Z.at10 | exact Z.at11 | exact Z.at12) (by first | omega | (simp [ints_length]; done) | (simp [ints_length]; omega)) ?_
                            clear hs; intro ws hs
                            simp only [Nat.zero_add, Nat.add_zero, Nat.reduceAdd, Int.reduceToNat, Nat.reduceMul, List.set_cons_zero, List.set_cons_succ, List.setIfInBounds_toArray] at hs
                            refine Z.lnil ?_
                            refine Z.only [2, 3, 4, 10, 12, 13] rfl ?_
                            refine Z.nthen ?_
                            refine Z.region ?_
                            refine Z.l rfl rfl (by rfl) (Z.keepS hs) (by first | exact Z.Yd.load rfl Try.isAgg3 (fun _ => Z.cellB (by first | ((repeat (first | exact List.mem_cons_self | refine List.mem_cons_of_mem _ ?_ | refine List.mem_append_right _ ?_)); done) | fail) rfl) | exact Z.Yd.load rfl Try.isAgg3 (fun _ => Z.cellO (by assumption) (by simp) (by assumption)) | fail "load 18.0") ?_
                            refine Z.l rfl rfl (by rfl) (Z.keepS hs) (Z.Yd.add rfl rfl (fun hG => Z.wi64 (by first | omega | (have hG' := Z.gh rfl hG; simp at hG'; omega)))) ?_
                            refine Z.le rfl trivial ?_
                            first | refine Z.ZO.store rfl rfl hs Try.sizeOf3 rfl rfl rfl (by first | exact SX.at0 | exact SX.at1 | exact SX.at2 | exact SX.at3 | exact SX.at4 | exact SX.at5 | exact Z.at6 | exact Z.at7 | exact Z.at8 | exact Z.at9 | exact Z.at10 | exact Z.at11 | exact Z.at12) (by first | (simp; done) | (simp; omega)) ?_ | refine Z.ZO.storeR rfl rfl hs Try.sizeOf3 rfl rfl rfl (by first | exact SX.at0 | exact SX.at1 | exact SX.at2 | exact SX.at3 | exact SX.at4 | exact SX.at5 | exact Z.at6 | exact Z.at7 | exact Z.at8 | exact Z.at9 | exact Z.at10 | exact Z.at11 | exact Z.at12) (by first | omega | (simp [ints_length]; done) | (simp [ints_length]; omega)) ?_
                            clear hs; intro ws hs
                            simp only [Nat.zero_add, Nat.add_zero, Nat.reduceAdd, Int.reduceToNat, Nat.reduceMul, List.set_cons_zero, List.set_cons_succ, List.setIfInBounds_toArray] at hs
                            refine Z.lnil ?_
                            refine Z.only [2, 3, 4, 10, 12, 13] rfl ?_
                            refine Z.nthen ?_
                            exact Z.againD (g13, turn + 1, Dd :: ds) rfl (by refine ⟨?_, ?_, ?_, ?_, ?_, ?_, trivial⟩ <;> (first | rfl | (refine Z.lookv rfl ?_; simp; done) | (refine Z.lookv rfl ?_; simp; omega))) ⟨by simp only; omega, hs.sub ((((List.Sublist.refl _).cons _).cons _).cons_cons _)⟩ (by simp only; omega)
                            )
                      · first
                          | (exfalso; simp at hsp109 <;> omega)
                          | (
                            refine Z.yes (s := 109) (b := false) rfl hsp109 rfl ?_
                            (try simp at hsp109)
                            refine Z.ls rfl rfl rfl (by rfl) ?_
                            refine Z.ls rfl rfl rfl (by rfl) ?_
                            refine Z.ls rfl rfl rfl (by rfl) ?_
                            refine Z.ls rfl rfl rfl (by rfl) ?_
                            refine Z.l rfl rfl (by rfl) (Z.keepS hs) (Z.Yd.pickF rfl rfl) ?_
                            refine Z.yes (s := 106) (b := false) rfl rfl rfl ?_
                            refine Z.l rfl rfl (by rfl) (Z.keepS hs) (Z.Yd.pickF rfl rfl) ?_
                            refine Z.lnil ?_
                            refine Z.only [2, 3, 4, 10, 12, 13, 115] rfl ?_
                            refine Z.nthen ?_
                            refine Z.cond rfl (fun h => absurd h (by first | (simp; done) | (have h := hn0 (by omega); simp [← h]; done) | (exfalso; omega))) (fun hc27 => ?_)
                            refine Z.skip ?_
                            refine Z.nblock ?_
                            refine Z.nthen ?_
                            refine Z.seq ?_
                            refine Z.seq ?_
                            refine Z.region ?_
                            refine Z.l rfl rfl (by rfl) (Z.keepS hs) (by first | exact Z.Yd.load rfl Try.isAgg3 (fun _ => Z.cellB (by first | ((repeat (first | exact List.mem_cons_self | refine List.mem_cons_of_mem _ ?_ | refine List.mem_append_right _ ?_)); done) | fail) rfl) | exact Z.Yd.load rfl Try.isAgg3 (fun _ => Z.cellO (by assumption) (by simp) (by assumption)) | fail "load 29.0") ?_
                            refine Z.lnil ?_
                            refine Z.only [2, 3, 4, 10, 12, 116] rfl ?_
                            refine Z.nthen ?_
                            refine Z.region ?_
                            refine Z.le rfl trivial ?_
                            refine Z.ZO.alloc rfl rfl (by rfl) Try.zeroValue3 rfl hs ?_
                            clear hs; intro g13 w13 hs
                            refine Z.le rfl trivial ?_
                            first | refine Z.ZO.store rfl rfl hs Try.sizeOf3 rfl rfl rfl (by first | exact SX.at0 | exact SX.at1 | exact SX.at2 | exact SX.at3 | exact SX.at4 | exact SX.at5 | exact Z.at6 | exact Z.at7 | exact Z.at8 | exact Z.at9 | exact Z.at10 | exact Z.at11 | exact Z.at12) (by first | (simp; done) | (simp; omega)) ?_ | refine Z.ZO.storeR rfl rfl hs Try.sizeOf3 rfl rfl rfl (by first | exact SX.at0 | exact SX.at1 | exact SX.at2 | exact SX.at3 | exact SX.at4 | exact SX.at5 | exact Z.at6 | exact Z.at7 | exact Z.at8 | exact Z.at9 | exact Z.at10 | exact Z.at11 | exact Z.at12) (by first | omega | (simp [ints_length]; done) | (simp [ints_length]; omega)) ?_
                            clear hs; intro ws hs
                            simp only [Nat.zero_add, Nat.add_zero, Nat.reduceAdd, Int.reduceToNat, Nat.reduceMul, List.set_cons_zero, List.set_cons_succ, List.setIfInBounds_toArray] at hs
                            refine Z.lnil ?_
                            refine Z.only [2, 3, 4, 10, 12, 13] rfl ?_
                            refine Z.nthen ?_
                            refine Z.region ?_
                            refine Z.l rfl rfl (by rfl) (Z.keepS hs) (by first | exact Z.Yd.load rfl Try.isAgg3 (fun _ => Z.cellB (by first | ((repeat (first | exact List.mem_cons_self | refine List.mem_cons_of_mem _ ?_ | refine List.mem_append_right _ ?_)); done) | fail) rfl) | exact Z.Yd.load rfl Try.isAgg3 (fun _ => Z.cellO (by assumption) (by simp) (by assumption)) | fail "load 18.0") ?_
                            refine Z.l rfl rfl (by rfl) (Z.keepS hs) (Z.Yd.add rfl rfl (fun hG => Z.wi64 (by first | omega | (have hG' := Z.gh rfl hG; simp at hG'; omega)))) ?_
                            refine Z.le rfl trivial ?_
                            first | refine Z.ZO.store rfl rfl hs Try.sizeOf3 rfl rfl rfl (by first | exact SX.at0 | exact SX.at1 | exact SX.at2 | exact SX.at3 | exact SX.at4 | exact SX.at5 | exact Z.at6 | exact Z.at7 | exact Z.at8 | exact Z.at9 | exact Z.at10 | exact Z.at11 | exact Z.at12) (by first | (simp; done) | (simp; omega)) ?_ | refine Z.ZO.storeR rfl rfl hs Try.sizeOf3 rfl rfl rfl (by first | exact SX.at0 | exact SX.at1 | exact SX.at2 | exact SX.at3 | exact SX.at4 | exact SX.at5 | exact Z.at6 | exact Z.at7 | exact Z.at8 | exact Z.at9 | exact Z.at10 | exact Z.at11 | exact Z.at12) (by first | omega | (simp [ints_length]; done) | (simp [ints_length]; omega)) ?_
                            clear hs; intro ws hs
                            simp only [Nat.zero_add, Nat.add_zero, Nat.reduceAdd, Int.reduceToNat, Nat.reduceMul, List.set_cons_zero, List.set_cons_succ, List.setIfInBounds_toArray] at hs
                            refine Z.lnil ?_
                            refine Z.only [2, 3, 4, 10, 12, 13] rfl ?_
                            refine Z.nthen ?_
                            exact Z.againD (g13, turn + 1, Dd :: ds) rfl (by refine ⟨?_, ?_, ?_, ?_, ?_, ?_, trivial⟩ <;> (first | rfl | (refine Z.lookv rfl ?_; simp; done) | (refine Z.lookv rfl ?_; simp; omega))) ⟨by simp only; omega, hs.sub ((((List.Sublist.refl _).cons _).cons _).cons_cons _)⟩ (by simp only; omega)
                            )
                      )
              · clear hs
                rintro Dd c W4 L4 hi hs
                obtain ⟨⟨ht, rfl⟩, N, hn0, rfl⟩ := hi
                have hn0 : turn = 0 → (N : Int) = min (K : Int) (max 1 many) := fun _ => hn0
                have hn1 : turn = 1 → N = K := fun h => by omega
                replace hs := Z.fromRange (C := [_, _, _, _, _, _, _]) (E0 := [_]) hs
                refine Z.exit ?_
                refine Z.xblock ?_
                refine Z.nthen ?_
                refine Z.seq ?_
                refine Z.region ?_
                refine Z.l rfl rfl (by rfl) (Z.keepS hs) (by first | exact Z.Yd.load rfl Try.isAgg3 (fun _ => Z.cellB (by first | ((repeat (first | exact List.mem_cons_self | refine List.mem_cons_of_mem _ ?_ | refine List.mem_append_right _ ?_)); done) | fail) rfl) | exact Z.Yd.load rfl Try.isAgg3 (fun _ => Z.cellO (by assumption) (by simp) (by assumption)) | fail "load 27.0") ?_
                refine Z.lb 2 rfl ?_
                refine Z.split (s := 97) rfl (fun hsp97 => ?_) (fun hsp97 => ?_)
                · first
                    | (exfalso; simp at hsp97 <;> omega)
                    | (
                      refine Z.yes (s := 97) (b := true) rfl hsp97 rfl ?_
                      (try simp at hsp97)
                      refine Z.l rfl rfl (by rfl) (Z.keepS hs) (by first | exact Z.Yd.load rfl Try.isAgg3 (fun _ => Z.cellB (by first | ((repeat (first | exact List.mem_cons_self | refine List.mem_cons_of_mem _ ?_ | refine List.mem_append_right _ ?_)); done) | fail) rfl) | exact Z.Yd.load rfl Try.isAgg3 (fun _ => Z.cellO (by assumption) (by simp) (by assumption)) | fail "load 27.3") ?_
                      refine Z.l rfl rfl (by rfl) (Z.keepS hs) (by first | exact Z.Yd.load rfl Try.isAgg35 (fun _ => Z.cellB (by first | ((repeat (first | exact List.mem_cons_self | refine List.mem_cons_of_mem _ ?_ | refine List.mem_append_right _ ?_)); done) | fail) rfl) | exact Z.Yd.load rfl Try.isAgg35 (fun _ => Z.cellO (by assumption) (by simp) (by assumption)) | fail "load 27.4") ?_
                      refine Z.l rfl rfl (by rfl) (Z.keepS hs) (Z.Yd.lenS rfl Try.underlying35) ?_
                      refine Z.l rfl rfl (by rfl) (Z.keepS hs) (by first | exact Z.Yd.load rfl Try.isAgg3 (fun _ => Z.cellB (by first | ((repeat (first | exact List.mem_cons_self | refine List.mem_cons_of_mem _ ?_ | refine List.mem_append_right _ ?_)); done) | fail) rfl) | exact Z.Yd.load rfl Try.isAgg3 (fun _ => Z.cellO (by assumption) (by simp) (by assumption)) | fail "load 27.6") ?_
                      refine Z.l rfl rfl (by rfl) (Z.keepS hs) (Z.Yd.max rfl rfl) ?_
                      refine Z.l rfl rfl (by rfl) (Z.keepS hs) (Z.Yd.min rfl rfl) ?_
                      refine Z.lb 1 rfl ?_
                      refine Z.yes (s := 97) (b := true) rfl rfl rfl ?_
                      refine Z.l rfl rfl (by rfl) (Z.keepS hs) (Z.Yd.pickT rfl rfl) ?_
                      refine Z.lb 1 rfl ?_
                      refine Z.yes (s := 106) (b := false) rfl ((by first | (simp; done) | (have h := hn0 (by omega); simp [← h]; done) | (exfalso; omega))) rfl ?_
                      refine Z.l rfl rfl (by rfl) (Z.keepS hs) (by first | exact Z.Yd.load rfl Try.isAgg3 (fun _ => Z.cellB (by first | ((repeat (first | exact List.mem_cons_self | refine List.mem_cons_of_mem _ ?_ | refine List.mem_append_right _ ?_)); done) | fail) rfl) | exact Z.Yd.load rfl Try.isAgg3 (fun _ => Z.cellO (by assumption) (by simp) (by assumption)) | fail "load 27.12") ?_
                      refine Z.lb 2 rfl ?_
                      refine Z.yes (s := 106) (b := false) rfl rfl rfl ?_
                      refine Z.split (s := 109) rfl (fun hsp109 => ?_) (fun hsp109 => ?_)
                      · first
                          | (exfalso; simp at hsp109 <;> omega)
                          | (
                            refine Z.yes (s := 109) (b := true) rfl hsp109 rfl ?_
                            (try simp at hsp109)
                            refine Z.l rfl rfl (by rfl) (Z.keepS hs) (by first | exact Z.Yd.load rfl Try.isAgg3 (fun _ => Z.cellB (by first | ((repeat (first | exact List.mem_cons_self | refine List.mem_cons_of_mem _ ?_ | refine List.mem_append_right _ ?_)); done) | fail) rfl) | exact Z.Yd.load rfl Try.isAgg3 (fun _ => Z.cellO (by assumption) (by simp) (by assumption)) | fail "load 27.15") ?_
                            refine Z.l rfl rfl (by rfl) (Z.keepS hs) (by first | exact Z.Yd.load rfl Try.isAgg35 (fun _ => Z.cellB (by first | ((repeat (first | exact List.mem_cons_self | refine List.mem_cons_of_mem _ ?_ | refine List.mem_append_right _ ?_)); done) | fail) rfl) | exact Z.Yd.load rfl Try.isAgg35 (fun _ => Z.cellO (by assumption) (by simp) (by assumption)) | fail "load 27.16") ?_
                            refine Z.l rfl rfl (by rfl) (Z.keepS hs) (Z.Yd.lenS rfl Try.underlying35) ?_
                            refine Z.lb 1 rfl ?_
                            refine Z.yes (s := 109) (b := true) rfl rfl rfl ?_
                            refine Z.l rfl rfl (by rfl) (Z.keepS hs) (Z.Yd.pickT rfl rfl) ?_
                            refine Z.yes (s := 106) (b := false) rfl rfl rfl ?_
                            refine Z.l rfl rfl (by rfl) (Z.keepS hs) (Z.Yd.pickF rfl rfl) ?_
                            refine Z.lnil ?_
                            refine Z.only [2, 3, 4, 10, 12, 13, 115] rfl ?_
                            refine Z.nthen ?_
                            refine Z.cond rfl (fun h => absurd h (by first | (simp; done) | (have h := hn0 (by omega); simp [← h]; done) | (exfalso; omega))) (fun hc27 => ?_)
                            refine Z.skip ?_
                            refine Z.nblock ?_
                            refine Z.nthen ?_
                            refine Z.seq ?_
                            refine Z.seq ?_
                            refine Z.region ?_
                            refine Z.l rfl rfl (by rfl) (Z.keepS hs) (by first | exact Z.Yd.load rfl Try.isAgg3 (fun _ => Z.cellB (by first | ((repeat (first | exact List.mem_cons_self | refine List.mem_cons_of_mem _ ?_ | refine List.mem_append_right _ ?_)); done) | fail) rfl) | exact Z.Yd.load rfl Try.isAgg3 (fun _ => Z.cellO (by assumption) (by simp) (by assumption)) | fail "load 29.0") ?_
                            refine Z.lnil ?_
                            refine Z.only [2, 3, 4, 10, 12, 116] rfl ?_
                            refine Z.nthen ?_
                            refine Z.region ?_
                            refine Z.le rfl trivial ?_
                            refine Z.ZO.alloc rfl rfl (by rfl) Try.zeroValue3 rfl hs ?_
                            clear hs; intro g13 w13 hs
                            refine Z.le rfl trivial ?_
                            first | refine Z.ZO.store rfl rfl hs Try.sizeOf3 rfl rfl rfl (by first | exact SX.at0 | exact SX.at1 | exact SX.at2 | exact SX.at3 | exact SX.at4 | exact SX.at5 | exact Z.at6 | exact Z.at7 | exact Z.at8 | exact Z.at9 | exact Z.at10 | exact Z.at11 | exact Z.at12) (by first | (simp; done) | (simp; omega)) ?_ | refine Z.ZO.storeR rfl rfl hs Try.sizeOf3 rfl rfl rfl (by first | exact SX.at0 | exact SX.at1 | exact SX.at2 | exact SX.at3 | exact SX.at4 | exact SX.at5 | exact Z.at6 | exact Z.at7 | exact Z.at8 | exact Z.at9 | exact Z.at10 | exact Z.at11 | exact Z.at12) (by first | omega | (simp [ints_length]; done) | (simp [ints_length]; omega)) ?_
                            clear hs; intro ws hs
                            simp only [Nat.zero_add, Nat.add_zero, Nat.reduceAdd, Int.reduceToNat, Nat.reduceMul, List.set_cons_zero, List.set_cons_succ, List.setIfInBounds_toArray] at hs
                            refine Z.lnil ?_
                            refine Z.only [2, 3, 4, 10, 12, 13] rfl ?_
                            refine Z.nthen ?_
                            refine Z.region ?_
                            refine Z.l rfl rfl (by rfl) (Z.keepS hs) (by first | exact Z.Yd.load rfl Try.isAgg3 (fun _ => Z.cellB (by first | ((repeat (first | exact List.mem_cons_self | refine List.mem_cons_of_mem _ ?_ | refine List.mem_append_right _ ?_)); done) | fail) rfl) | exact Z.Yd.load rfl Try.isAgg3 (fun _ => Z.cellO (by assumption) (by simp) (by assumption)) | fail "load 18.0") ?_
                            refine Z.l rfl rfl (by rfl) (Z.keepS hs) (Z.Yd.add rfl rfl (fun hG => Z.wi64 (by first | omega | (have hG' := Z.gh rfl hG; simp at hG'; omega)))) ?_
                            refine Z.le rfl trivial ?_
                            first | refine Z.ZO.store rfl rfl hs Try.sizeOf3 rfl rfl rfl (by first | exact SX.at0 | exact SX.at1 | exact SX.at2 | exact SX.at3 | exact SX.at4 | exact SX.at5 | exact Z.at6 | exact Z.at7 | exact Z.at8 | exact Z.at9 | exact Z.at10 | exact Z.at11 | exact Z.at12) (by first | (simp; done) | (simp; omega)) ?_ | refine Z.ZO.storeR rfl rfl hs Try.sizeOf3 rfl rfl rfl (by first | exact SX.at0 | exact SX.at1 | exact SX.at2 | exact SX.at3 | exact SX.at4 | exact SX.at5 | exact Z.at6 | exact Z.at7 | exact Z.at8 | exact Z.at9 | exact Z.at10 | exact Z.at11 | exact Z.at12) (by first | omega | (simp [ints_length]; done) | (simp [ints_length]; omega)) ?_
                            clear hs; intro ws hs
                            simp only [Nat.zero_add, Nat.add_zero, Nat.reduceAdd, Int.reduceToNat, Nat.reduceMul, List.set_cons_zero, List.set_cons_succ, List.setIfInBounds_toArray] at hs
                            refine Z.lnil ?_
                            refine Z.only [2, 3, 4, 10, 12, 13] rfl ?_
                            refine Z.nthen ?_
                            exact Z.againD (g13, turn + 1, Dd :: ds) rfl (by refine ⟨?_, ?_, ?_, ?_, ?_, ?_, trivial⟩ <;> (first | rfl | (refine Z.lookv rfl ?_; simp; done) | (refine Z.lookv rfl ?_; simp; omega))) ⟨by simp only; omega, hs.sub ((((List.Sublist.refl _).cons _).cons _).cons_cons _)⟩ (by simp only; omega)
                            )
                      · first
                          | (exfalso; simp at hsp109 <;> omega)
                          | (
                            refine Z.yes (s := 109) (b := false) rfl hsp109 rfl ?_
                            (try simp at hsp109)
                            refine Z.ls rfl rfl rfl (by rfl) ?_
                            refine Z.ls rfl rfl rfl (by rfl) ?_
                            refine Z.ls rfl rfl rfl (by rfl) ?_
                            refine Z.ls rfl rfl rfl (by rfl) ?_
                            refine Z.l rfl rfl (by rfl) (Z.keepS hs) (Z.Yd.pickF rfl rfl) ?_
                            refine Z.yes (s := 106) (b := false) rfl rfl rfl ?_
                            refine Z.l rfl rfl (by rfl) (Z.keepS hs) (Z.Yd.pickF rfl rfl) ?_
                            refine Z.lnil ?_
                            refine Z.only [2, 3, 4, 10, 12, 13, 115] rfl ?_
                            refine Z.nthen ?_
                            refine Z.cond rfl (fun h => absurd h (by first | (simp; done) | (have h := hn0 (by omega); simp [← h]; done) | (exfalso; omega))) (fun hc27 => ?_)
                            refine Z.skip ?_
                            refine Z.nblock ?_
                            refine Z.nthen ?_
                            refine Z.seq ?_
                            refine Z.seq ?_
                            refine Z.region ?_
                            refine Z.l rfl rfl (by rfl) (Z.keepS hs) (by first | exact Z.Yd.load rfl Try.isAgg3 (fun _ => Z.cellB (by first | ((repeat (first | exact List.mem_cons_self | refine List.mem_cons_of_mem _ ?_ | refine List.mem_append_right _ ?_)); done) | fail) rfl) | exact Z.Yd.load rfl Try.isAgg3 (fun _ => Z.cellO (by assumption) (by simp) (by assumption)) | fail "load 29.0") ?_
                            refine Z.lnil ?_
                            refine Z.only [2, 3, 4, 10, 12, 116] rfl ?_
                            refine Z.nthen ?_
                            refine Z.region ?_
                            refine Z.le rfl trivial ?_
                            refine Z.ZO.alloc rfl rfl (by rfl) Try.zeroValue3 rfl hs ?_
                            clear hs; intro g13 w13 hs
                            refine Z.le rfl trivial ?_
                            first | refine Z.ZO.store rfl rfl hs Try.sizeOf3 rfl rfl rfl (by first | exact SX.at0 | exact SX.at1 | exact SX.at2 | exact SX.at3 | exact SX.at4 | exact SX.at5 | exact Z.at6 | exact Z.at7 | exact Z.at8 | exact Z.at9 | exact Z.at10 | exact Z.at11 | exact Z.at12) (by first | (simp; done) | (simp; omega)) ?_ | refine Z.ZO.storeR rfl rfl hs Try.sizeOf3 rfl rfl rfl (by first | exact SX.at0 | exact SX.at1 | exact SX.at2 | exact SX.at3 | exact SX.at4 | exact SX.at5 | exact Z.at6 | exact Z.at7 | exact Z.at8 | exact Z.at9 | exact Z.at10 | exact Z.at11 | exact Z.at12) (by first | omega | (simp [ints_length]; done) | (simp [ints_length]; omega)) ?_
                            clear hs; intro ws hs
                            simp only [Nat.zero_add, Nat.add_zero, Nat.reduceAdd, Int.reduceToNat, Nat.reduceMul, List.set_cons_zero, List.set_cons_succ, List.setIfInBounds_toArray] at hs
                            refine Z.lnil ?_
                            refine Z.only [2, 3, 4, 10, 12, 13] rfl ?_
                            refine Z.nthen ?_
                            refine Z.region ?_
                            refine Z.l rfl rfl (by rfl) (Z.keepS hs) (by first | exact Z.Yd.load rfl Try.isAgg3 (fun _ => Z.cellB (by first | ((repeat (first | exact List.mem_cons_self | refine List.mem_cons_of_mem _ ?_ | refine List.mem_append_right _ ?_)); done) | fail) rfl) | exact Z.Yd.load rfl Try.isAgg3 (fun _ => Z.cellO (by assumption) (by simp) (by assumption)) | fail "load 18.0") ?_
                            refine Z.l rfl rfl (by rfl) (Z.keepS hs) (Z.Yd.add rfl rfl (fun hG => Z.wi64 (by first | omega | (have hG' := Z.gh rfl hG; simp at hG'; omega)))) ?_
                            refine Z.le rfl trivial ?_
                            first | refine Z.ZO.store rfl rfl hs Try.sizeOf3 rfl rfl rfl (by first | exact SX.at0 | exact SX.at1 | exact SX.at2 | exact SX.at3 | exact SX.at4 | exact SX.at5 | exact Z.at6 | exact Z.at7 | exact Z.at8 | exact Z.at9 | exact Z.at10 | exact Z.at11 | exact Z.at12) (by first | (simp; done) | (simp; omega)) ?_ | refine Z.ZO.storeR rfl rfl hs Try.sizeOf3 rfl rfl rfl (by first | exact SX.at0 | exact SX.at1 | exact SX.at2 | exact SX.at3 | exact SX.at4 | exact SX.at5 | exact Z.at6 | exact Z.at7 | exact Z.at8 | exact Z.at9 | exact Z.at10 | exact Z.at11 | exact Z.at12) (by first | omega | (simp [ints_length]; done) | (simp [ints_length]; omega)) ?_
                            clear hs; intro ws hs
                            simp only [Nat.zero_add, Nat.add_zero, Nat.reduceAdd, Int.reduceToNat, Nat.reduceMul, List.set_cons_zero, List.set_cons_succ, List.setIfInBounds_toArray] at hs
                            refine Z.lnil ?_
                            refine Z.only [2, 3, 4, 10, 12, 13] rfl ?_
                            refine Z.nthen ?_
                            exact Z.againD (g13, turn + 1, Dd :: ds) rfl (by refine ⟨?_, ?_, ?_, ?_, ?_, ?_, trivial⟩ <;> (first | rfl | (refine Z.lookv rfl ?_; simp; done) | (refine Z.lookv rfl ?_; simp; omega))) ⟨by simp only; omega, hs.sub ((((List.Sublist.refl _).cons _).cons _).cons_cons _)⟩ (by simp only; omega)
                            )
                      )
                · first
                    | (exfalso; simp at hsp97 <;> omega)
                    | (
                      refine Z.yes (s := 97) (b := false) rfl hsp97 rfl ?_
                      (try simp at hsp97)
                      refine Z.ls rfl rfl rfl (by rfl) ?_
                      refine Z.ls rfl rfl rfl (by rfl) ?_
                      refine Z.ls rfl rfl rfl (by rfl) ?_
                      refine Z.ls rfl rfl rfl (by rfl) ?_
                      refine Z.ls rfl rfl rfl (by rfl) ?_
                      refine Z.ls rfl rfl rfl (by rfl) ?_
                      refine Z.ls rfl rfl rfl (by rfl) ?_
                      refine Z.l rfl rfl (by rfl) (Z.keepS hs) (Z.Yd.pickF rfl rfl) ?_
                      refine Z.lb 1 rfl ?_
                      refine Z.yes (s := 106) (b := false) rfl ((by first | (simp; done) | (have h := hn0 (by omega); simp [← h]; done) | (exfalso; omega))) rfl ?_
                      refine Z.l rfl rfl (by rfl) (Z.keepS hs) (by first | exact Z.Yd.load rfl Try.isAgg3 (fun _ => Z.cellB (by first | ((repeat (first | exact List.mem_cons_self | refine List.mem_cons_of_mem _ ?_ | refine List.mem_append_right _ ?_)); done) | fail) rfl) | exact Z.Yd.load rfl Try.isAgg3 (fun _ => Z.cellO (by assumption) (by simp) (by assumption)) | fail "load 27.12") ?_
                      refine Z.lb 2 rfl ?_
                      refine Z.yes (s := 106) (b := false) rfl rfl rfl ?_
                      refine Z.split (s := 109) rfl (fun hsp109 => ?_) (fun hsp109 => ?_)
                      · first
                          | (exfalso; simp at hsp109 <;> omega)
                          | (
                            refine Z.yes (s := 109) (b := true) rfl hsp109 rfl ?_
                            (try simp at hsp109)
                            refine Z.l rfl rfl (by rfl) (Z.keepS hs) (by first | exact Z.Yd.load rfl Try.isAgg3 (fun _ => Z.cellB (by first | ((repeat (first | exact List.mem_cons_self | refine List.mem_cons_of_mem _ ?_ | refine List.mem_append_right _ ?_)); done) | fail) rfl) | exact Z.Yd.load rfl Try.isAgg3 (fun _ => Z.cellO (by assumption) (by simp) (by assumption)) | fail "load 27.15") ?_
                            refine Z.l rfl rfl (by rfl) (Z.keepS hs) (by first | exact Z.Yd.load rfl Try.isAgg35 (fun _ => Z.cellB (by first | ((repeat (first | exact List.mem_cons_self | refine List.mem_cons_of_mem _ ?_ | refine List.mem_append_right _ ?_)); done) | fail) rfl) | exact Z.Yd.load rfl Try.isAgg35 (fun _ => Z.cellO (by assumption) (by simp) (by assumption)) | fail "load 27.16") ?_
                            refine Z.l rfl rfl (by rfl) (Z.keepS hs) (Z.Yd.lenS rfl Try.underlying35) ?_
                            refine Z.lb 1 rfl ?_
                            refine Z.yes (s := 109) (b := true) rfl rfl rfl ?_
                            refine Z.l rfl rfl (by rfl) (Z.keepS hs) (Z.Yd.pickT rfl rfl) ?_
                            refine Z.yes (s := 106) (b := false) rfl rfl rfl ?_
                            refine Z.l rfl rfl (by rfl) (Z.keepS hs) (Z.Yd.pickF rfl rfl) ?_
                            refine Z.lnil ?_
                            refine Z.only [2, 3, 4, 10, 12, 13, 115] rfl ?_
                            refine Z.nthen ?_
                            refine Z.cond rfl (fun h => absurd h (by first | (simp; done) | (have h := hn0 (by omega); simp [← h]; done) | (exfalso; omega))) (fun hc27 => ?_)
                            refine Z.skip ?_
                            refine Z.nblock ?_
                            refine Z.nthen ?_
                            refine Z.seq ?_
                            refine Z.seq ?_
                            refine Z.region ?_
                            refine Z.l rfl rfl (by rfl) (Z.keepS hs) (by first | exact Z.Yd.load rfl Try.isAgg3 (fun _ => Z.cellB (by first | ((repeat (first | exact List.mem_cons_self | refine List.mem_cons_of_mem _ ?_ | refine List.mem_append_right _ ?_)); done) | fail) rfl) | exact Z.Yd.load rfl Try.isAgg3 (fun _ => Z.cellO (by assumption) (by simp) (by assumption)) | fail "load 29.0") ?_
                            refine Z.lnil ?_
                            refine Z.only [2, 3, 4, 10, 12, 116] rfl ?_
                            refine Z.nthen ?_
                            refine Z.region ?_
                            refine Z.le rfl trivial ?_
                            refine Z.ZO.alloc rfl rfl (by rfl) Try.zeroValue3 rfl hs ?_
                            clear hs; intro g13 w13 hs
                            refine Z.le rfl trivial ?_
                            first | refine Z.ZO.store rfl rfl hs Try.sizeOf3 rfl rfl rfl (by first | exact SX.at0 | exact SX.at1 | exact SX.at2 | exact SX.at3 | exact SX.at4 | exact SX.at5 | exact Z.at6 | exact Z.at7 | exact Z.at8 | exact Z.at9 | exact Z.at10 | exact Z.at11 | exact Z.at12) (by first | (simp; done) | (simp; omega)) ?_ | refine Z.ZO.storeR rfl rfl hs Try.sizeOf3 rfl rfl rfl (by first | exact SX.at0 | exact SX.at1 | exact SX.at2 | exact SX.at3 | exact SX.at4 | exact SX.at5 | exact Z.at6 | exact Z.at7 | exact Z.at8 | exact Z.at9 | exact Z.at10 | exact Z.at11 | exact Z.at12) (by first | omega | (simp [ints_length]; done) | (simp [ints_length]; omega)) ?_
                            clear hs; intro ws hs
                            simp only [Nat.zero_add, Nat.add_zero, Nat.reduceAdd, Int.reduceToNat, Nat.reduceMul, List.set_cons_zero, List.set_cons_succ, List.setIfInBounds_toArray] at hs
                            refine Z.lnil ?_
                            refine Z.only [2, 3, 4, 10, 12, 13] rfl ?_
                            refine Z.nthen ?_
                            refine Z.region ?_
                            refine Z.l rfl rfl (by rfl) (Z.keepS hs) (by first | exact Z.Yd.load rfl Try.isAgg3 (fun _ => Z.cellB (by first | ((repeat (first | exact List.mem_cons_self | refine List.mem_cons_of_mem _ ?_ | refine List.mem_append_right _ ?_)); done) | fail) rfl) | exact Z.Yd.load rfl Try.isAgg3 (fun _ => Z.cellO (by assumption) (by simp) (by assumption)) | fail "load 18.0") ?_
                            refine Z.l rfl rfl (by rfl) (Z.keepS hs) (Z.Yd.add rfl rfl (fun hG => Z.wi64 (by first | omega | (have hG' := Z.gh rfl hG; simp at hG'; omega)))) ?_
                            refine Z.le rfl trivial ?_
                            first | refine Z.ZO.store rfl rfl hs Try.sizeOf3 rfl rfl rfl (by first | exact SX.at0 | exact SX.at1 | exact SX.at2 | exact SX.at3 | exact SX.at4 | exact SX.at5 | exact Z.at6 | exact Z.at7 | exact Z.at8 | exact Z.at9 | exact Z.at10 | exact Z.at11 | exact Z.at12) (by first | (simp; done) | (simp; omega)) ?_ | refine Z.ZO.storeR rfl rfl hs Try.sizeOf3 rfl rfl rfl (by first | exact SX.at0 | exact SX.at1 | exact SX.at2 | exact SX.at3 | exact SX.at4 | exact SX.at5 | exact Z.at6 | exact Z.at7 | exact Z.at8 | exact Z.at9 | exact Z.at10 | exact Z.at11 | exact Z.at12) (by first | omega | (simp [ints_length]; done) | (simp [ints_length]; omega)) ?_
                            clear hs; intro ws hs
                            simp only [Nat.zero_add, Nat.add_zero, Nat.reduceAdd, Int.reduceToNat, Nat.reduceMul, List.set_cons_zero, List.set_cons_succ, List.setIfInBounds_toArray] at hs
                            refine Z.lnil ?_
                            refine Z.only [2, 3, 4, 10, 12, 13] rfl ?_
                            refine Z.nthen ?_
                            exact Z.againD (g13, turn + 1, Dd :: ds) rfl (by refine ⟨?_, ?_, ?_, ?_, ?_, ?_, trivial⟩ <;> (first | rfl | (refine Z.lookv rfl ?_; simp; done) | (refine Z.lookv rfl ?_; simp; omega))) ⟨by simp only; omega, hs.sub ((((List.Sublist.refl _).cons _).cons _).cons_cons _)⟩ (by simp only; omega)
                            )
                      · first
                          | (exfalso; simp at hsp109 <;> omega)
                          | (
                            refine Z.yes (s := 109) (b := false) rfl hsp109 rfl ?_
                            (try simp at hsp109)
                            refine Z.ls rfl rfl rfl (by rfl) ?_
                            refine Z.ls rfl rfl rfl (by rfl) ?_
                            refine Z.ls rfl rfl rfl (by rfl) ?_
                            refine Z.ls rfl rfl rfl (by rfl) ?_
                            refine Z.l rfl rfl (by rfl) (Z.keepS hs) (Z.Yd.pickF rfl rfl) ?_
                            refine Z.yes (s := 106) (b := false) rfl rfl rfl ?_
                            refine Z.l rfl rfl (by rfl) (Z.keepS hs) (Z.Yd.pickF rfl rfl) ?_
                            refine Z.lnil ?_
                            refine Z.only [2, 3, 4, 10, 12, 13, 115] rfl ?_
                            refine Z.nthen ?_
                            refine Z.cond rfl (fun h => absurd h (by first | (simp; done) | (have h := hn0 (by omega); simp [← h]; done) | (exfalso; omega))) (fun hc27 => ?_)
                            refine Z.skip ?_
                            refine Z.nblock ?_
                            refine Z.nthen ?_
                            refine Z.seq ?_
                            refine Z.seq ?_
                            refine Z.region ?_
                            refine Z.l rfl rfl (by rfl) (Z.keepS hs) (by first | exact Z.Yd.load rfl Try.isAgg3 (fun _ => Z.cellB (by first | ((repeat (first | exact List.mem_cons_self | refine List.mem_cons_of_mem _ ?_ | refine List.mem_append_right _ ?_)); done) | fail) rfl) | exact Z.Yd.load rfl Try.isAgg3 (fun _ => Z.cellO (by assumption) (by simp) (by assumption)) | fail "load 29.0") ?_
                            refine Z.lnil ?_
                            refine Z.only [2, 3, 4, 10, 12, 116] rfl ?_
                            refine Z.nthen ?_
                            refine Z.region ?_
                            refine Z.le rfl trivial ?_
                            refine Z.ZO.alloc rfl rfl (by rfl) Try.zeroValue3 rfl hs ?_
                            clear hs; intro g13 w13 hs
                            refine Z.le rfl trivial ?_
                            first | refine Z.ZO.store rfl rfl hs Try.sizeOf3 rfl rfl rfl (by first | exact SX.at0 | exact SX.at1 | exact SX.at2 | exact SX.at3 | exact SX.at4 | exact SX.at5 | exact Z.at6 | exact Z.at7 | exact Z.at8 | exact Z.at9 | exact Z.at10 | exact Z.at11 | exact Z.at12) (by first | (simp; done) | (simp; omega)) ?_ | refine Z.ZO.storeR rfl rfl hs Try.sizeOf3 rfl rfl rfl (by first | exact SX.at0 | exact SX.at1 | exact SX.at2 | exact SX.at3 | exact SX.at4 | exact SX.at5 | exact Z.at6 | exact Z.at7 | exact Z.at8 | exact Z.at9 | exact Z.at10 | exact Z.at11 | exact Z.at12) (by first | omega | (simp [ints_length]; done) | (simp [ints_length]; omega)) ?_
                            clear hs; intro ws hs
                            simp only [Nat.zero_add, Nat.add_zero, Nat.reduceAdd, Int.reduceToNat, Nat.reduceMul, List.set_cons_zero, List.set_cons_succ, List.setIfInBounds_toArray] at hs
                            refine Z.lnil ?_
                            refine Z.only [2, 3, 4, 10, 12, 13] rfl ?_
                            refine Z.nthen ?_
                            refine Z.region ?_
                            refine Z.l rfl rfl (by rfl) (Z.keepS hs) (by first | exact Z.Yd.load rfl Try.isAgg3 (fun _ => Z.cellB (by first | ((repeat (first | exact List.mem_cons_self | refine List.mem_cons_of_mem _ ?_ | refine List.mem_append_right _ ?_)); done) | fail) rfl) | exact Z.Yd.load rfl Try.isAgg3 (fun _ => Z.cellO (by assumption) (by simp) (by assumption)) | fail "load 18.0") ?_
                            refine Z.l rfl rfl (by rfl) (Z.keepS hs) (Z.Yd.add rfl rfl (fun hG => Z.wi64 (by first | omega | (have hG' := Z.gh rfl hG; simp at hG'; omega)))) ?_
                            refine Z.le rfl trivial ?_
                            first | refine Z.ZO.store rfl rfl hs Try.sizeOf3 rfl rfl rfl (by first | exact SX.at0 | exact SX.at1 | exact SX.at2 | exact SX.at3 | exact SX.at4 | exact SX.at5 | exact Z.at6 | exact Z.at7 | exact Z.at8 | exact Z.at9 | exact Z.at10 | exact Z.at11 | exact Z.at12) (by first | (simp; done) | (simp; omega)) ?_ | refine Z.ZO.storeR rfl rfl hs Try.sizeOf3 rfl rfl rfl (by first | exact SX.at0 | exact SX.at1 | exact SX.at2 | exact SX.at3 | exact SX.at4 | exact SX.at5 | exact Z.at6 | exact Z.at7 | exact Z.at8 | exact Z.at9 | exact Z.at10 | exact Z.at11 | exact Z.at12) (by first | omega | (simp [ints_length]; done) | (simp [ints_length]; omega)) ?_
                            clear hs; intro ws hs
                            simp only [Nat.zero_add, Nat.add_zero, Nat.reduceAdd, Int.reduceToNat, Nat.reduceMul, List.set_cons_zero, List.set_cons_succ, List.setIfInBounds_toArray] at hs
                            refine Z.lnil ?_
                            refine Z.only [2, 3, 4, 10, 12, 13] rfl ?_
                            refine Z.nthen ?_
                            exact Z.againD (g13, turn + 1, Dd :: ds) rfl (by refine ⟨?_, ?_, ?_, ?_, ?_, ?_, trivial⟩ <;> (first | rfl | (refine Z.lookv rfl ?_; simp; done) | (refine Z.lookv rfl ?_; simp; omega))) ⟨by simp only; omega, hs.sub ((((List.Sublist.refl _).cons _).cons _).cons_cons _)⟩ (by simp only; omega)
                            )
                      )
              )
        · first
            | (exfalso; simp at hc17 <;> omega)
            | (
              (try simp at hc17)
              refine Z.exit ?_
              refine Z.xthen ?_
              refine Z.xthen ?_
              refine Z.xblock ?_
              refine Z.nthen ?_
              refine Z.seq ?_
              refine Z.region ?_
              refine Z.le rfl trivial ?_
              refine Z.ZO.call rfl rfl (by rfl) rfl rfl Try.call13 rfl (works26 _) ?_
              rintro v31_0 w31_0 ⟨rfl, hy⟩
              replace hs := hs.call hy
              clear hy
              try simp only [List.cons_append, List.nil_append, List.append_nil] at hs
              refine Z.le rfl trivial ?_
              first | refine Z.ZO.store rfl rfl hs Try.sizeOf4 rfl rfl rfl (by first | exact SX.at0 | exact SX.at1 | exact SX.at2 | exact SX.at3 | exact SX.at4 | exact SX.at5 | exact Z.at6 | exact Z.at7 | exact Z.at8 | exact Z.at9 | exact Z.at10 | exact Z.at11 | exact Z.at12) (by first | (simp; done) | (simp; omega)) ?_ | refine Z.ZO.storeR rfl rfl hs Try.sizeOf4 rfl rfl rfl (by first | exact SX.at0 | exact SX.at1 | exact SX.at2 | exact SX.at3 | exact SX.at4 | exact SX.at5 | exact Z.at6 | exact Z.at7 | exact Z.at8 | exact Z.at9 | exact Z.at10 | exact Z.at11 | exact Z.at12) (by first | omega | (simp [ints_length]; done) | (simp [ints_length]; omega)) ?_
              clear hs; intro ws hs
              simp only [Nat.zero_add, Nat.add_zero, Nat.reduceAdd, Int.reduceToNat, Nat.reduceMul, List.set_cons_zero, List.set_cons_succ, List.setIfInBounds_toArray] at hs
              refine Z.lnil ?_
              refine Z.only [4] rfl ?_
              refine Z.nthen ?_
              refine Z.ret ?_
              -- ret#0
              refine Z.outMs (vs := [_]) (ds) [_, _, _, _, _, _, _] (Z.marksFront (L := [_, _, _, _, _, _, _]) (ds := ds) hs) (fun wr hs => (by exact ⟨⟨_, rfl, Z.rvc hs Try.isAgg4 (by first | ((repeat (first | exact List.mem_cons_self | refine List.mem_cons_of_mem _ ?_ | refine List.mem_append_right _ ?_)); done) | fail) rfl⟩, trivial⟩)) ?_
              clear hs
              intro wr hs
              exact ⟨_, rfl, rfl, hs.sub (List.nil_sublist _)⟩
              )
        )
theorem reportGroups_rd (cs0 : Array Value) (a1 : Int) (w : World) (z0 : Rw Try.prog w 22 (Value.agg cs0).cells.toList) (z1 : Rw Try.prog w 3 (Value.int .i64 a1).cells.toList) :
    Calls Try.prog 3 #[.agg cs0, .int .i64 a1] w fun e w' => e = .returned (.bool true) ∧ Below w.heap.size w w' := by
  obtain ⟨hl, hb⟩ := Rw.array Try.underlying22 z0
  have c1 : Try.prog.cellsOf 3 = 1 := by kernel_rfl
  have c4 : Try.prog.cellsOf 22 = 4 := by kernel_rfl
  rw [c4] at hl
  obtain ⟨x0, x1, x2, x3, hx⟩ := list4 hl
  rw [hx] at hb
  obtain ⟨a, ha, -⟩ := Rw.int Try.underlying3 (hb 0 (by omega))
  obtain ⟨b, hb1, -⟩ := Rw.int Try.underlying3 (hb 1 (by omega))
  obtain ⟨c, hc, -⟩ := Rw.int Try.underlying3 (hb 2 (by omega))
  obtain ⟨d, hd, -⟩ := Rw.int Try.underlying3 (hb 3 (by omega))
  simp [c1] at ha hb1 hc hd
  subst ha hb1 hc hd
  rw [agg_eq hx]
  refine (reportGroups_walk a b c d a1 w).mono ?_
  rintro e w' ⟨v, rfl, rfl, h⟩
  exact ⟨rfl, h.below⟩
end Go.Proofs.Ytjejdlolgmhljaa

/- What every row needs. -/
namespace Go.Proofs.Ytjejdlolgmhljaa
open Go.ChangeShapes Go.WideShapes Go.ChangeAt Go.RowKit
theorem pown : ownKnob Try.prog.godebug = none := by kernel_rfl
theorem plaidOut : laidOutB Try.prog = true := by kernel_rfl
end Go.Proofs.Ytjejdlolgmhljaa
