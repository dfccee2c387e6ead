/- Part 5 of the proofs that lead to the statement. -/
import Derived.Test.YthncbdoiilgnhaaY4
import Derived.ProofKit
import Derived.OpenShut
import Derived.ShutString
import Derived.ChangeOld
import Derived.Below
/- The law QamMirrors: the walk. -/
namespace Go.Proofs.Ythncbdoiilgnhaa
open Go.RowKit
set_option linter.unusedSimpArgs false
set_option linter.unusedVariables false

def sqa (y a : Int) : Int := (y - 16 * a) * (y - 16 * a)
theorem sqa_neg (y a : Int) : sqa (-y) a = sqa y (-a) := by
  unfold sqa
  rw [← Int.neg_mul_neg]
  congr 1 <;> omega
theorem sq_sqa (n : Nat) (y : Int) (g : Nat) : sq n y g = sqa y (lev (grp n g)) := rfl

theorem dst_neg0 (n : Nat) (y : Int) (hn : 1 ≤ n) (hn3 : n ≤ 3) : dst n (-y) 0 1 = dst n y 0 0 ∧ dst n (-y) 0 0 = dst n y 0 1 := by
  have h : n = 1 ∨ n = 2 ∨ n = 3 := by omega
  rcases h with rfl | rfl | rfl <;>
  · simp [dst, sqs, lst, List.range_succ, bitOf, grp, lev, sq_sqa, sqa_neg]
    try omega
theorem dst_neg (n : Nat) (y : Int) (j : Nat) (v : Int) (hv : v = 0 ∨ v = 1) (hj : 1 ≤ j) (hjn : j < n) (hn3 : n ≤ 3) : dst n (-y) j v = dst n y j v := by
  have h : (n = 2 ∧ j = 1) ∨ (n = 3 ∧ j = 1) ∨ (n = 3 ∧ j = 2) := by omega
  rcases h with ⟨rfl, rfl⟩ | ⟨rfl, rfl⟩ | ⟨rfl, rfl⟩ <;> rcases hv with rfl | rfl <;>
  · simp [dst, sqs, lst, List.range_succ, bitOf, grp, lev, sq_sqa, sqa_neg]
    try omega
theorem sfv_neg0 (n : Nat) (y : Int) (hn : 1 ≤ n) (hn3 : n ≤ 3) : sfv n (-y) 0 = - sfv n y 0 := by
  obtain ⟨h1, h2⟩ := dst_neg0 n y hn hn3
  unfold sfv
  rw [h1, h2, ← Int.neg_sub, Int.neg_tdiv]
  unfold clampv
  omega
theorem sfv_neg (n : Nat) (y : Int) (j : Nat) (hj : 1 ≤ j) (hjn : j < n) (hn3 : n ≤ 3) : sfv n (-y) j = sfv n y j := by
  unfold sfv
  rw [dst_neg n y j 1 (.inr rfl) hj hjn hn3, dst_neg n y j 0 (.inl rfl) hj hjn hn3]
theorem sfv_bd (n : Nat) (y : Int) (j : Nat) : -127 ≤ sfv n y j ∧ sfv n y j ≤ 127 := by
  unfold sfv clampv
  omega
theorem ilv_get (n : Nat) (p : Int × Int) : ∀ (k j : Nat), j < k → (ilv n p k)[2 * j]? = some (sfv n p.1 j) ∧ (ilv n p k)[2 * j + 1]? = some (sfv n p.2 j)
  | 0, j, h => by omega
  | k + 1, j, h => by
    rw [ilv_succ]
    by_cases hj : j < k
    · obtain ⟨h1, h2⟩ := ilv_get n p k j hj
      have hl := ilv_length n p k
      rw [List.getElem?_append_left (by omega), List.getElem?_append_left (by omega)]
      exact ⟨h1, h2⟩
    · obtain rfl : j = k := by omega
      have hl := ilv_length n p j
      rw [List.getElem?_append_right (by omega), List.getElem?_append_right (by omega), hl]
      simp
theorem dml_elt (n : Nat) (p : Int × Int) (i : Nat) (hi : i < 2 * n) : elt (dml n [p]) (i : Int) = if i % 2 = 0 then sfv n p.1 (i / 2) else sfv n p.2 (i / 2) := by
  have e : dml n [p] = ilv n p n := by simp [dml]
  obtain ⟨h1, h2⟩ := ilv_get n p n (i / 2) (by omega)
  rw [e]
  simp only [elt, Int.toNat_natCast, List.getD_eq_getElem?_getD]
  by_cases h : i % 2 = 0
  · rw [if_pos h]
    rw [show 2 * (i / 2) = i from by omega] at h1
    rw [h1]; rfl
  · rw [if_neg h]
    rw [show 2 * (i / 2) + 1 = i from by omega] at h2
    rw [h2]; rfl

theorem mirror_facts (n : Nat) (hn : 1 ≤ n) (hn3 : n ≤ 3) (p q : Int × Int) :
    (∀ k : Nat, k < 2 * n → -127 ≤ elt (dml n [(p.1, p.2)]) (k : Int) ∧ elt (dml n [(p.1, p.2)]) (k : Int) ≤ 127) ∧
    (∀ k : Nat, k < 2 * n → (k = 0 → elt (dml n [(-p.1, p.2)]) (k : Int) = - elt (dml n [(p.1, p.2)]) (k : Int)) ∧ (k ≠ 0 → elt (dml n [(-p.1, p.2)]) (k : Int) = elt (dml n [(p.1, p.2)]) (k : Int))) ∧
    (∀ k : Nat, k < 2 * n → (k : Int) % 2 = 0 → elt (dml n [(p.1, q.2)]) (k : Int) = elt (dml n [(p.1, p.2)]) (k : Int) ∧ elt (dml n [(p.2, p.1)]) ((k : Int) + 1) = elt (dml n [(p.1, p.2)]) (k : Int) ∧ elt (dml n [(p.2, p.1)]) (k : Int) = elt (dml n [(p.1, p.2)]) ((k : Int) + 1)) := by
  refine ⟨fun k hk => ?_, fun k hk => ⟨fun h0 => ?_, fun h0 => ?_⟩, fun k hk he => ?_⟩
  · rw [dml_elt n _ k hk]
    split <;> exact sfv_bd _ _ _
  · subst h0
    rw [dml_elt n _ 0 hk, dml_elt n _ 0 hk]
    exact sfv_neg0 n p.1 hn hn3
  · rw [dml_elt n _ k hk, dml_elt n _ k hk]
    split
    · exact sfv_neg n p.1 _ (by omega) (by omega) hn3
    · rfl
  · have h1 : (k : Int) + 1 = ((k + 1 : Nat) : Int) := by omega
    rw [h1, dml_elt n _ k hk, dml_elt n _ k hk, dml_elt n _ (k + 1) (by omega), dml_elt n _ k hk, dml_elt n _ (k + 1) (by omega)]
    have e1 : k % 2 = 0 := by omega
    have e2 : (k + 1) % 2 = 1 := by omega
    have e3 : (k + 1) / 2 = k / 2 := by omega
    simp [e1, e2, e3]

theorem mirrors_none (m : Int) (p q : Int × Int) (w : World) (hm : vm m = false) :
    Calls Try.prog 5 #[.int .i64 m, .agg #[.int .i64 p.1, .int .i64 p.2], .agg #[.int .i64 q.1, .int .i64 q.2]] w (SX.Ret fun v w' => v = .bool true ∧ SX.St w [] w' []) := by
  have hs := SX.St.start w
  refine Z.enter Try.func5 rfl Try.ntmps5 rfl rfl ?_
  refine Z.seq ?_
  refine Z.region ?_
  refine Z.le rfl trivial ?_
  refine Z.ZO.box rfl rfl (by rfl) rfl rfl hs ?_
  clear hs; intro g4 w4 hs
  refine Z.le rfl trivial ?_
  refine Z.ZO.box rfl rfl (by rfl) rfl rfl hs ?_
  clear hs; intro g5 w5 hs
  refine Z.lb 1 rfl ?_
  refine Z.lnil ?_
  refine Z.only [0, 4, 5] rfl ?_
  refine Z.nthen ?_
  refine Z.seq ?_
  refine Z.seq ?_
  refine Z.region ?_
  refine Z.lb 11 rfl ?_
  refine Z.yes (s := 27) (b := true) rfl (by simp [vm] at hm ⊢; omega) rfl ?_
  refine Z.ls rfl rfl rfl (by rfl) ?_
  refine Z.ls rfl rfl rfl (by rfl) ?_
  refine Z.ls rfl rfl rfl (by rfl) ?_
  refine Z.ls rfl rfl rfl (by rfl) ?_
  refine Z.ls rfl rfl rfl (by rfl) ?_
  refine Z.l rfl rfl (by rfl) (Z.keepS hs) (Z.Yd.pickT rfl rfl) ?_
  refine Z.lnil ?_
  refine Z.only [0, 4, 5, 33] rfl ?_
  refine Z.nthen ?_
  refine Z.cond rfl (fun hc1 => ?_) (fun h => absurd h (by simp))
  refine Z.seq ?_
  refine Z.region ?_
  refine Z.le rfl trivial ?_
  refine Z.ZO.call rfl rfl (by rfl) rfl rfl Try.call10 rfl (known_any _) ?_
  rintro v2_0 w2_0 ⟨rfl, hy⟩
  replace hs := hs.call hy
  clear hy
  try simp only [List.cons_append, List.nil_append, List.append_nil] at hs
  refine Z.lb 1 rfl ?_
  refine Z.lnil ?_
  refine Z.only [6] rfl ?_
  refine Z.nthen ?_
  refine Z.ret ?_
  repeat (first | refine Z.rthen ?_ | refine Z.rblock ?_ | refine Z.rscope ?_)
  -- ret#0
  refine Z.out1 (by exact ⟨rfl, trivial⟩) ?_
  exact ⟨_, rfl, rfl, hs.sub (List.nil_sublist _)⟩

theorem mirrors_out (n : Nat) (hn : 1 ≤ n) (hn3 : n ≤ 3) (p q : Int × Int) (w : World) (hi : [p, q].all ins = false) :
    Calls Try.prog 5 #[.int .i64 ((2 * n : Nat) : Int), .agg #[.int .i64 p.1, .int .i64 p.2], .agg #[.int .i64 q.1, .int .i64 q.2]] w (SX.Ret fun v w' => v = .bool true ∧ SX.St w [] w' []) := by
  have hs := SX.St.start w
  have hn' : n = 1 ∨ n = 2 ∨ n = 3 := by omega
  refine Z.enter Try.func5 rfl Try.ntmps5 rfl rfl ?_
  refine Z.seq ?_
  refine Z.region ?_
  refine Z.le rfl trivial ?_
  refine Z.ZO.box rfl rfl (by rfl) rfl rfl hs ?_
  clear hs; intro g4 w4 hs
  refine Z.le rfl trivial ?_
  refine Z.ZO.box rfl rfl (by rfl) rfl rfl hs ?_
  clear hs; intro g5 w5 hs
  refine Z.lb 1 rfl ?_
  refine Z.lnil ?_
  refine Z.only [0, 4, 5] rfl ?_
  refine Z.nthen ?_
  refine Z.seq ?_
  refine Z.seq ?_
  refine Z.region ?_
  refine Z.lb 11 rfl ?_
  refine Z.yes (s := 27) (b := false) rfl (by rcases hn' with rfl | rfl | rfl <;> rfl) rfl ?_
  refine Z.l rfl rfl (by rfl) (Z.keepS hs) (by first | exact Z.Yd.loadA _ rfl Try.isAgg32 (fun _ => Z.cellsB (by first | ((repeat (first | exact List.mem_cons_self | refine List.mem_cons_of_mem _ ?_ | refine List.mem_append_right _ ?_)); done) | fail)) (by exact Try.sizeOf32) | fail "load 1.11") ?_
  refine Z.l rfl rfl (by rfl) (Z.keepS hs) (by first | exact Z.Yd.loadA _ rfl Try.isAgg32 (fun _ => Z.cellsB (by first | ((repeat (first | exact List.mem_cons_self | refine List.mem_cons_of_mem _ ?_ | refine List.mem_append_right _ ?_)); done) | fail)) (by exact Try.sizeOf32) | fail "load 1.12") ?_
  refine Z.yes (s := 27) (b := false) rfl rfl rfl ?_
  refine Z.le rfl (by exact ⟨rfl, trivial⟩) ?_
  refine Z.ZO.lit rfl rfl (by rfl) rfl (by intro W; go_simp; exact rfl) hs ?_
  clear hs; intro g30 w30 hs
  refine Z.le rfl (by exact ⟨rfl, trivial⟩) ?_
  refine Z.ZO.call rfl rfl (by rfl) rfl rfl Try.call16 rfl (rinside_any _ 2 2 [p, q] _ (by exact SX.blk_sl hs SX.at0) rfl (by omega)) ?_
  rintro v1_14 w1_14 ⟨rfl, hy⟩
  replace hs := hs.call hy
  clear hy
  try simp only [List.cons_append, List.nil_append, List.append_nil] at hs
  refine Z.lb 1 rfl ?_
  refine Z.yes (s := 27) (b := false) rfl rfl rfl ?_
  refine Z.l rfl rfl (by rfl) (Z.keepS hs) (Z.Yd.pickF rfl rfl) ?_
  refine Z.lnil ?_
  refine Z.only [0, 4, 5, 33] rfl ?_
  refine Z.nthen ?_
  refine Z.cond rfl (fun hc1 => ?_) (fun h => absurd h (by rw [hi]; simp))
  refine Z.seq ?_
  refine Z.region ?_
  refine Z.le rfl trivial ?_
  refine Z.ZO.call rfl rfl (by rfl) rfl rfl Try.call10 rfl (known_any _) ?_
  rintro v2_0 w2_0 ⟨rfl, hy⟩
  replace hs := hs.call hy
  clear hy
  try simp only [List.cons_append, List.nil_append, List.append_nil] at hs
  refine Z.lb 1 rfl ?_
  refine Z.lnil ?_
  refine Z.only [6] rfl ?_
  refine Z.nthen ?_
  refine Z.ret ?_
  repeat (first | refine Z.rthen ?_ | refine Z.rblock ?_ | refine Z.rscope ?_)
  -- ret#0
  refine Z.out1 (by exact ⟨rfl, trivial⟩) ?_
  exact ⟨_, rfl, rfl, hs.sub (List.nil_sublist _)⟩

theorem mirrors_in (n : Nat) (hn : 1 ≤ n) (hn3 : n ≤ 3) (p q : Int × Int) (w : World) (hi : [p, q].all ins = true) :
    Calls Try.prog 5 #[.int .i64 ((2 * n : Nat) : Int), .agg #[.int .i64 p.1, .int .i64 p.2], .agg #[.int .i64 q.1, .int .i64 q.2]] w (SX.Ret fun v w' => v = .bool true ∧ SX.St w [] w' []) := by
  have hs := SX.St.start w
  have hn' : n = 1 ∨ n = 2 ∨ n = 3 := by omega
  have hp : ins p = true := by simp at hi; exact hi.1
  have hq : ins q = true := by simp at hi; exact hi.2
  obtain ⟨hp1, hp2, hp3, hp4⟩ := ins_bd hp
  obtain ⟨hq1, hq2, hq3, hq4⟩ := ins_bd hq
  have hins : ∀ x y : Int, -1048576 ≤ x ∧ x ≤ 1048576 ∧ -1048576 ≤ y ∧ y ≤ 1048576 → ∀ r ∈ [(x, y)], ins r = true := fun x y h r hr => by
    obtain rfl : r = (x, y) := by simpa using hr
    simp [ins]
    omega
  refine Z.enter Try.func5 rfl Try.ntmps5 rfl rfl ?_
  refine Z.seq ?_
  refine Z.region ?_
  refine Z.le rfl trivial ?_
  refine Z.ZO.box rfl rfl (by rfl) rfl rfl hs ?_
  clear hs; intro g4 w4 hs
  refine Z.le rfl trivial ?_
  refine Z.ZO.box rfl rfl (by rfl) rfl rfl hs ?_
  clear hs; intro g5 w5 hs
  refine Z.lb 1 rfl ?_
  refine Z.lnil ?_
  refine Z.only [0, 4, 5] rfl ?_
  refine Z.nthen ?_
  refine Z.seq ?_
  refine Z.seq ?_
  refine Z.region ?_
  refine Z.lb 11 rfl ?_
  refine Z.yes (s := 27) (b := false) rfl (by rcases hn' with rfl | rfl | rfl <;> rfl) rfl ?_
  refine Z.l rfl rfl (by rfl) (Z.keepS hs) (by first | exact Z.Yd.loadA _ rfl Try.isAgg32 (fun _ => Z.cellsB (by first | ((repeat (first | exact List.mem_cons_self | refine List.mem_cons_of_mem _ ?_ | refine List.mem_append_right _ ?_)); done) | fail)) (by exact Try.sizeOf32) | fail "load 1.11") ?_
  refine Z.l rfl rfl (by rfl) (Z.keepS hs) (by first | exact Z.Yd.loadA _ rfl Try.isAgg32 (fun _ => Z.cellsB (by first | ((repeat (first | exact List.mem_cons_self | refine List.mem_cons_of_mem _ ?_ | refine List.mem_append_right _ ?_)); done) | fail)) (by exact Try.sizeOf32) | fail "load 1.12") ?_
  refine Z.yes (s := 27) (b := false) rfl rfl rfl ?_
  refine Z.le rfl (by exact ⟨rfl, trivial⟩) ?_
  refine Z.ZO.lit rfl rfl (by rfl) rfl (by intro W; go_simp; exact rfl) hs ?_
  clear hs; intro g30 w30 hs
  refine Z.le rfl (by exact ⟨rfl, trivial⟩) ?_
  refine Z.ZO.call rfl rfl (by rfl) rfl rfl Try.call16 rfl (rinside_any _ 2 2 [p, q] _ (by exact SX.blk_sl hs SX.at0) rfl (by omega)) ?_
  rintro v1_14 w1_14 ⟨rfl, hy⟩
  replace hs := hs.call hy
  clear hy
  try simp only [List.cons_append, List.nil_append, List.append_nil] at hs
  refine Z.lb 1 rfl ?_
  refine Z.yes (s := 27) (b := false) rfl rfl rfl ?_
  refine Z.l rfl rfl (by rfl) (Z.keepS hs) (Z.Yd.pickF rfl rfl) ?_
  refine Z.lnil ?_
  refine Z.only [0, 4, 5, 33] rfl ?_
  refine Z.nthen ?_
  refine Z.cond rfl (fun h => absurd h (by rw [hi]; simp)) (fun hc1 => ?_)
  refine Z.skip ?_
  refine Z.nthen ?_
  refine Z.seq ?_
  refine Z.region ?_
  refine Z.lb 1 rfl ?_
  refine Z.l rfl rfl (by rfl) (Z.keepS hs) (by first | exact Z.Yd.loadA _ rfl Try.isAgg32 (fun _ => Z.cellsB (by first | ((repeat (first | exact List.mem_cons_self | refine List.mem_cons_of_mem _ ?_ | refine List.mem_append_right _ ?_)); done) | fail)) (by exact Try.sizeOf32) | fail "load 3.1") ?_
  refine Z.le rfl trivial ?_
  refine Z.ZO.lit rfl rfl (by rfl) rfl (by intro W; go_simp; exact rfl) hs ?_
  clear hs; intro g38 w38 hs
  refine Z.le rfl trivial ?_
  refine Z.ZO.call rfl rfl (by rfl) rfl rfl Try.call17 rfl (demod_ok _ 1 1 n [(p.1, p.2)] _ (by exact SX.blk_sl hs SX.at0) rfl (by omega) hn hn3 (hins _ _ (by omega))) ?_
  rintro v3_3 w3_3 ⟨sva, rfl, hy⟩
  replace hs := hs.call hy
  clear hy
  try simp only [List.cons_append, List.nil_append, List.append_nil] at hs
  obtain ⟨ga, ca, rfl, hca, hca'⟩ := row_form (j := 0) hs rfl (by omega)
  refine Z.lb 5 rfl ?_
  refine Z.lnil ?_
  refine Z.only [0, 4, 5, 7, 8] rfl ?_
  refine Z.nthen ?_
  refine Z.seq ?_
  refine Z.region ?_
  refine Z.lb 1 rfl ?_
  refine Z.l rfl rfl (by rfl) (Z.keepS hs) (Z.Yd.fieldA (m := 0) rfl (by kernel_rfl)) ?_
  refine Z.l rfl rfl (by rfl) (Z.keepS hs) (by first | exact Z.Yd.load rfl Try.isAgg3 (fun _ => Z.cellB (by first | ((repeat (first | exact List.mem_cons_self | refine List.mem_cons_of_mem _ ?_ | refine List.mem_append_right _ ?_)); done) | fail) rfl) | exact Z.Yd.load rfl Try.isAgg3 (fun _ => Z.cellO (by assumption) (by simp) (by assumption)) | fail "load 4.2") ?_
  refine Z.l rfl rfl (by rfl) (Z.keepS hs) (Z.Yd.neg rfl (fun hG => Z.wi64 (by first | omega | (have hG' := Z.gh rfl hG; simp at hG'; omega)))) ?_
  refine Z.l rfl rfl (by rfl) (Z.keepS hs) (Z.Yd.fieldA (m := 1) rfl (by kernel_rfl)) ?_
  refine Z.l rfl rfl (by rfl) (Z.keepS hs) (by first | exact Z.Yd.load rfl Try.isAgg3 (fun _ => Z.cellB (by first | ((repeat (first | exact List.mem_cons_self | refine List.mem_cons_of_mem _ ?_ | refine List.mem_append_right _ ?_)); done) | fail) rfl) | exact Z.Yd.load rfl Try.isAgg3 (fun _ => Z.cellO (by assumption) (by simp) (by assumption)) | fail "load 4.5") ?_
  refine Z.l rfl rfl (by rfl) (Z.keepS hs) (Z.Yd.build rfl (by intro w; go_simp; try rfl)) ?_
  refine Z.le rfl trivial ?_
  refine Z.ZO.lit rfl rfl (by rfl) rfl (by intro W; go_simp; exact rfl) hs ?_
  clear hs; intro g50 w50 hs
  refine Z.le rfl trivial ?_
  refine Z.ZO.call rfl rfl (by rfl) rfl rfl Try.call17 rfl (demod_ok _ 1 1 n [(-p.1, p.2)] _ (by exact SX.blk_sl hs SX.at0) rfl (by omega) hn hn3 (hins _ _ (by omega))) ?_
  rintro v4_8 w4_8 ⟨svb, rfl, hy⟩
  replace hs := hs.call hy
  clear hy
  try simp only [List.cons_append, List.nil_append, List.append_nil] at hs
  obtain ⟨gb, cb, rfl, hcb, hcb'⟩ := row_form (j := 0) hs rfl (by omega)
  refine Z.lb 5 rfl ?_
  refine Z.lnil ?_
  refine Z.only [0, 4, 5, 7, 8, 9, 10] rfl ?_
  refine Z.nthen ?_
  refine Z.seq ?_
  refine Z.region ?_
  refine Z.lb 1 rfl ?_
  refine Z.l rfl rfl (by rfl) (Z.keepS hs) (Z.Yd.fieldA (m := 0) rfl (by kernel_rfl)) ?_
  refine Z.l rfl rfl (by rfl) (Z.keepS hs) (by first | exact Z.Yd.load rfl Try.isAgg3 (fun _ => Z.cellB (by first | ((repeat (first | exact List.mem_cons_self | refine List.mem_cons_of_mem _ ?_ | refine List.mem_append_right _ ?_)); done) | fail) rfl) | exact Z.Yd.load rfl Try.isAgg3 (fun _ => Z.cellO (by assumption) (by simp) (by assumption)) | fail "load 5.2") ?_
  refine Z.l rfl rfl (by rfl) (Z.keepS hs) (Z.Yd.fieldA (m := 1) rfl (by kernel_rfl)) ?_
  refine Z.l rfl rfl (by rfl) (Z.keepS hs) (by first | exact Z.Yd.load rfl Try.isAgg3 (fun _ => Z.cellB (by first | ((repeat (first | exact List.mem_cons_self | refine List.mem_cons_of_mem _ ?_ | refine List.mem_append_right _ ?_)); done) | fail) rfl) | exact Z.Yd.load rfl Try.isAgg3 (fun _ => Z.cellO (by assumption) (by simp) (by assumption)) | fail "load 5.4") ?_
  refine Z.l rfl rfl (by rfl) (Z.keepS hs) (Z.Yd.build rfl (by intro w; go_simp; try rfl)) ?_
  refine Z.le rfl trivial ?_
  refine Z.ZO.lit rfl rfl (by rfl) rfl (by intro W; go_simp; exact rfl) hs ?_
  clear hs; intro g61 w61 hs
  refine Z.le rfl trivial ?_
  refine Z.ZO.call rfl rfl (by rfl) rfl rfl Try.call17 rfl (demod_ok _ 1 1 n [(p.1, q.2)] _ (by exact SX.blk_sl hs SX.at0) rfl (by omega) hn hn3 (hins _ _ (by omega))) ?_
  rintro v5_7 w5_7 ⟨svc, rfl, hy⟩
  replace hs := hs.call hy
  clear hy
  try simp only [List.cons_append, List.nil_append, List.append_nil] at hs
  obtain ⟨gc, cc, rfl, hcc, hcc'⟩ := row_form (j := 0) hs rfl (by omega)
  refine Z.lb 5 rfl ?_
  refine Z.lnil ?_
  refine Z.only [0, 4, 7, 8, 9, 10, 11, 12] rfl ?_
  refine Z.nthen ?_
  refine Z.seq ?_
  refine Z.region ?_
  refine Z.lb 1 rfl ?_
  refine Z.l rfl rfl (by rfl) (Z.keepS hs) (Z.Yd.fieldA (m := 1) rfl (by kernel_rfl)) ?_
  refine Z.l rfl rfl (by rfl) (Z.keepS hs) (by first | exact Z.Yd.load rfl Try.isAgg3 (fun _ => Z.cellB (by first | ((repeat (first | exact List.mem_cons_self | refine List.mem_cons_of_mem _ ?_ | refine List.mem_append_right _ ?_)); done) | fail) rfl) | exact Z.Yd.load rfl Try.isAgg3 (fun _ => Z.cellO (by assumption) (by simp) (by assumption)) | fail "load 6.2") ?_
  refine Z.l rfl rfl (by rfl) (Z.keepS hs) (Z.Yd.fieldA (m := 0) rfl (by kernel_rfl)) ?_
  refine Z.l rfl rfl (by rfl) (Z.keepS hs) (by first | exact Z.Yd.load rfl Try.isAgg3 (fun _ => Z.cellB (by first | ((repeat (first | exact List.mem_cons_self | refine List.mem_cons_of_mem _ ?_ | refine List.mem_append_right _ ?_)); done) | fail) rfl) | exact Z.Yd.load rfl Try.isAgg3 (fun _ => Z.cellO (by assumption) (by simp) (by assumption)) | fail "load 6.4") ?_
  refine Z.l rfl rfl (by rfl) (Z.keepS hs) (Z.Yd.build rfl (by intro w; go_simp; try rfl)) ?_
  refine Z.le rfl trivial ?_
  refine Z.ZO.lit rfl rfl (by rfl) rfl (by intro W; go_simp; exact rfl) hs ?_
  clear hs; intro g72 w72 hs
  refine Z.le rfl trivial ?_
  refine Z.ZO.call rfl rfl (by rfl) rfl rfl Try.call17 rfl (demod_ok _ 1 1 n [(p.2, p.1)] _ (by exact SX.blk_sl hs SX.at0) rfl (by omega) hn hn3 (hins _ _ (by omega))) ?_
  rintro v6_7 w6_7 ⟨svd, rfl, hy⟩
  replace hs := hs.call hy
  clear hy
  try simp only [List.cons_append, List.nil_append, List.append_nil] at hs
  obtain ⟨gd, cd, rfl, hcd, hcd'⟩ := row_form (j := 0) hs rfl (by omega)
  refine Z.lb 5 rfl ?_
  refine Z.lnil ?_
  refine Z.only [0, 7, 8, 9, 10, 11, 12, 13, 14] rfl ?_
  refine Z.nthen ?_
  refine Z.seq ?_
  refine Z.seq ?_
  refine Z.region ?_
  refine Z.lb 16 rfl ?_
  refine Z.l rfl rfl (by rfl) (Z.keepS hs) (Z.Yd.lenS rfl Try.underlying38) ?_
  refine Z.lb 5 rfl ?_
  refine Z.l rfl rfl (by rfl) (Z.keepS hs) (Z.Yd.lenS rfl Try.underlying38) ?_
  refine Z.lb 5 rfl ?_
  refine Z.l rfl rfl (by rfl) (Z.keepS hs) (Z.Yd.lenS rfl Try.underlying38) ?_
  refine Z.lb 5 rfl ?_
  refine Z.l rfl rfl (by rfl) (Z.keepS hs) (Z.Yd.lenS rfl Try.underlying38) ?_
  refine Z.lb 3 rfl ?_
  refine Z.lnil ?_
  refine Z.only [0, 7, 9, 11, 13, 113] rfl ?_
  refine Z.nthen ?_
  refine Z.cond rfl (fun h => absurd h (by simp)) (fun hc7 => ?_)
  refine Z.skip ?_
  refine Z.nthen ?_
  refine Z.seq ?_
  refine Z.seq ?_
  refine Z.region ?_
  replace hs := hs.sel [0, 2, 4, 6] (by decide)
  simp only [List.filterMap_cons, List.filterMap_nil, List.getElem?_cons_zero, List.getElem?_cons_succ] at hs
  have hla := dml_length n [(p.1, p.2)]
  have hlb := dml_length n [(-p.1, p.2)]
  have hlc := dml_length n [(p.1, q.2)]
  have hld := dml_length n [(p.2, p.1)]
  simp only [List.length_cons, List.length_nil, Nat.zero_add, Nat.one_mul] at hla hlb hlc hld
  obtain ⟨hF1, hF2, hF3⟩ := mirror_facts n hn hn3 p q
  generalize dml n [(p.1, p.2)] = la at *
  generalize dml n [(-p.1, p.2)] = lb at *
  generalize dml n [(p.1, q.2)] = lc at *
  generalize dml n [(p.2, p.1)] = ld at *
  refine Z.l rfl rfl (by rfl) (Z.keepS hs) (Z.Yd.pure rfl) ?_
  refine Z.lnil ?_
  refine Z.only [0, 7, 9, 11, 13, 15] rfl ?_
  refine Z.nthen ?_
  refine Z.block ?_
  refine Z.loopk (ι := Nat) [0, 7, 9, 11, 13] rfl (fun k => [(15, [], .int .i64 (k : Int))]) (fun k wr => k ≤ 2 * n ∧ SX.St w [] wr [SX.Ent.row (.slice (some ⟨gd, 0, none⟩) (1 * (2 * n)) cd) 3 1 (1 * (2 * n)) (ints .i64 ld), SX.Ent.row (.slice (some ⟨gc, 0, none⟩) (1 * (2 * n)) cc) 3 1 (1 * (2 * n)) (ints .i64 lc), SX.Ent.row (.slice (some ⟨gb, 0, none⟩) (1 * (2 * n)) cb) 3 1 (1 * (2 * n)) (ints .i64 lb), SX.Ent.row (.slice (some ⟨ga, 0, none⟩) (1 * (2 * n)) ca) 3 1 (1 * (2 * n)) (ints .i64 la)]) (fun k => 2 * n - k) 0 (by refine ⟨?_, trivial⟩ <;> (first | rfl | (refine Z.lookv rfl ?_; simp; done) | (refine Z.lookv rfl ?_; simp; omega))) ⟨by omega, hs⟩ ?_
  clear hs
  rintro k w1 ⟨hkn, hs⟩
  refine Z.only [0, 7, 9, 11, 13, 15] rfl ?_
  refine Z.seq ?_
  refine Z.seq ?_
  refine Z.region ?_
  refine Z.lb 3 rfl ?_
  refine Z.lnil ?_
  refine Z.only [0, 7, 9, 11, 13, 15, 116] rfl ?_
  refine Z.nthen ?_
  refine Z.cond rfl (fun hc10 => ?_) (fun hc10 => ?_)
  · first
      | (exfalso; simp at hc10 <;> omega)
      | (
        (try simp at hc10)
        obtain ⟨hB1, hB2⟩ := hF1 k (by omega)
        obtain ⟨hC1, hC2⟩ := hF2 k (by omega)
        have hC3 := hF3 k (by omega)
        refine Z.skip ?_
        refine Z.nthen ?_
        refine Z.seq ?_
        refine Z.block ?_
        refine Z.seq ?_
        refine Z.region ?_
        refine Z.lb 2 rfl ?_
        refine Z.l rfl rfl (by rfl) (Z.keepS hs) (Z.Yd.elem rfl rfl Try.underlying38 Try.sizeOf3 (fun hG => ⟨(by first | omega | (have hG' := Z.gh rfl hG; simp at hG'; omega)), (by first | omega | (have hG' := Z.gh rfl hG; simp at hG'; omega))⟩)) ?_
        refine Z.l rfl rfl (by rfl) (Z.keepS hs) (by first | exact Z.Yd.load rfl Try.isAgg3 (fun hG => Z.cellR (by first | ((repeat (first | exact List.mem_cons_self | refine List.mem_cons_of_mem _ ?_ | refine List.mem_append_right _ ?_)); done) | fail) (Z.ints_at (by first | omega | (have hG' := Z.gh rfl hG; simp at hG'; omega)) (by first | omega | (have hG' := Z.gh rfl hG; simp at hG'; omega)))) | exact Z.Yd.load rfl Try.isAgg3 (fun hG => Z.cellXi (by assumption) (by first | omega | (have hG' := Z.gh rfl hG; simp at hG'; omega)) (by first | omega | (have hG' := Z.gh rfl hG; simp at hG'; omega))) | exact Z.Yd.load rfl Try.isAgg3 (fun hG => Z.cellS (by assumption) rfl (by first | omega | (have hG' := Z.gh rfl hG; simp at hG'; omega)) (by first | omega | (have hG' := Z.gh rfl hG; simp at hG'; omega))) | fail "load 12.3") ?_
        refine Z.lb 1 rfl ?_
        refine Z.lnil ?_
        refine Z.only [0, 7, 9, 11, 13, 15, 16] rfl ?_
        refine Z.nthen ?_
        refine Z.seq ?_
        refine Z.seq ?_
        refine Z.region ?_
        refine Z.lb 2 rfl ?_
        refine Z.lnil ?_
        refine Z.only [0, 7, 9, 11, 13, 15, 16, 124] rfl ?_
        refine Z.nthen ?_
        refine Z.cutt (ι := Unit) [0, 7, 9, 11, 13, 15] rfl (fun _ => [(16, [], .int .i64 (if k = 0 then - elt la k else elt la k))]) (fun _ wr => SX.St w [] wr [SX.Ent.row (.slice (some ⟨gd, 0, none⟩) (1 * (2 * n)) cd) 3 1 (1 * (2 * n)) (ints .i64 ld), SX.Ent.row (.slice (some ⟨gc, 0, none⟩) (1 * (2 * n)) cc) 3 1 (1 * (2 * n)) (ints .i64 lc), SX.Ent.row (.slice (some ⟨gb, 0, none⟩) (1 * (2 * n)) cb) 3 1 (1 * (2 * n)) (ints .i64 lb), SX.Ent.row (.slice (some ⟨ga, 0, none⟩) (1 * (2 * n)) ca) 3 1 (1 * (2 * n)) (ints .i64 la)]) ?_ ?_
        · skip
          refine Z.cond rfl (fun hc13 => ?_) (fun hc13 => ?_)
          · first
              | (exfalso; simp at hc13 <;> omega)
              | (
                (try simp at hc13)
                refine Z.region ?_
                refine Z.lb 1 rfl ?_
                refine Z.l rfl rfl (by rfl) (Z.keepS hs) (Z.Yd.neg rfl (fun hG => Z.wi64 (by first | omega | (have hG' := Z.gh rfl hG; simp at hG'; omega)))) ?_
                refine Z.lb 1 rfl ?_
                refine Z.lnil ?_
                refine Z.only [0, 7, 9, 11, 13, 15, 16] rfl ?_
                refine Z.nthen ?_
                exact Z.meet () (by refine ⟨?_, ?_, ?_, ?_, ?_, ?_, ?_, trivial⟩ <;> first | rfl | (refine Z.lookv rfl ?_; simp [hc13])) hs
                )
          · first
              | (exfalso; simp at hc13 <;> omega)
              | (
                (try simp at hc13)
                refine Z.skip ?_
                refine Z.nthen ?_
                exact Z.meet () (by refine ⟨?_, ?_, ?_, ?_, ?_, ?_, ?_, trivial⟩ <;> first | rfl | (refine Z.lookv rfl ?_; simp [hc13])) hs
                )
        · clear hs
          rintro _ w2 hs
          refine Z.only [0, 7, 9, 11, 13, 15, 16] rfl ?_
          refine Z.seq ?_
          refine Z.drawK (fun _ => true) mixed hs ?_
          clear hs; intro wd15 hs
          refine Z.tb [0, 1] (by kernel_rfl) rfl ⟨_, hs, by first | (simp; done) | exact fun e he => List.mem_append_right _ he⟩ rfl ?_
          refine Z.t 2 rfl rfl rfl (by rfl) (by kernel_rfl) ⟨_, hs, by first | (simp; done) | exact fun e he => List.mem_append_right _ he⟩ (Z.Yd.elem rfl rfl Try.underlying38 Try.sizeOf3 (fun hG => ⟨(by first | omega | (have hG' := Z.gh rfl hG; simp at hG'; omega)), (by first | omega | (have hG' := Z.gh rfl hG; simp at hG'; omega))⟩)) ?_
          refine Z.t 3 rfl rfl rfl (by rfl) (by kernel_rfl) ⟨_, hs, by first | (simp; done) | exact fun e he => List.mem_append_right _ he⟩ (by first | exact Z.Yd.load rfl Try.isAgg3 (fun hG => Z.cellR (by first | ((repeat (first | exact List.mem_cons_self | refine List.mem_cons_of_mem _ ?_ | refine List.mem_append_right _ ?_)); done) | fail) (Z.ints_at (by first | omega | (have hG' := Z.gh rfl hG; simp at hG'; omega)) (by first | omega | (have hG' := Z.gh rfl hG; simp at hG'; omega)))) | exact Z.Yd.load rfl Try.isAgg3 (fun hG => Z.cellXi (by assumption) (by first | omega | (have hG' := Z.gh rfl hG; simp at hG'; omega)) (by first | omega | (have hG' := Z.gh rfl hG; simp at hG'; omega))) | exact Z.Yd.load rfl Try.isAgg3 (fun hG => Z.cellS (by assumption) rfl (by first | omega | (have hG' := Z.gh rfl hG; simp at hG'; omega)) (by first | omega | (have hG' := Z.gh rfl hG; simp at hG'; omega))) | fail "load 15.3") ?_
          refine Z.tb [4, 5, 6, 7] (by kernel_rfl) rfl ⟨_, hs, by first | (simp; done) | exact fun e he => List.mem_append_right _ he⟩ rfl ?_
          refine Z.t 8 rfl rfl rfl (by rfl) (by kernel_rfl) ⟨_, hs, by first | (simp; done) | exact fun e he => List.mem_append_right _ he⟩ (Z.Yd.rem rfl rfl (by intro hG; first | decide | omega) (by intro hG; first | exact Z.tmodn (by omega) | exact rfl)) ?_
          refine Z.tb [9, 10, 11, 12] (by kernel_rfl) rfl ⟨_, hs, by first | (simp; done) | exact fun e he => List.mem_append_right _ he⟩ rfl ?_
          refine Z.t 13 rfl rfl rfl (by rfl) (by kernel_rfl) ⟨_, hs, by first | (simp; done) | exact fun e he => List.mem_append_right _ he⟩ (Z.Yd.elem rfl rfl Try.underlying38 Try.sizeOf3 (fun hG => ⟨(by first | omega | (have hG' := Z.gh rfl hG; simp at hG'; omega)), (by first | omega | (have hG' := Z.gh rfl hG; simp at hG'; omega))⟩)) ?_
          refine Z.t 14 rfl rfl rfl (by rfl) (by kernel_rfl) ⟨_, hs, by first | (simp; done) | exact fun e he => List.mem_append_right _ he⟩ (by first | exact Z.Yd.load rfl Try.isAgg3 (fun hG => Z.cellR (by first | ((repeat (first | exact List.mem_cons_self | refine List.mem_cons_of_mem _ ?_ | refine List.mem_append_right _ ?_)); done) | fail) (Z.ints_at (by first | omega | (have hG' := Z.gh rfl hG; simp at hG'; omega)) (by first | omega | (have hG' := Z.gh rfl hG; simp at hG'; omega)))) | exact Z.Yd.load rfl Try.isAgg3 (fun hG => Z.cellXi (by assumption) (by first | omega | (have hG' := Z.gh rfl hG; simp at hG'; omega)) (by first | omega | (have hG' := Z.gh rfl hG; simp at hG'; omega))) | exact Z.Yd.load rfl Try.isAgg3 (fun hG => Z.cellS (by assumption) rfl (by first | omega | (have hG' := Z.gh rfl hG; simp at hG'; omega)) (by first | omega | (have hG' := Z.gh rfl hG; simp at hG'; omega))) | fail "load 15.14") ?_
          refine Z.tb [15, 16] (by kernel_rfl) rfl ⟨_, hs, by first | (simp; done) | exact fun e he => List.mem_append_right _ he⟩ rfl ?_
          refine Z.t 17 rfl rfl rfl (by rfl) (by kernel_rfl) ⟨_, hs, by first | (simp; done) | exact fun e he => List.mem_append_right _ he⟩ (Z.Yd.elem rfl rfl Try.underlying38 Try.sizeOf3 (fun hG => ⟨(by first | omega | (have hG' := Z.gh rfl hG; simp at hG'; omega)), (by first | omega | (have hG' := Z.gh rfl hG; simp at hG'; omega))⟩)) ?_
          refine Z.t 18 rfl rfl rfl (by rfl) (by kernel_rfl) ⟨_, hs, by first | (simp; done) | exact fun e he => List.mem_append_right _ he⟩ (by first | exact Z.Yd.load rfl Try.isAgg3 (fun hG => Z.cellR (by first | ((repeat (first | exact List.mem_cons_self | refine List.mem_cons_of_mem _ ?_ | refine List.mem_append_right _ ?_)); done) | fail) (Z.ints_at (by first | omega | (have hG' := Z.gh rfl hG; simp at hG'; omega)) (by first | omega | (have hG' := Z.gh rfl hG; simp at hG'; omega)))) | exact Z.Yd.load rfl Try.isAgg3 (fun hG => Z.cellXi (by assumption) (by first | omega | (have hG' := Z.gh rfl hG; simp at hG'; omega)) (by first | omega | (have hG' := Z.gh rfl hG; simp at hG'; omega))) | exact Z.Yd.load rfl Try.isAgg3 (fun hG => Z.cellS (by assumption) rfl (by first | omega | (have hG' := Z.gh rfl hG; simp at hG'; omega)) (by first | omega | (have hG' := Z.gh rfl hG; simp at hG'; omega))) | fail "load 15.18") ?_
          refine Z.tb [19, 20, 21, 22] (by kernel_rfl) rfl ⟨_, hs, by first | (simp; done) | exact fun e he => List.mem_append_right _ he⟩ rfl ?_
          refine Z.t 23 rfl rfl rfl (by rfl) (by kernel_rfl) ⟨_, hs, by first | (simp; done) | exact fun e he => List.mem_append_right _ he⟩ (Z.Yd.add rfl rfl (fun hG => Z.wi64 (by first | omega | (have hG' := Z.gh rfl hG; simp at hG'; omega)))) ?_
          refine Z.t 24 rfl rfl rfl (by rfl) (by kernel_rfl) ⟨_, hs, by first | (simp; done) | exact fun e he => List.mem_append_right _ he⟩ (Z.Yd.elem rfl rfl Try.underlying38 Try.sizeOf3 (fun hG => ⟨(by first | omega | (have hG' := Z.gh rfl hG; simp at hG'; omega)), (by first | omega | (have hG' := Z.gh rfl hG; simp at hG'; omega))⟩)) ?_
          refine Z.t 25 rfl rfl rfl (by rfl) (by kernel_rfl) ⟨_, hs, by first | (simp; done) | exact fun e he => List.mem_append_right _ he⟩ (by first | exact Z.Yd.load rfl Try.isAgg3 (fun hG => Z.cellR (by first | ((repeat (first | exact List.mem_cons_self | refine List.mem_cons_of_mem _ ?_ | refine List.mem_append_right _ ?_)); done) | fail) (Z.ints_at (by first | omega | (have hG' := Z.gh rfl hG; simp at hG'; omega)) (by first | omega | (have hG' := Z.gh rfl hG; simp at hG'; omega)))) | exact Z.Yd.load rfl Try.isAgg3 (fun hG => Z.cellXi (by assumption) (by first | omega | (have hG' := Z.gh rfl hG; simp at hG'; omega)) (by first | omega | (have hG' := Z.gh rfl hG; simp at hG'; omega))) | exact Z.Yd.load rfl Try.isAgg3 (fun hG => Z.cellS (by assumption) rfl (by first | omega | (have hG' := Z.gh rfl hG; simp at hG'; omega)) (by first | omega | (have hG' := Z.gh rfl hG; simp at hG'; omega))) | fail "load 15.25") ?_
          refine Z.tb [26, 27] (by kernel_rfl) rfl ⟨_, hs, by first | (simp; done) | exact fun e he => List.mem_append_right _ he⟩ rfl ?_
          refine Z.t 28 rfl rfl rfl (by rfl) (by kernel_rfl) ⟨_, hs, by first | (simp; done) | exact fun e he => List.mem_append_right _ he⟩ (Z.Yd.elem rfl rfl Try.underlying38 Try.sizeOf3 (fun hG => ⟨(by first | omega | (have hG' := Z.gh rfl hG; simp at hG'; omega)), (by first | omega | (have hG' := Z.gh rfl hG; simp at hG'; omega))⟩)) ?_
          refine Z.t 29 rfl rfl rfl (by rfl) (by kernel_rfl) ⟨_, hs, by first | (simp; done) | exact fun e he => List.mem_append_right _ he⟩ (by first | exact Z.Yd.load rfl Try.isAgg3 (fun hG => Z.cellR (by first | ((repeat (first | exact List.mem_cons_self | refine List.mem_cons_of_mem _ ?_ | refine List.mem_append_right _ ?_)); done) | fail) (Z.ints_at (by first | omega | (have hG' := Z.gh rfl hG; simp at hG'; omega)) (by first | omega | (have hG' := Z.gh rfl hG; simp at hG'; omega)))) | exact Z.Yd.load rfl Try.isAgg3 (fun hG => Z.cellXi (by assumption) (by first | omega | (have hG' := Z.gh rfl hG; simp at hG'; omega)) (by first | omega | (have hG' := Z.gh rfl hG; simp at hG'; omega))) | exact Z.Yd.load rfl Try.isAgg3 (fun hG => Z.cellS (by assumption) rfl (by first | omega | (have hG' := Z.gh rfl hG; simp at hG'; omega)) (by first | omega | (have hG' := Z.gh rfl hG; simp at hG'; omega))) | fail "load 15.29") ?_
          refine Z.tb [30, 31, 32, 33, 34] (by kernel_rfl) rfl ⟨_, hs, by first | (simp; done) | exact fun e he => List.mem_append_right _ he⟩ rfl ?_
          refine Z.t 35 rfl rfl rfl (by rfl) (by kernel_rfl) ⟨_, hs, by first | (simp; done) | exact fun e he => List.mem_append_right _ he⟩ (Z.Yd.elem rfl rfl Try.underlying38 Try.sizeOf3 (fun hG => ⟨(by first | omega | (have hG' := Z.gh rfl hG; simp at hG'; omega)), (by first | omega | (have hG' := Z.gh rfl hG; simp at hG'; omega))⟩)) ?_
          refine Z.t 36 rfl rfl rfl (by rfl) (by kernel_rfl) ⟨_, hs, by first | (simp; done) | exact fun e he => List.mem_append_right _ he⟩ (by first | exact Z.Yd.load rfl Try.isAgg3 (fun hG => Z.cellR (by first | ((repeat (first | exact List.mem_cons_self | refine List.mem_cons_of_mem _ ?_ | refine List.mem_append_right _ ?_)); done) | fail) (Z.ints_at (by first | omega | (have hG' := Z.gh rfl hG; simp at hG'; omega)) (by first | omega | (have hG' := Z.gh rfl hG; simp at hG'; omega)))) | exact Z.Yd.load rfl Try.isAgg3 (fun hG => Z.cellXi (by assumption) (by first | omega | (have hG' := Z.gh rfl hG; simp at hG'; omega)) (by first | omega | (have hG' := Z.gh rfl hG; simp at hG'; omega))) | exact Z.Yd.load rfl Try.isAgg3 (fun hG => Z.cellS (by assumption) rfl (by first | omega | (have hG' := Z.gh rfl hG; simp at hG'; omega)) (by first | omega | (have hG' := Z.gh rfl hG; simp at hG'; omega))) | fail "load 15.36") ?_
          refine Z.tb [37, 38] (by kernel_rfl) rfl ⟨_, hs, by first | (simp; done) | exact fun e he => List.mem_append_right _ he⟩ rfl ?_
          refine Z.t 39 rfl rfl rfl (by rfl) (by kernel_rfl) ⟨_, hs, by first | (simp; done) | exact fun e he => List.mem_append_right _ he⟩ (Z.Yd.add rfl rfl (fun hG => Z.wi64 (by first | omega | (have hG' := Z.gh rfl hG; simp at hG'; omega)))) ?_
          refine Z.t 40 rfl rfl rfl (by rfl) (by kernel_rfl) ⟨_, hs, by first | (simp; done) | exact fun e he => List.mem_append_right _ he⟩ (Z.Yd.elem rfl rfl Try.underlying38 Try.sizeOf3 (fun hG => ⟨(by first | omega | (have hG' := Z.gh rfl hG; simp at hG'; omega)), (by first | omega | (have hG' := Z.gh rfl hG; simp at hG'; omega))⟩)) ?_
          refine Z.t 41 rfl rfl rfl (by rfl) (by kernel_rfl) ⟨_, hs, by first | (simp; done) | exact fun e he => List.mem_append_right _ he⟩ (by first | exact Z.Yd.load rfl Try.isAgg3 (fun hG => Z.cellR (by first | ((repeat (first | exact List.mem_cons_self | refine List.mem_cons_of_mem _ ?_ | refine List.mem_append_right _ ?_)); done) | fail) (Z.ints_at (by first | omega | (have hG' := Z.gh rfl hG; simp at hG'; omega)) (by first | omega | (have hG' := Z.gh rfl hG; simp at hG'; omega)))) | exact Z.Yd.load rfl Try.isAgg3 (fun hG => Z.cellXi (by assumption) (by first | omega | (have hG' := Z.gh rfl hG; simp at hG'; omega)) (by first | omega | (have hG' := Z.gh rfl hG; simp at hG'; omega))) | exact Z.Yd.load rfl Try.isAgg3 (fun hG => Z.cellS (by assumption) rfl (by first | omega | (have hG' := Z.gh rfl hG; simp at hG'; omega)) (by first | omega | (have hG' := Z.gh rfl hG; simp at hG'; omega))) | fail "load 15.41") ?_
          refine Z.tb [42, 43, 44, 45] (by kernel_rfl) rfl ⟨_, hs, by first | (simp; done) | exact fun e he => List.mem_append_right _ he⟩ rfl ?_
          refine Z.td (by rfl) (by kernel_rfl) ?_
          refine Z.only [0, 7, 9, 11, 13, 15, 172] rfl ?_
          refine Z.nthen ?_
          refine Z.cond rfl (fun hc15 => ?_) (fun hc15 => ?_)
          · first
              | (exfalso; simp at hc15 <;> omega)
              | (
                (try simp at hc15)
                refine Z.seq ?_
                refine Z.region ?_
                refine Z.lb 1 rfl ?_
                refine Z.lnil ?_
                refine Z.only [6] rfl ?_
                refine Z.nthen ?_
                refine Z.ret ?_
                repeat (first | refine Z.rthen ?_ | refine Z.rblock ?_ | refine Z.rscope ?_)
                -- ret#0
                refine Z.out1 (by exact ⟨rfl, trivial⟩) ?_
                exact ⟨_, rfl, rfl, hs.sub (List.nil_sublist _)⟩
                )
          · first
              | (exfalso; simp at hc15 <;> omega)
              | (
                (try simp at hc15)
                refine Z.skip ?_
                refine Z.nblock ?_
                refine Z.nthen ?_
                refine Z.region ?_
                refine Z.lb 1 rfl ?_
                refine Z.l rfl rfl (by rfl) (Z.keepS hs) (Z.Yd.add rfl rfl (fun hG => Z.wi64 (by first | omega | (have hG' := Z.gh rfl hG; simp at hG'; omega)))) ?_
                refine Z.lb 1 rfl ?_
                refine Z.lnil ?_
                refine Z.only [0, 7, 9, 11, 13, 15] rfl ?_
                refine Z.nthen ?_
                exact Z.again (k + 1) (by refine ⟨?_, ?_, ?_, ?_, ?_, ?_, trivial⟩ <;> (first | rfl | (refine Z.lookv rfl ?_; simp; done) | (refine Z.lookv rfl ?_; simp; omega))) ⟨by omega, hs⟩ (by omega)
                )
        )
  · first
      | (exfalso; simp at hc10 <;> omega)
      | (
        (try simp at hc10)
        refine Z.exit ?_
        refine Z.xthen ?_
        refine Z.xthen ?_
        refine Z.xblock ?_
        refine Z.nthen ?_
        refine Z.seq ?_
        refine Z.region ?_
        refine Z.le rfl trivial ?_
        refine Z.ZO.call rfl rfl (by rfl) rfl rfl Try.call10 rfl (known_any _) ?_
        rintro v17_0 w17_0 ⟨rfl, hy⟩
        replace hs := hs.call hy
        clear hy
        try simp only [List.cons_append, List.nil_append, List.append_nil] at hs
        refine Z.lb 1 rfl ?_
        refine Z.lnil ?_
        refine Z.only [6] rfl ?_
        refine Z.nthen ?_
        refine Z.ret ?_
        -- ret#1
        refine Z.out1 (by exact ⟨rfl, trivial⟩) ?_
        exact ⟨_, rfl, rfl, hs.sub (List.nil_sublist _)⟩
        )
end Go.Proofs.Ythncbdoiilgnhaa

/- Arguments of any shape, asz they read: integers, slices, structs. -/
namespace Go.Proofs.Ythncbdoiilgnhaa
open Go.ChangeShapes Go.WideShapes Go.ChangeAt Go.RowKit
set_option linter.unusedVariables false
set_option linter.unusedSimpArgs false

/-- the cells cs read asz a value of type t -/
def Rd (P : Program) (W : World) (t : TypeId) (cs : List Value) : Prop :=
  ∃ (H : Type) (enc : TypeId × Value → H) (fuel : Nat) (x : DataW H × List MemPlace), DataW.trod enc P W 0 (fun _ => true) true fuel t cs = some x

variable {P : Program} {W : World} {t e : TypeId} {cs : List Value} {k : IntKind}

theorem Rd.of {H : Type} {enc : TypeId × Value → H} {v : Value} {d : DataW H} {p : List MemPlace} (h : DataW.Trod enc P W 0 (fun _ => true) true t v d p) : Rd P W t v.cells.toList := by
  obtain ⟨fuel, h⟩ := h
  exact ⟨H, enc, fuel, _, h⟩

theorem Rd.int (ht : P.underlying t = some (.int k)) (h : Rd P W t cs) : ∃ n, cs = [.int k n] ∧ (Lit.int k n).wf = true := by
  obtain ⟨H, enc, fuel, x, h⟩ := h
  cases fuel with
  | zero => simp [DataW.trod] at h
  | succ n =>
    unfold DataW.trod at h
    rw [ht] at h
    split at h <;> simp_all
theorem Rd.bool (ht : P.underlying t = some .bool) (h : Rd P W t cs) : ∃ b, cs = [.bool b] := by
  obtain ⟨H, enc, fuel, x, h⟩ := h
  cases fuel with
  | zero => simp [DataW.trod] at h
  | succ n =>
    unfold DataW.trod at h
    rw [ht] at h
    split at h <;> simp_all
theorem Rd.string (ht : P.underlying t = some .string) (h : Rd P W t cs) : ∃ s, cs = [.string s] ∧ s.size ≤ maxLen := by
  obtain ⟨H, enc, fuel, x, h⟩ := h
  cases fuel with
  | zero => simp [DataW.trod] at h
  | succ n =>
    unfold DataW.trod at h
    rw [ht] at h
    split at h <;> simp_all
theorem Rd.field {fs : Array Field} (ht : P.underlying t = some (.struct fs)) (h : Rd P W t cs) :
    cs.length = P.cellsOf t ∧ ∀ (i : Nat) (f : Field), fs[i]? = some f → Rd P W f.type ((cs.drop f.offset).take (P.cellsOf f.type)) := by
  obtain ⟨H, enc, fuel, x, h⟩ := h
  obtain ⟨xs, n, _, _, h1, h2, h3⟩ := DataW.trod_struct ht h
  refine ⟨h1, fun i f hf => ?_⟩
  have h4 := h3 i f hf
  have hi : i < xs.length := by
    rw [h2]
    exact (Array.getElem?_eq_some_iff.1 hf).1
  rw [List.getElem?_eq_getElem hi] at h4
  exact ⟨H, enc, n, _, h4⟩
theorem Rd.array {n : Nat} (ht : P.underlying t = some (.array n e)) (h : Rd P W t cs) :
    cs.length = P.cellsOf t ∧ ∀ i, i < n → Rd P W e ((cs.drop (i * P.cellsOf e)).take (P.cellsOf e)) := by
  obtain ⟨H, enc, fuel, x, h⟩ := h
  cases fuel with
  | zero => simp [DataW.trod] at h
  | succ m =>
    unfold DataW.trod at h
    rw [ht] at h
    simp only at h
    by_cases hl : cs.length = P.cellsOf t
    · rw [if_pos hl] at h
      refine ⟨hl, fun i hi => ?_⟩
      obtain ⟨xs, hx, -⟩ := Option.map_eq_some_iff.1 h
      have : ∀ (l : List Nat) (ys : List (DataW H × List MemPlace)), l.mapM (fun i => DataW.trod enc P W 0 (fun _ => true) true m e ((cs.drop (i * P.cellsOf e)).take (P.cellsOf e))) = some ys → ∀ i ∈ l, ∃ y, DataW.trod enc P W 0 (fun _ => true) true m e ((cs.drop (i * P.cellsOf e)).take (P.cellsOf e)) = some y := by
        intro l
        induction l with
        | nil => intro ys _ i hi; cases hi
        | cons j l ih =>
          intro ys hy i hi
          simp only [List.mapM_cons, Option.bind_eq_bind, Option.bind_eq_some_iff] at hy
          obtain ⟨y, hy1, zs, hz, _⟩ := hy
          rcases List.mem_cons.1 hi with rfl | hi
          · exact ⟨y, hy1⟩
          · exact ih zs hz i hi
      obtain ⟨y, hy⟩ := this _ _ hx i (List.mem_range.2 hi)
      exact ⟨H, enc, m, y, hy⟩
    · rw [if_neg hl] at h; cases h
theorem cells_len {a : Addr} {n : Nat} {r : List Value} (h : W.cells? 0 a n = some r) : r.length = n ∧ ∀ (j : Nat) (u : Value), r[j]? = some u → W.cell? (a.add j) = some u := by
  unfold World.cells? at h
  rw [if_pos (Nat.zero_le _)] at h
  have key : ∀ (l : List Nat) (r : List Value), l.mapM (fun i => W.cell? (a.add i)) = some r → r.length = l.length ∧ ∀ (j : Nat) (u : Value), r[j]? = some u → ∃ i, l[j]? = some i ∧ W.cell? (a.add i) = some u := by
    intro l
    induction l with
    | nil => intro r hr; simp at hr; subst hr; simp
    | cons i l ih =>
      intro r hr
      simp only [List.mapM_cons, Option.bind_eq_bind, Option.bind_eq_some_iff] at hr
      obtain ⟨y, hy, ys, hys, hr⟩ := hr
      obtain rfl : y :: ys = r := by simpa using hr
      obtain ⟨h1, h2⟩ := ih ys hys
      refine ⟨by simp [h1], fun j u hu => ?_⟩
      cases j with
      | zero =>
        obtain rfl : y = u := by simpa using hu
        exact ⟨i, rfl, hy⟩
      | succ j =>
        obtain ⟨i', h3, h4⟩ := h2 j u (by simpa using hu)
        exact ⟨i', by simpa using h3, h4⟩
  obtain ⟨h1, h2⟩ := key _ r h
  refine ⟨by simpa using h1, fun j u hu => ?_⟩
  obtain ⟨i, h3, h4⟩ := h2 j u hu
  have hj : j < n := by
    have := (List.getElem?_eq_some_iff.1 hu).1
    simp at h1
    omega
  rw [List.getElem?_range hj] at h3
  obtain rfl : j = i := by simpa using h3
  exact h4
theorem Rd.slice (ht : P.underlying t = some (.slice e)) (h : Rd P W t cs) :
    cs = [.slice none 0 0] ∨ ∃ (a : Addr) (len cap : Nat) (rows : List (List Value)), cs = [.slice (some a) len cap] ∧ len ≤ cap ∧ cap ≤ maxLen ∧ rows.length = len ∧
      ∀ i r, rows[i]? = some r → W.cells? 0 (a.add (i * P.cellsOf e)) (P.cellsOf e) = some r ∧ Rd P W e r := by
  obtain ⟨H, enc, fuel, x, h⟩ := h
  rcases DataW.trod_slice ht h with ⟨h1, _⟩ | ⟨a, len, cap, elems, rest, n, _, h1, _, _, h2, h3, h4, h5, _⟩
  · exact .inl h1
  · refine .inr ⟨a, len, cap, (List.range len).map fun i => (W.cells? 0 (a.add (i * P.cellsOf e)) (P.cellsOf e)).getD [], h1, h2, h3, by simp, fun i r hr => ?_⟩
    rw [List.getElem?_map] at hr
    obtain ⟨i', hi', hr⟩ := Option.map_eq_some_iff.1 hr
    have hi : i < len := by
      have := (List.getElem?_eq_some_iff.1 hi').1
      simpa using this
    rw [List.getElem?_range hi] at hi'
    obtain rfl : i = i' := by simpa using hi'
    have h6 := h5 i hi
    rw [List.getElem?_eq_getElem (by omega)] at h6
    obtain ⟨r', h7, h8⟩ := Option.bind_eq_some_iff.1 h6
    rw [h7] at hr
    obtain rfl : r' = r := by simpa using hr
    exact ⟨h7, H, enc, n, _, h8⟩

theorem addr_none {a : Addr} {j : Nat} {u : Value} (hj : a.spot.isSome = true → 0 < j) (h : W.cell? (a.add j) = some u) : True := trivial

/-- a slice whose elements decode -/
theorem Rd.rows {α : Type} {A : Option Addr} {n c : Nat} (enc : α → List Value) (Good : α → Prop) (ht : P.underlying t = some (.slice e)) (hpos : 0 < P.cellsOf e)
    (dec : ∀ r, Rd P W e r → ∃ x, r = enc x ∧ Good x) (hsz : ∀ x, (enc x).length = P.cellsOf e) (h : Rd P W t [.slice A n c]) :
    ∃ xs : List α, xs.length = n ∧ n ≤ c ∧ c ≤ maxLen ∧ (∀ x ∈ xs, Good x) ∧ Sl W A (xs.flatMap enc) := by
  rcases Rd.slice ht h with h1 | ⟨a, len, cap, rows, h1, h2, h3, h4, h5⟩
  · simp only [List.cons.injEq, Value.slice.injEq, and_true] at h1
    obtain ⟨rfl, rfl, rfl⟩ := h1
    exact ⟨[], rfl, Nat.le_refl _, Nat.zero_le _, by simp, fun hp => by simp at hp⟩
  · simp only [List.cons.injEq, Value.slice.injEq, and_true] at h1
    obtain ⟨rfl, rfl, rfl⟩ := h1
    have key : ∀ (l : List (List Value)), (∀ r ∈ l, Rd P W e r) → ∃ xs : List α, l = xs.map enc ∧ ∀ x ∈ xs, Good x := by
      intro l
      induction l with
      | nil => intro _; exact ⟨[], rfl, by simp⟩
      | cons r l ih =>
        intro hl
        obtain ⟨x, rfl, hx⟩ := dec r (hl r (by simp))
        obtain ⟨xs, rfl, hxs⟩ := ih (fun r hr => hl r (by simp [hr]))
        exact ⟨x :: xs, rfl, fun y hy => by
          rcases List.mem_cons.1 hy with rfl | hy
          · exact hx
          · exact hxs y hy⟩
    obtain ⟨xs, hxs, hG⟩ := key rows (fun r hr => by
      obtain ⟨i, hi⟩ := List.getElem?_of_mem hr
      exact (h5 i r hi).2)
    have hlen : xs.length = n := by rw [← h4, hxs, List.length_map]
    refine ⟨xs, hlen, h2, h3, hG, fun hp => ?_⟩
    -- the cells, one by one
    have hcell : ∀ (i : Nat) (x : α), xs[i]? = some x → ∀ (j : Nat) (u : Value), (enc x)[j]? = some u → W.cell? ((a.add (i * P.cellsOf e)).add j) = some u := by
      intro i x hx j u hu
      have hr : rows[i]? = some (enc x) := by
        rw [hxs, List.getElem?_map, hx]
        rfl
      exact (cells_len (h5 i _ hr).1).2 j u hu
    have hn0 : 0 < n := by
      rw [← hlen]
      cases xs with
      | nil => simp at hp
      | cons x xs => simp
    -- the address has no spot
    have hspot : a.spot = none := by
      have hx0 : xs[0]? = some (xs[0]'(by omega)) := List.getElem?_eq_getElem (by omega)
      have hl0 := hsz (xs[0]'(by omega))
      have := hcell 0 _ hx0 0 _ (List.getElem?_eq_getElem (by omega))
      have e0 : (a.add (0 * P.cellsOf e)).add 0 = a := by simp [Addr.add]
      rw [e0] at this
      unfold World.cell? at this
      split at this
      · cases hs : a.spot with
        | none => rfl
        | some s => simp [hs] at this
      · cases this
    obtain ⟨b, off, sp⟩ := a
    simp only at hspot
    subst hspot
    have hadd : ∀ o m, (⟨b, o, none⟩ : Addr).add m = ⟨b, o + m, none⟩ := fun o m => by
      unfold Addr.add
      split
      · rename_i h; rw [h]; rfl
      · rfl
    have hall : ∀ (ys : List α) (i : Nat), (∀ j, j < ys.length → xs[i + j]? = ys[j]?) → i + ys.length ≤ n → ∀ m u, (ys.flatMap enc)[m]? = some u → W.cell? ⟨b, off + (i * P.cellsOf e + m), none⟩ = some u := by
      intro ys
      induction ys with
      | nil => intro i _ _ m u hu; simp at hu
      | cons y ys ih =>
        intro i hy hle m u hu
        simp only [List.length_cons] at hle
        rw [List.flatMap_cons] at hu
        have hyl := hsz y
        by_cases hm : m < P.cellsOf e
        · rw [List.getElem?_append_left (by omega)] at hu
          have h0 := hy 0 (by simp)
          simp at h0
          have := hcell i y h0 m u hu
          rw [hadd, hadd] at this
          rw [← Nat.add_assoc]
          exact this
        · rw [List.getElem?_append_right (by omega), hyl] at hu
          have := ih (i + 1) (fun j hj => by
            have := hy (j + 1) (by simp; omega)
            rw [show i + 1 + j = i + (j + 1) from by omega, this]
            simp) (by omega) (m - P.cellsOf e) u hu
          rw [Nat.add_mul, Nat.one_mul] at this
          rw [show i * P.cellsOf e + m = i * P.cellsOf e + P.cellsOf e + (m - P.cellsOf e) from by omega]
          exact this
    have hfin := hall xs 0 (fun j _ => by simp) (by omega)
    simp only [Nat.zero_mul, Nat.zero_add] at hfin
    refine ⟨b, off, rfl, ?_, fun j u hu => hfin j u hu⟩
    have hpp : 0 < (xs.flatMap enc).length := hp
    have := hfin 0 _ (List.getElem?_eq_getElem hpp)
    exact World.block_lt_of_cell? _ _ this
theorem list1 {α : Type} {l : List α} (h : l.length = 1) : ∃ a, l = [a] := by
  match l, h with
  | [a], _ => exact ⟨a, rfl⟩
theorem list2 {α : Type} {l : List α} (h : l.length = 2) : ∃ a b, l = [a, b] := by
  match l, h with
  | [a, b], _ => exact ⟨a, b, rfl⟩
theorem list3 {α : Type} {l : List α} (h : l.length = 3) : ∃ a b c, l = [a, b, c] := by
  match l, h with
  | [a, b, c], _ => exact ⟨a, b, c, rfl⟩
theorem list4 {α : Type} {l : List α} (h : l.length = 4) : ∃ a b c d, l = [a, b, c, d] := by
  match l, h with
  | [a, b, c, d], _ => exact ⟨a, b, c, d, rfl⟩
theorem list5 {α : Type} {l : List α} (h : l.length = 5) : ∃ a b c d e, l = [a, b, c, d, e] := by
  match l, h with
  | [a, b, c, d, e], _ => exact ⟨a, b, c, d, e, rfl⟩
theorem list6 {α : Type} {l : List α} (h : l.length = 6) : ∃ a b c d e f, l = [a, b, c, d, e, f] := by
  match l, h with
  | [a, b, c, d, e, f], _ => exact ⟨a, b, c, d, e, f, rfl⟩
theorem wf_bd {n : Int} (h : (Lit.int k n).wf = true) : k.min ≤ n ∧ n ≤ k.max := by
  simpa [Lit.wf] using h
theorem wf_u8 {n : Int} (h : (Lit.int .u8 n).wf = true) : 0 ≤ n ∧ n ≤ 255 := wf_bd h
theorem wf_i64 {n : Int} (h : (Lit.int .i64 n).wf = true) : -9223372036854775808 ≤ n ∧ n ≤ 9223372036854775807 := wf_bd h
theorem wf_u64 {n : Int} (h : (Lit.int .u64 n).wf = true) : 0 ≤ n ∧ n ≤ 18446744073709551615 := wf_bd h
end Go.Proofs.Ythncbdoiilgnhaa
