/- Part 7 of the proofs that lead to the statement. -/
import Derived.Test.YthdhobnkclddhaaY6
import Derived.Test.YthdhobnkclddhaaRows
import Derived.WalkKit
import Derived.ProofKit
import Derived.OpenShut
import Derived.ShutString
import Derived.ChangeOld
import Derived.Below
/- Buckets: the examples of the chapter. -/
namespace Go.Proofs.Ythdhobnkclddhaa
open Go.RowKit
set_option linter.unusedSimpArgs false
set_option linter.unusedVariables false
--newlaws

def ka : LgV := ⟨1, 2, 10, 100, 0⟩
def kb : LgV := ⟨2, 1, 5, 20, 0⟩
def kw (p q t : Int) : BkV := ⟨[ka, kb], [p, q], t⟩
theorem kw_ok {p q t : Int} (h1 : 0 ≤ p ∧ p ≤ 100) (h2 : 0 ≤ q ∧ q ≤ 20) (h3 : 0 ≤ t ∧ t < 1073741824) : (kw p q t).ok := by
  refine ⟨show okSet [ka, kb] by decide, rfl, fun i hi => ?_, h3⟩
  have : i = 0 ∨ i = 1 := by
    have : i < 2 := hi
    omega
  rcases this with rfl | rfl
  · exact h1
  · exact h2
theorem ktick : tickV (kw 0 0 0) 4 = (kw 40 20 4, 0) := by decide
theorem kdiv1 : divV (kw 40 20 4) 50 [100, 100] = (kw 10 0 4, [30, 20], 0) := by decide
theorem kdiv2 : divV (kw 10 0 4) 50 [100, 100] = (kw 0 0 4, [10, 40], 0) := by decide
theorem ktick2 : tickV (kw 0 0 4) 3 = (kw 0 0 4, 2) := by decide
theorem kdiv3 : divV (kw 0 0 4) 1 [0] = (kw 0 0 4, [], 2) := by decide
theorem wk25_new (A : Option Addr) (n c : Nat) (ls : List LgV) (w : World) (hx : Sl w A (ls.flatMap LgV.cells)) (hl : ls.length = n) (hn : n ≤ 1000) (hc : n ≤ c) (h : okSet ls) :
    Calls Try.prog 9 #[.slice A n c] w (SX.Ret fun v w' => ∃ g sv so, v = .tuple #[.pointer (some ⟨g, 0, none⟩), .int .i64 0] ∧ SX.St w [] w' (bkE g sv so (newB ls))) := by
  have := bk_new A n c ls w hx hl hn hc
  simp only [if_pos h] at this
  exact this
theorem wk25_bad (A : Option Addr) (n c : Nat) (ls : List LgV) (w : World) (hx : Sl w A (ls.flatMap LgV.cells)) (hl : ls.length = n) (hn : n ≤ 1000) (hc : n ≤ c) (h : ¬ okSet ls) :
    Calls Try.prog 9 #[.slice A n c] w (SX.Ret fun v w' => v = .tuple #[.pointer none, .int .i64 2] ∧ SX.St w [] w' []) := by
  have := bk_new A n c ls w hx hl hn hc
  simp only [if_neg h] at this
  exact this
theorem wk25_tick (g : Nat) (sv so : Value) (m : BkV) (t : Int) (r : BkV × Int) (w : World) (hs : SX.St w (SX.idsOf (bkE g sv so m)) w (bkE g sv so m)) (hm : m.ok) (he : tickV m t = r) :
    Calls Try.prog 14 #[.pointer (some ⟨g, 0, none⟩), .int .i64 t] w (SX.Ret fun v w' => v = .int .i64 r.2 ∧ SX.St w (SX.idsOf (bkE g sv so m)) w' (bkE g sv so r.1)) := by
  subst he
  exact bk_tick g sv so m t w hs hm
theorem wk25_div (g : Nat) (sv so : Value) (m : BkV) (size : Int) (A : Option Addr) (nd cd : Nat) (dem : List Int) (r : BkV × List Int × Int) (w : World) (hs : SX.St w (SX.idsOf (bkE g sv so m)) w (bkE g sv so m)) (hm : m.ok)
    (hd : Sx w (SX.idsOf (bkE g sv so m)) A (ints .i64 dem)) (hdl : dem.length = nd) (he : divV m size dem = r) :
    Calls Try.prog 18 #[.pointer (some ⟨g, 0, none⟩), .int .i64 size, .slice A nd cd] w (SX.Ret fun v w' => ∃ oa oc, v = .tuple #[.slice oa r.2.1.length oc, .int .i64 r.2.2] ∧ SX.St w (SX.idsOf (bkE g sv so m)) w' (SX.Ent.row (.slice oa r.2.1.length oc) 3 1 r.2.1.length (ints .i64 r.2.1) :: bkE g sv so r.1)) := by
  subst he
  refine (bk_divide g sv so m size A nd cd dem w hs hm hd hdl).mono ?_
  rintro e w' ⟨v, h1, ov, rfl, h3⟩
  obtain ⟨oa, oc, rfl, -, -, -⟩ := SX.row_slv h3 (j := 0) rfl
  exact ⟨_, h1, oa, oc, rfl, h3⟩
theorem wk25_lev (g : Nat) (m : BkV) (id n : Int) (has : Bool) (w : World) (hr : BkR w g m) (hm : m.ok) (he : lvV m id = (n, has)) : Calls Try.prog 24 #[.pointer (some ⟨g, 0, none⟩), .int .i64 id, .int .i64 n, .bool has] w (SX.Ret fun v w' => v = .bool true ∧ SX.St w [] w' []) := by
  have := bk_lev g m id n has w hr hm
  rw [decide_eq_true he] at this
  exact this
theorem bkE_sub {g : Nat} {sv so : Value} {m : BkV} {L : List SX.Ent} : ∀ e ∈ bkE g sv so m, e ∈ bkE g sv so m ++ L := fun e h => List.mem_append_left _ h
/-- a block of ours reads asz a slice beside what is lent -/
theorem blk_lent {w0 w : World} {M : List Nat} {L1 L2 : List SX.Ent} {g T : Nat} {cs : Array Value} (hs : SX.St w0 M w (L1 ++ L2)) (hm : SX.Ent.blk g T cs ∈ L2) : Sx w (SX.idsOf L1) (some ⟨g, 0, none⟩) cs.toList := fun hp => by
  have hb : w.heap[g]? = some (.cells cs T (0, 0)) := hs.ok _ (List.mem_append_right _ hm)
  refine ⟨g, 0, rfl, SX.lt_of_some hb, fun hin => ?_, fun i u hu => ?_⟩
  · have hn := hs.nodup
    simp only [SX.idsOf, List.flatMap_append] at hn
    exact (List.nodup_append.1 hn).2.2 g hin g (List.mem_flatMap.2 ⟨_, hm, by simp [SX.Ent.blk, SX.Ent.obj]⟩) rfl
  · rw [SX.cell_blk hb]
    simpa using hu
set_option maxHeartbeats 1000000 in
set_option maxRecDepth 100000 in
theorem works25 (w : World) : Calls Try.prog 8 #[] w (SX.Ret fun v w' => v = .bool true ∧ SX.St w [] w' []) := by
  have hs := SX.St.start w
  have o0 : (kw 0 0 0).ok := kw_ok (by omega) (by omega) (by omega)
  have o1 : (kw 40 20 4).ok := kw_ok (by omega) (by omega) (by omega)
  have o2 : (kw 10 0 4).ok := kw_ok (by omega) (by omega) (by omega)
  have o3 : (kw 0 0 4).ok := kw_ok (by omega) (by omega) (by omega)
  refine Z.enter Try.func8 rfl Try.ntmps8 rfl rfl ?_
  refine Z.seq ?_
  refine Z.region ?_
  refine Z.lb 1 rfl ?_
  refine Z.lnil ?_
  refine Z.only [] rfl ?_
  refine Z.nthen ?_
  refine Z.seq ?_
  refine Z.region ?_
  refine Z.l rfl rfl (by rfl) (Z.keepS hs) (Z.Yd.buildL [(0, 1), (1, 1), (2, 1), (3, 1), (4, 1)] [.int .i64 0, .int .i64 0, .int .i64 0, .int .i64 0, .int .i64 0] rfl rfl (by intro w; kernel_rfl)) ?_
  refine Z.l rfl rfl (by rfl) (Z.keepS hs) (Z.Yd.buildL [(0, 1), (1, 1), (2, 1), (3, 1), (4, 1)] [.int .i64 0, .int .i64 0, .int .i64 0, .int .i64 0, .int .i64 0] rfl rfl (by intro w; kernel_rfl)) ?_
  refine Z.le rfl trivial ?_
  refine Z.ZO.alloc rfl rfl (by rfl) Try.zeroValue38 rfl hs ?_
  clear hs; intro g1 w1 hs
  refine Z.le rfl trivial ?_
  refine Z.ZO.alloc rfl rfl (by rfl) Try.zeroValue38 rfl hs ?_
  clear hs; intro g2 w2 hs
  refine Z.le rfl trivial ?_
  first | refine Z.ZO.storeA rfl rfl hs rfl rfl (by kernel_rfl) (by first | (simp [Value.oneCell']; done) | (refine Z.all_one ?_; assumption)) (by first | exact SX.at0 | exact SX.at1 | exact SX.at2 | exact SX.at3 | exact SX.at4 | exact SX.at5 | exact Z.at6 | exact Z.at7 | exact Z.at8 | exact Z.at9 | exact Z.at10 | exact Z.at11 | exact Z.at12) (by rfl) ?_ | refine Z.ZO.storeP rfl rfl hs rfl rfl (by kernel_rfl) (by first | (simp [Value.oneCell']; done) | (refine Z.all_one ?_; assumption)) (by first | exact SX.at0 | exact SX.at1 | exact SX.at2 | exact SX.at3 | exact SX.at4 | exact SX.at5 | exact Z.at6 | exact Z.at7 | exact Z.at8 | exact Z.at9 | exact Z.at10 | exact Z.at11 | exact Z.at12) (by first | decide | (simp; done) | (simp; omega)) ?_ | refine Z.ZO.storePR rfl rfl hs rfl rfl (by kernel_rfl) (by first | (simp [Value.oneCell']; done) | (refine Z.all_one ?_; assumption)) (by first | exact SX.at0 | exact SX.at1 | exact SX.at2 | exact SX.at3 | exact SX.at4 | exact SX.at5 | exact Z.at6 | exact Z.at7 | exact Z.at8 | exact Z.at9 | exact Z.at10 | exact Z.at11 | exact Z.at12) (by first | decide | (simp; done) | (simp; omega)) ?_
  clear hs; intro ws hs
  simp only [Nat.zero_add, Nat.add_zero, Nat.reduceAdd, Int.reduceToNat, Nat.reduceMul, List.set_cons_zero, List.set_cons_succ, List.setIfInBounds_toArray] at hs
  try simp only [Z.putL, Nat.zero_add] at hs
  refine Z.le rfl trivial ?_
  first | refine Z.ZO.storeA rfl rfl hs rfl rfl (by kernel_rfl) (by first | (simp [Value.oneCell']; done) | (refine Z.all_one ?_; assumption)) (by first | exact SX.at0 | exact SX.at1 | exact SX.at2 | exact SX.at3 | exact SX.at4 | exact SX.at5 | exact Z.at6 | exact Z.at7 | exact Z.at8 | exact Z.at9 | exact Z.at10 | exact Z.at11 | exact Z.at12) (by rfl) ?_ | refine Z.ZO.storeP rfl rfl hs rfl rfl (by kernel_rfl) (by first | (simp [Value.oneCell']; done) | (refine Z.all_one ?_; assumption)) (by first | exact SX.at0 | exact SX.at1 | exact SX.at2 | exact SX.at3 | exact SX.at4 | exact SX.at5 | exact Z.at6 | exact Z.at7 | exact Z.at8 | exact Z.at9 | exact Z.at10 | exact Z.at11 | exact Z.at12) (by first | decide | (simp; done) | (simp; omega)) ?_ | refine Z.ZO.storePR rfl rfl hs rfl rfl (by kernel_rfl) (by first | (simp [Value.oneCell']; done) | (refine Z.all_one ?_; assumption)) (by first | exact SX.at0 | exact SX.at1 | exact SX.at2 | exact SX.at3 | exact SX.at4 | exact SX.at5 | exact Z.at6 | exact Z.at7 | exact Z.at8 | exact Z.at9 | exact Z.at10 | exact Z.at11 | exact Z.at12) (by first | decide | (simp; done) | (simp; omega)) ?_
  clear hs; intro ws hs
  simp only [Nat.zero_add, Nat.add_zero, Nat.reduceAdd, Int.reduceToNat, Nat.reduceMul, List.set_cons_zero, List.set_cons_succ, List.setIfInBounds_toArray] at hs
  try simp only [Z.putL, Nat.zero_add] at hs
  refine Z.lnil ?_
  refine Z.only [1, 2] rfl ?_
  refine Z.nthen ?_
  refine Z.seq ?_
  refine Z.region ?_
  refine Z.l rfl rfl (by rfl) (Z.keepS hs) (by first | exact Z.Yd.loadA _ rfl Try.isAgg38 (fun _ => Z.cellsB (by first | ((repeat (first | exact List.mem_cons_self | refine List.mem_cons_of_mem _ ?_ | refine List.mem_append_right _ ?_)); done) | fail)) (by exact Try.sizeOf38) | fail "load 2.0") ?_
  refine Z.l rfl rfl (by rfl) (Z.keepS hs) (by first | exact Z.Yd.loadA _ rfl Try.isAgg38 (fun _ => Z.cellsB (by first | ((repeat (first | exact List.mem_cons_self | refine List.mem_cons_of_mem _ ?_ | refine List.mem_append_right _ ?_)); done) | fail)) (by exact Try.sizeOf38) | fail "load 2.1") ?_
  refine Z.le rfl trivial ?_
  refine Z.ZO.litL (T' := 38) [(0, 5), (5, 5)] [.int .i64 0, .int .i64 0, .int .i64 0, .int .i64 0, .int .i64 0, .int .i64 0, .int .i64 0, .int .i64 0, .int .i64 0, .int .i64 0] rfl rfl (by rfl) rfl rfl (by intro W; kernel_rfl) hs ?_
  clear hs; intro g22 w22 hs
  refine Z.le rfl trivial ?_
  refine Z.ZO.call rfl rfl (by rfl) rfl rfl Try.call9 rfl (wk25_new _ _ _ [ka, kb] _ (hs.blkSl (by first | ((repeat (first | exact List.mem_cons_self | refine List.mem_cons_of_mem _ ?_ | refine List.mem_append_right _ ?_)); done) | fail)) rfl (by decide) (by decide) (by decide)) ?_
  rintro v2_3 w2_3 ⟨g, sv, so, rfl, hy⟩
  replace hs := hs.call hy
  clear hy
  try simp only [List.cons_append, List.nil_append, List.append_nil] at hs
  replace hs : SX.St w [] _ (bkE g sv so (kw 0 0 0) ++ [SX.Ent.blk g2 38 kb.cells.toArray, SX.Ent.blk g1 38 ka.cells.toArray]) := hs.sel [0, 1, 2, 4, 5] (by decide)
  refine Z.lb 5 rfl ?_
  refine Z.lnil ?_
  refine Z.only [1, 3, 4] rfl ?_
  refine Z.nthen ?_
  refine Z.seq ?_
  refine Z.region ?_
  refine Z.lb 1 rfl ?_
  refine Z.le rfl trivial ?_
  refine Z.ZO.call rfl rfl (by rfl) rfl rfl Try.call14 rfl (wk25_tick g sv so (kw 0 0 0) 4 _ _ hs.lend o0 ktick) ?_
  rintro v3_1 w3_1 ⟨rfl, hz⟩
  replace hs := hs.regain hz
  refine Z.lb 1 rfl ?_
  refine Z.lnil ?_
  refine Z.only [1, 3, 4, 5] rfl ?_
  refine Z.nthen ?_
  refine Z.seq ?_
  refine Z.seq ?_
  refine Z.region ?_
  refine Z.lb 1 rfl ?_
  refine Z.le rfl trivial ?_
  refine Z.ZO.call rfl rfl (by rfl) rfl rfl Try.call15 rfl (bk_num _ _) ?_
  rintro v4_1 w4_1 ⟨rfl, hy⟩
  replace hs := hs.call hy
  clear hy
  try simp only [List.cons_append, List.nil_append, List.append_nil] at hs
  refine Z.lb 1 rfl ?_
  refine Z.le rfl trivial ?_
  refine Z.ZO.call rfl rfl (by rfl) rfl rfl Try.call15 rfl (bk_num _ _) ?_
  rintro v4_3 w4_3 ⟨rfl, hy⟩
  replace hs := hs.call hy
  clear hy
  try simp only [List.cons_append, List.nil_append, List.append_nil] at hs
  refine Z.l rfl rfl (by rfl) (Z.keepS hs) (Z.Yd.add rfl rfl (fun hG => Z.wi64 (by first | omega | (have hG' := Z.gh rfl hG; simp at hG'; omega)))) ?_
  refine Z.lb 2 rfl ?_
  refine Z.yes (s := 34) (b := false) rfl ((by simp)) rfl ?_
  refine Z.lb 1 rfl ?_
  refine Z.yes (s := 34) (b := false) rfl rfl rfl ?_
  refine Z.le rfl (by exact ⟨rfl, trivial⟩) ?_
  refine Z.ZO.call rfl rfl (by rfl) rfl rfl Try.call24 rfl (wk25_lev g (kw 40 20 4) 1 40 true _ (hs.bkR bkE_sub) o1 (by decide)) ?_
  rintro v4_8 w4_8 ⟨rfl, hy⟩
  replace hs := hs.call hy
  clear hy
  try simp only [List.cons_append, List.nil_append, List.append_nil] at hs
  refine Z.lb 1 rfl ?_
  refine Z.yes (s := 34) (b := false) rfl rfl rfl ?_
  refine Z.l rfl rfl (by rfl) (Z.keepS hs) (Z.Yd.pickF rfl rfl) ?_
  refine Z.lb 1 rfl ?_
  refine Z.yes (s := 39) (b := false) rfl ((by simp)) rfl ?_
  refine Z.lb 1 rfl ?_
  refine Z.yes (s := 39) (b := false) rfl rfl rfl ?_
  refine Z.le rfl (by exact ⟨rfl, trivial⟩) ?_
  refine Z.ZO.call rfl rfl (by rfl) rfl rfl Try.call24 rfl (wk25_lev g (kw 40 20 4) 2 20 true _ (hs.bkR bkE_sub) o1 (by decide)) ?_
  rintro v4_13 w4_13 ⟨rfl, hy⟩
  replace hs := hs.call hy
  clear hy
  try simp only [List.cons_append, List.nil_append, List.append_nil] at hs
  refine Z.lb 1 rfl ?_
  refine Z.yes (s := 39) (b := false) rfl rfl rfl ?_
  refine Z.l rfl rfl (by rfl) (Z.keepS hs) (Z.Yd.pickF rfl rfl) ?_
  refine Z.lb 1 rfl ?_
  refine Z.yes (s := 44) (b := false) rfl ((by simp)) rfl ?_
  refine Z.lb 1 rfl ?_
  refine Z.yes (s := 44) (b := false) rfl rfl rfl ?_
  refine Z.le rfl (by exact ⟨rfl, trivial⟩) ?_
  refine Z.ZO.call rfl rfl (by rfl) rfl rfl Try.call24 rfl (wk25_lev g (kw 40 20 4) 3 0 false _ (hs.bkR bkE_sub) o1 (by decide)) ?_
  rintro v4_18 w4_18 ⟨rfl, hy⟩
  replace hs := hs.call hy
  clear hy
  try simp only [List.cons_append, List.nil_append, List.append_nil] at hs
  refine Z.lb 1 rfl ?_
  refine Z.yes (s := 44) (b := false) rfl rfl rfl ?_
  refine Z.l rfl rfl (by rfl) (Z.keepS hs) (Z.Yd.pickF rfl rfl) ?_
  refine Z.lnil ?_
  refine Z.only [1, 3, 48] rfl ?_
  refine Z.nthen ?_
  refine Z.cond rfl (fun h => absurd h (by simp)) (fun hc4 => ?_)
  refine Z.skip ?_
  refine Z.nthen ?_
  refine Z.seq ?_
  refine Z.region ?_
  refine Z.lb 1 rfl ?_
  refine Z.le rfl trivial ?_
  refine Z.ZO.litL (T' := 3) [(0, 1), (1, 1)] [.int .i64 0, .int .i64 0] rfl rfl (by rfl) rfl rfl (by intro W; kernel_rfl) hs ?_
  clear hs; intro g51 w51 hs
  replace hs : SX.St w [] _ (bkE g sv so (kw 40 20 4) ++ [SX.Ent.blk g51 _ _, SX.Ent.blk g2 38 kb.cells.toArray, SX.Ent.blk g1 38 ka.cells.toArray]) := hs.sel [1, 2, 3, 0, 4, 5] (by decide)
  refine Z.le rfl trivial ?_
  refine Z.ZO.call rfl rfl (by rfl) rfl rfl Try.call18 rfl (wk25_div g sv so (kw 40 20 4) 50 _ _ _ [100, 100] _ _ hs.lend o1 (blk_lent hs List.mem_cons_self) rfl kdiv1) ?_
  rintro v6_2 w6_2 ⟨oa, oc, rfl, hz⟩
  replace hs := hs.regain hz
  refine Z.lb 5 rfl ?_
  refine Z.lnil ?_
  refine Z.only [1, 3, 6, 7] rfl ?_
  refine Z.nthen ?_
  refine Z.seq ?_
  refine Z.seq ?_
  refine Z.region ?_
  refine Z.lb 1 rfl ?_
  refine Z.le rfl trivial ?_
  refine Z.ZO.litL (T' := 3) [(0, 1), (1, 1)] [.int .i64 0, .int .i64 0] rfl rfl (by rfl) rfl rfl (by intro W; kernel_rfl) hs ?_
  clear hs; intro g56 w56 hs
  refine Z.le rfl trivial ?_
  refine Z.ZO.call rfl rfl (by rfl) rfl rfl Try.call26 rfl (bk_sameI oa _ _ oc _ _ [30, 20] [30, 20] _ (hs.slm (T := 3) (size := 1) (k := 2) (c := oc) (m := 2) (by simp)) (hs.blkSl (by first | ((repeat (first | exact List.mem_cons_self | refine List.mem_cons_of_mem _ ?_ | refine List.mem_append_right _ ?_)); done) | fail)) rfl rfl (by decide)) ?_
  rintro v7_2 w7_2 ⟨rfl, hy⟩
  replace hs := hs.call hy
  clear hy
  try simp only [List.cons_append, List.nil_append, List.append_nil] at hs
  refine Z.lb 2 rfl ?_
  refine Z.yes (s := 59) (b := false) rfl ((by simp)) rfl ?_
  refine Z.lb 1 rfl ?_
  refine Z.yes (s := 59) (b := false) rfl rfl rfl ?_
  refine Z.le rfl (by exact ⟨rfl, trivial⟩) ?_
  refine Z.ZO.call rfl rfl (by rfl) rfl rfl Try.call15 rfl (bk_num _ _) ?_
  rintro v7_6 w7_6 ⟨rfl, hy⟩
  replace hs := hs.call hy
  clear hy
  try simp only [List.cons_append, List.nil_append, List.append_nil] at hs
  refine Z.lb 1 rfl ?_
  refine Z.yes (s := 59) (b := false) rfl rfl rfl ?_
  refine Z.l rfl rfl (by rfl) (Z.keepS hs) (Z.Yd.pickF rfl rfl) ?_
  refine Z.lb 1 rfl ?_
  refine Z.yes (s := 64) (b := false) rfl ((by simp)) rfl ?_
  refine Z.lb 1 rfl ?_
  replace hs : SX.St w [] _ (bkE g sv so (kw 10 0 4) ++ [SX.Ent.blk g2 38 kb.cells.toArray, SX.Ent.blk g1 38 ka.cells.toArray]) := hs.sel [2, 3, 4, 6, 7] (by decide)
  refine Z.yes (s := 64) (b := false) rfl rfl rfl ?_
  refine Z.le rfl (by exact ⟨rfl, trivial⟩) ?_
  refine Z.ZO.call rfl rfl (by rfl) rfl rfl Try.call24 rfl (wk25_lev g (kw 10 0 4) 1 10 true _ (hs.bkR bkE_sub) o2 (by decide)) ?_
  rintro v7_11 w7_11 ⟨rfl, hy⟩
  replace hs := hs.call hy
  clear hy
  try simp only [List.cons_append, List.nil_append, List.append_nil] at hs
  refine Z.lb 1 rfl ?_
  refine Z.yes (s := 64) (b := false) rfl rfl rfl ?_
  refine Z.l rfl rfl (by rfl) (Z.keepS hs) (Z.Yd.pickF rfl rfl) ?_
  refine Z.lb 1 rfl ?_
  refine Z.yes (s := 69) (b := false) rfl ((by simp)) rfl ?_
  refine Z.lb 1 rfl ?_
  refine Z.yes (s := 69) (b := false) rfl rfl rfl ?_
  refine Z.le rfl (by exact ⟨rfl, trivial⟩) ?_
  refine Z.ZO.call rfl rfl (by rfl) rfl rfl Try.call24 rfl (wk25_lev g (kw 10 0 4) 2 0 true _ (hs.bkR bkE_sub) o2 (by decide)) ?_
  rintro v7_16 w7_16 ⟨rfl, hy⟩
  replace hs := hs.call hy
  clear hy
  try simp only [List.cons_append, List.nil_append, List.append_nil] at hs
  refine Z.lb 1 rfl ?_
  refine Z.yes (s := 69) (b := false) rfl rfl rfl ?_
  refine Z.l rfl rfl (by rfl) (Z.keepS hs) (Z.Yd.pickF rfl rfl) ?_
  refine Z.lnil ?_
  refine Z.only [1, 3, 73] rfl ?_
  refine Z.nthen ?_
  refine Z.cond rfl (fun h => absurd h (by simp)) (fun hc7 => ?_)
  refine Z.skip ?_
  refine Z.nthen ?_
  refine Z.seq ?_
  refine Z.region ?_
  refine Z.lb 1 rfl ?_
  refine Z.le rfl trivial ?_
  refine Z.ZO.litL (T' := 3) [(0, 1), (1, 1)] [.int .i64 0, .int .i64 0] rfl rfl (by rfl) rfl rfl (by intro W; kernel_rfl) hs ?_
  clear hs; intro g76 w76 hs
  replace hs : SX.St w [] _ (bkE g sv so (kw 10 0 4) ++ (SX.Ent.blk g76 _ _ :: [SX.Ent.blk g2 38 kb.cells.toArray, SX.Ent.blk g1 38 ka.cells.toArray])) := hs.sel [1, 2, 3, 0, 4, 5] (by decide)
  refine Z.le rfl trivial ?_
  refine Z.ZO.call rfl rfl (by rfl) rfl rfl Try.call18 rfl (wk25_div g sv so (kw 10 0 4) 50 _ _ _ [100, 100] _ _ hs.lend o2 (blk_lent hs List.mem_cons_self) rfl kdiv2) ?_
  rintro v9_2 w9_2 ⟨oa2, oc2, rfl, hz⟩
  replace hs := hs.regain hz
  replace hs : SX.St w [] _ (bkE g sv so (kw 0 0 4) ++ (SX.Ent.row _ _ _ _ _ :: [SX.Ent.blk g2 38 kb.cells.toArray, SX.Ent.blk g1 38 ka.cells.toArray])) := hs.sel [1, 2, 3, 0, 5, 6] (by decide)
  refine Z.lb 5 rfl ?_
  refine Z.lnil ?_
  refine Z.only [1, 3, 8, 9] rfl ?_
  refine Z.nthen ?_
  refine Z.seq ?_
  refine Z.region ?_
  refine Z.lb 1 rfl ?_
  refine Z.le rfl trivial ?_
  refine Z.ZO.call rfl rfl (by rfl) rfl rfl Try.call14 rfl (wk25_tick g sv so (kw 0 0 4) 3 _ _ hs.lend o3 ktick2) ?_
  rintro v10_1 w10_1 ⟨rfl, hz⟩
  replace hs := hs.regain hz
  refine Z.lb 1 rfl ?_
  refine Z.lnil ?_
  refine Z.only [1, 3, 8, 9, 10] rfl ?_
  refine Z.nthen ?_
  refine Z.seq ?_
  refine Z.region ?_
  refine Z.lb 1 rfl ?_
  refine Z.le rfl trivial ?_
  refine Z.ZO.litL (T' := 3) [(0, 1)] [.int .i64 0] rfl rfl (by rfl) rfl rfl (by intro W; kernel_rfl) hs ?_
  clear hs; intro g84 w84 hs
  replace hs : SX.St w [] _ (bkE g sv so (kw 0 0 4) ++ (SX.Ent.blk g84 _ _ :: SX.Ent.row _ _ _ _ _ :: [SX.Ent.blk g2 38 kb.cells.toArray, SX.Ent.blk g1 38 ka.cells.toArray])) := hs.sel [1, 2, 3, 0, 4, 5, 6] (by decide)
  refine Z.le rfl trivial ?_
  refine Z.ZO.call rfl rfl (by rfl) rfl rfl Try.call18 rfl (wk25_div g sv so (kw 0 0 4) 1 _ _ _ [0] _ _ hs.lend o3 (blk_lent hs List.mem_cons_self) rfl kdiv3) ?_
  rintro v11_2 w11_2 ⟨oa3, oc3, rfl, hz⟩
  replace hs := hs.regain hz
  replace hs : SX.St w [] _ (SX.Ent.row (.slice oa2 2 oc2) 3 1 2 (ints .i64 [10, 40]) :: [SX.Ent.blk g2 38 kb.cells.toArray, SX.Ent.blk g1 38 ka.cells.toArray]) := hs.sel [5, 6, 7] (by decide)
  refine Z.lb 5 rfl ?_
  refine Z.lnil ?_
  refine Z.only [1, 8, 9, 10, 12] rfl ?_
  refine Z.nthen ?_
  refine Z.seq ?_
  refine Z.region ?_
  refine Z.le rfl trivial ?_
  refine Z.ZO.call rfl rfl (by rfl) rfl rfl Try.call9 rfl (wk25_bad none 0 0 [] _ sl_nil rfl (by decide) (by decide) (by decide)) ?_
  rintro v12_0 w12_0 ⟨rfl, hy⟩
  replace hs := hs.call hy
  clear hy
  try simp only [List.cons_append, List.nil_append, List.append_nil] at hs
  refine Z.lb 5 rfl ?_
  refine Z.lnil ?_
  refine Z.only [1, 8, 9, 10, 12, 14] rfl ?_
  refine Z.nthen ?_
  refine Z.seq ?_
  refine Z.region ?_
  refine Z.l rfl rfl (by rfl) (Z.keepS hs) (by first | exact Z.Yd.loadA _ rfl Try.isAgg38 (fun _ => Z.cellsB (by first | ((repeat (first | exact List.mem_cons_self | refine List.mem_cons_of_mem _ ?_ | refine List.mem_append_right _ ?_)); done) | fail)) (by exact Try.sizeOf38) | fail "load 13.0") ?_
  refine Z.l rfl rfl (by rfl) (Z.keepS hs) (by first | exact Z.Yd.loadA _ rfl Try.isAgg38 (fun _ => Z.cellsB (by first | ((repeat (first | exact List.mem_cons_self | refine List.mem_cons_of_mem _ ?_ | refine List.mem_append_right _ ?_)); done) | fail)) (by exact Try.sizeOf38) | fail "load 13.1") ?_
  refine Z.le rfl trivial ?_
  refine Z.ZO.litL (T' := 38) [(0, 5), (5, 5)] [.int .i64 0, .int .i64 0, .int .i64 0, .int .i64 0, .int .i64 0, .int .i64 0, .int .i64 0, .int .i64 0, .int .i64 0, .int .i64 0] rfl rfl (by rfl) rfl rfl (by intro W; kernel_rfl) hs ?_
  clear hs; intro g95 w95 hs
  refine Z.le rfl trivial ?_
  refine Z.ZO.call rfl rfl (by rfl) rfl rfl Try.call9 rfl (wk25_bad _ _ _ [ka, ka] _ (hs.blkSl (by first | ((repeat (first | exact List.mem_cons_self | refine List.mem_cons_of_mem _ ?_ | refine List.mem_append_right _ ?_)); done) | fail)) rfl (by decide) (by decide) (by decide)) ?_
  rintro v13_3 w13_3 ⟨rfl, hy⟩
  replace hs := hs.call hy
  clear hy
  try simp only [List.cons_append, List.nil_append, List.append_nil] at hs
  refine Z.lb 5 rfl ?_
  refine Z.lnil ?_
  refine Z.only [8, 9, 10, 12, 14, 16] rfl ?_
  refine Z.nthen ?_
  refine Z.seq ?_
  refine Z.region ?_
  refine Z.lb 1 rfl ?_
  refine Z.le rfl trivial ?_
  refine Z.ZO.litL (T' := 3) [(0, 1), (1, 1)] [.int .i64 0, .int .i64 0] rfl rfl (by rfl) rfl rfl (by intro W; kernel_rfl) hs ?_
  clear hs; intro g100 w100 hs
  refine Z.le rfl trivial ?_
  refine Z.ZO.call rfl rfl (by rfl) rfl rfl Try.call26 rfl (bk_sameI oa2 _ _ oc2 _ _ [10, 40] [10, 40] _ (hs.slm (T := 3) (size := 1) (k := 2) (c := oc2) (m := 2) (by simp)) (hs.blkSl (by first | ((repeat (first | exact List.mem_cons_self | refine List.mem_cons_of_mem _ ?_ | refine List.mem_append_right _ ?_)); done) | fail)) rfl rfl (by decide)) ?_
  rintro v14_2 w14_2 ⟨rfl, hy⟩
  replace hs := hs.call hy
  clear hy
  try simp only [List.cons_append, List.nil_append, List.append_nil] at hs
  refine Z.lb 1 rfl ?_
  refine Z.yes (s := 102) (b := true) rfl ((by simp)) rfl ?_
  refine Z.lb 1 rfl ?_
  refine Z.yes (s := 102) (b := true) rfl rfl rfl ?_
  refine Z.le rfl (by exact ⟨rfl, trivial⟩) ?_
  refine Z.ZO.call rfl rfl (by rfl) rfl rfl Try.call15 rfl (bk_num _ _) ?_
  rintro v14_5 w14_5 ⟨rfl, hy⟩
  replace hs := hs.call hy
  clear hy
  try simp only [List.cons_append, List.nil_append, List.append_nil] at hs
  refine Z.lb 1 rfl ?_
  refine Z.yes (s := 102) (b := true) rfl rfl rfl ?_
  refine Z.l rfl rfl (by rfl) (Z.keepS hs) (Z.Yd.pickT rfl rfl) ?_
  refine Z.lb 1 rfl ?_
  refine Z.yes (s := 107) (b := true) rfl ((by simp)) rfl ?_
  refine Z.lb 1 rfl ?_
  refine Z.yes (s := 107) (b := true) rfl rfl rfl ?_
  refine Z.le rfl (by exact ⟨rfl, trivial⟩) ?_
  refine Z.ZO.call rfl rfl (by rfl) rfl rfl Try.call15 rfl (bk_num _ _) ?_
  rintro v14_10 w14_10 ⟨rfl, hy⟩
  replace hs := hs.call hy
  clear hy
  try simp only [List.cons_append, List.nil_append, List.append_nil] at hs
  refine Z.lb 1 rfl ?_
  refine Z.yes (s := 107) (b := true) rfl rfl rfl ?_
  refine Z.l rfl rfl (by rfl) (Z.keepS hs) (Z.Yd.pickT rfl rfl) ?_
  refine Z.lb 1 rfl ?_
  refine Z.yes (s := 112) (b := true) rfl ((by simp)) rfl ?_
  refine Z.lb 1 rfl ?_
  refine Z.yes (s := 112) (b := true) rfl rfl rfl ?_
  refine Z.le rfl (by exact ⟨rfl, trivial⟩) ?_
  refine Z.ZO.call rfl rfl (by rfl) rfl rfl Try.call15 rfl (bk_num _ _) ?_
  rintro v14_15 w14_15 ⟨rfl, hy⟩
  replace hs := hs.call hy
  clear hy
  try simp only [List.cons_append, List.nil_append, List.append_nil] at hs
  refine Z.lb 1 rfl ?_
  refine Z.yes (s := 112) (b := true) rfl rfl rfl ?_
  refine Z.l rfl rfl (by rfl) (Z.keepS hs) (Z.Yd.pickT rfl rfl) ?_
  refine Z.lb 1 rfl ?_
  refine Z.yes (s := 117) (b := true) rfl ((by simp)) rfl ?_
  refine Z.lb 1 rfl ?_
  refine Z.yes (s := 117) (b := true) rfl rfl rfl ?_
  refine Z.le rfl (by exact ⟨rfl, trivial⟩) ?_
  refine Z.ZO.call rfl rfl (by rfl) rfl rfl Try.call15 rfl (bk_num _ _) ?_
  rintro v14_20 w14_20 ⟨rfl, hy⟩
  replace hs := hs.call hy
  clear hy
  try simp only [List.cons_append, List.nil_append, List.append_nil] at hs
  refine Z.lb 1 rfl ?_
  refine Z.yes (s := 117) (b := true) rfl rfl rfl ?_
  refine Z.l rfl rfl (by rfl) (Z.keepS hs) (Z.Yd.pickT rfl rfl) ?_
  refine Z.lb 1 rfl ?_
  refine Z.yes (s := 122) (b := true) rfl ((by simp)) rfl ?_
  refine Z.lb 1 rfl ?_
  refine Z.yes (s := 122) (b := true) rfl rfl rfl ?_
  refine Z.le rfl (by exact ⟨rfl, trivial⟩) ?_
  refine Z.ZO.call rfl rfl (by rfl) rfl rfl Try.call15 rfl (bk_num _ _) ?_
  rintro v14_25 w14_25 ⟨rfl, hy⟩
  replace hs := hs.call hy
  clear hy
  try simp only [List.cons_append, List.nil_append, List.append_nil] at hs
  refine Z.lb 1 rfl ?_
  refine Z.yes (s := 122) (b := true) rfl rfl rfl ?_
  refine Z.l rfl rfl (by rfl) (Z.keepS hs) (Z.Yd.pickT rfl rfl) ?_
  refine Z.lb 1 rfl ?_
  refine Z.lnil ?_
  refine Z.only [0] rfl ?_
  refine Z.nthen ?_
  refine Z.ret ?_
  -- ret#0
  refine Z.out1 (by exact ⟨rfl, trivial⟩) ?_
  exact ⟨_, rfl, rfl, hs.sub (List.nil_sublist _)⟩
end Go.Proofs.Ythdhobnkclddhaa

/- Buckets: one call on both sides. -/
namespace Go.Proofs.Ythdhobnkclddhaa
open Go.RowKit
set_option linter.unusedSimpArgs false
set_option linter.unusedVariables false
--newlaws

def AcV.at (x : AcV) (now : Int) : Int := if x.w < 5 then now + max 0 (min 1000 x.n) else x.n
def isD (x : AcV) : Prop := x.w = 0 ∨ x.w = 1 ∨ x.w = 2
def isT (x : AcV) : Prop := x.w = 3 ∨ x.w = 4 ∨ x.w = 5
instance (x : AcV) : Decidable (isD x) := by unfold isD; infer_instance
instance (x : AcV) : Decidable (isT x) := by unfold isT; infer_instance
def actB (m : BkV) (x : AcV) : BkV := if isD x then (divV m x.n x.d).1 else if isT x then (tickV m (x.at m.now)).1 else m
theorem divV_l (m : BkV) (size : Int) (dem : List Int) : (divV m size dem).1.l = m.l ∧ (divV m size dem).1.now = m.now := by unfold divV; split <;> exact ⟨rfl, rfl⟩
theorem tickV_l (m : BkV) (t : Int) : (tickV m t).1.l = m.l := by unfold tickV; split <;> rfl
theorem actB_l (m : BkV) (x : AcV) : (actB m x).l = m.l := by
  unfold actB
  split
  · exact (divV_l m _ _).1
  · split
    · exact tickV_l m _
    · rfl
theorem BkV.ok.act {m : BkV} (hm : m.ok) (x : AcV) : (actB m x).ok := by
  unfold actB
  split
  · exact hm.div _ _
  · split
    · exact hm.tick _
    · exact hm
theorem divV_len {m : BkV} (hm : m.ok) (size : Int) (dem : List Int) : (divV m size dem).2.1.length ≤ 10 := by
  unfold divV
  split
  · rename_i h
    have := (rounds_ok hm h 2).ol
    have := hm.pos
    simp only
    omega
  · simp
/-- what the document's object reads -/
def NewB (Bn B : Option Addr) (dn d : Nat) (m m' : BkV) (Ln : List SX.Ent) : Prop := Ln = [SX.Ent.row (.slice Bn m.l.length dn) 3 1 m.l.length (ints .i64 m'.b)] ∨ Ln = [] ∧ Bn = B ∧ dn = d ∧ m'.b = m.b
set_option maxHeartbeats 2000000 in
set_option maxRecDepth 100000 in
theorem bk_act (g : Nat) (sv so : Value) (A B : Option Addr) (c d : Nat) (m : BkV) (x : AcV) (w : World) (hs : SX.St w (SX.idsOf (bkE g sv so m)) w (bkE g sv so m)) (hm : m.ok)
    (hA : Sx w (SX.idsOf (bkE g sv so m)) A (m.l.flatMap LgV.cells)) (hB : Sx w (SX.idsOf (bkE g sv so m)) B (ints .i64 m.b)) (hx : Sx w (SX.idsOf (bkE g sv so m)) x.D (ints .i64 x.d)) (hx12 : x.d.length ≤ 1000) :
    Calls Try.prog 20 #[.pointer (some ⟨g, 0, none⟩), .agg #[.slice A m.l.length c, .slice B m.l.length d, .int .i64 m.now], .agg x.cells.toArray] w (SX.Ret fun v w' => ∃ g' sv' so' Bn dn Ln, v = .tuple #[.pointer (some ⟨g', 0, none⟩), .agg #[.slice A m.l.length c, .slice Bn m.l.length dn, .int .i64 (actB m x).now], .bool true] ∧ SX.St w (SX.idsOf (bkE g sv so m)) w' (bkE g' sv' so' (actB m x) ++ Ln) ∧ NewB Bn B dn d m (actB m x) Ln) := by
  have hmw := hm.now
  generalize hM : SX.idsOf (bkE g sv so m) = M at *
  replace hs : SX.St w M w [SX.Ent.blk g 63 #[sv, so, .int .i64 m.now], SX.Ent.row sv 72 6 m.l.length (m.chs.flatMap chC), SX.Ent.row so 3 1 m.l.length (ints .i64 (natI (ordL m.l)))] := hs
  show Calls Try.prog 20 #[_, _, .agg #[.int .i64 x.w, .int .i64 x.n, .slice x.D x.d.length x.c]] w _
  refine Z.enter Try.func20 rfl Try.ntmps20 rfl rfl ?_
  refine Z.seq ?_
  refine Z.region ?_
  refine Z.le rfl trivial ?_
  refine Z.ZO.box rfl rfl (by rfl) rfl rfl hs ?_
  clear hs; intro g4 w4 hs
  refine Z.le rfl trivial ?_
  refine Z.ZO.box rfl rfl (by rfl) rfl rfl hs ?_
  clear hs; intro g5 w5 hs
  refine Z.lb 1 rfl ?_
  refine Z.le rfl trivial ?_
  refine Z.ZO.alloc rfl rfl (by rfl) Try.zeroValue30 rfl hs ?_
  clear hs; intro g7 w7 hs
  refine Z.lb 1 rfl ?_
  refine Z.lnil ?_
  refine Z.only [0, 4, 5, 7] rfl ?_
  refine Z.nthen ?_
  refine Z.seq ?_
  refine Z.seq ?_
  refine Z.region ?_
  refine Z.l rfl rfl (by rfl) (Z.keepS hs) (Z.Yd.fieldA (m := 0) rfl (by kernel_rfl)) ?_
  refine Z.l rfl rfl (by rfl) (Z.keepS hs) (by first | exact Z.Yd.load rfl Try.isAgg3 (fun _ => Z.cellB (by first | ((repeat (first | exact List.mem_cons_self | refine List.mem_cons_of_mem _ ?_ | refine List.mem_append_right _ ?_)); done) | fail) rfl) | exact Z.Yd.load rfl Try.isAgg3 (fun _ => Z.cellO (by assumption) (by simp) (by assumption)) | fail "load 1.1") ?_
  refine Z.lnil ?_
  refine Z.only [0, 4, 5, 7, 18] rfl ?_
  refine Z.nthen ?_
  refine Z.block ?_
  refine Z.seq ?_
  refine Z.seq ?_
  refine Z.region ?_
  refine Z.lb 2 rfl ?_
  refine Z.lnil ?_
  refine Z.only [0, 4, 5, 7, 18, 19] rfl ?_
  refine Z.nthen ?_
  refine Z.cutt (ι := Unit) [0, 4, 5, 7, 18] rfl (fun _ => [(19, [], .bool (decide (isD x)))]) (fun _ wr => SX.St w M wr [SX.Ent.blk g7 30 #[.slice none 0 0, .slice none 0 0, .int .i64 0], SX.Ent.blk g5 54 #[.int .i64 x.w, .int .i64 x.n, .slice x.D x.d.length x.c], SX.Ent.blk g4 30 #[.slice A m.l.length c, .slice B m.l.length d, .int .i64 m.now], SX.Ent.blk g 63 #[sv, so, .int .i64 m.now], SX.Ent.row sv 72 6 m.l.length (m.chs.flatMap chC), SX.Ent.row so 3 1 m.l.length (ints .i64 (natI (ordL m.l)))]) ?_ ?_
  · skip
    refine Z.cond rfl (fun hc2 => ?_) (fun hc2 => ?_)
    · first
        | (exfalso; simp at hc2 <;> omega)
        | (
          (try simp at hc2)
          refine Z.skip ?_
          refine Z.nthen ?_
          exact Z.meet () (by refine ⟨?_, ?_, ?_, ?_, ?_, ?_, trivial⟩ <;> first | rfl | (refine Z.lookv rfl ?_; congr 1; rw [Bool.eq_iff_iff]; simp only [decide_eq_true_eq, beq_iff_eq]; unfold isD; omega)) hs
          )
    · first
        | (exfalso; simp at hc2 <;> omega)
        | (
          (try simp at hc2)
          refine Z.seq ?_
          refine Z.region ?_
          refine Z.lb 2 rfl ?_
          refine Z.lnil ?_
          refine Z.only [0, 4, 5, 7, 18, 19] rfl ?_
          refine Z.nthen ?_
          refine Z.cond rfl (fun hc3 => ?_) (fun hc3 => ?_)
          · first
              | (exfalso; simp at hc3 <;> omega)
              | (
                (try simp at hc3)
                refine Z.skip ?_
                refine Z.nthen ?_
                exact Z.meet () (by refine ⟨?_, ?_, ?_, ?_, ?_, ?_, trivial⟩ <;> first | rfl | (refine Z.lookv rfl ?_; congr 1; rw [Bool.eq_iff_iff]; simp only [decide_eq_true_eq, beq_iff_eq]; unfold isD; omega)) hs
                )
          · first
              | (exfalso; simp at hc3 <;> omega)
              | (
                (try simp at hc3)
                refine Z.region ?_
                refine Z.lb 2 rfl ?_
                refine Z.lnil ?_
                refine Z.only [0, 4, 5, 7, 18, 19] rfl ?_
                refine Z.nthen ?_
                exact Z.meet () (by refine ⟨?_, ?_, ?_, ?_, ?_, ?_, trivial⟩ <;> first | rfl | (refine Z.lookv rfl ?_; congr 1; rw [Bool.eq_iff_iff]; simp only [decide_eq_true_eq, beq_iff_eq]; unfold isD; omega)) hs
                )
          )
  · clear hs
    rintro _ w2 hs
    refine Z.only [0, 4, 5, 7, 18, 19] rfl ?_
    refine Z.cond rfl (fun hc4 => ?_) (fun hc4 => ?_)
    · first
        | (exfalso; simp at hc4 <;> omega)
        | (
          (try simp at hc4)
          have hw : isD x := by assumption
          have eA : actB m x = (divV m x.n x.d).1 := if_pos hw
          refine Z.seq ?_
          refine Z.region ?_
          refine Z.l rfl rfl (by rfl) (Z.keepS hs) (by first | exact Z.Yd.loadA _ rfl Try.isAgg30 (fun _ => Z.cellsB (by first | ((repeat (first | exact List.mem_cons_self | refine List.mem_cons_of_mem _ ?_ | refine List.mem_append_right _ ?_)); done) | fail)) (by exact Try.sizeOf30) | fail "load 5.0") ?_
          refine Z.l rfl rfl (by rfl) (Z.keepS hs) (Z.Yd.fieldA (m := 1) rfl (by kernel_rfl)) ?_
          refine Z.l rfl rfl (by rfl) (Z.keepS hs) (by first | exact Z.Yd.load rfl Try.isAgg3 (fun _ => Z.cellB (by first | ((repeat (first | exact List.mem_cons_self | refine List.mem_cons_of_mem _ ?_ | refine List.mem_append_right _ ?_)); done) | fail) rfl) | exact Z.Yd.load rfl Try.isAgg3 (fun _ => Z.cellO (by assumption) (by simp) (by assumption)) | fail "load 5.2") ?_
          refine Z.l rfl rfl (by rfl) (Z.keepS hs) (Z.Yd.fieldA (m := 2) rfl (by kernel_rfl)) ?_
          refine Z.l rfl rfl (by rfl) (Z.keepS hs) (by first | exact Z.Yd.load rfl Try.isAgg28 (fun _ => Z.cellB (by first | ((repeat (first | exact List.mem_cons_self | refine List.mem_cons_of_mem _ ?_ | refine List.mem_append_right _ ?_)); done) | fail) rfl) | exact Z.Yd.load rfl Try.isAgg28 (fun _ => Z.cellO (by assumption) (by simp) (by assumption)) | fail "load 5.4") ?_
          refine Z.le rfl trivial ?_
          refine Z.ZO.call rfl rfl (by rfl) rfl rfl Try.call42 rfl (rv_divide A B x.D c d x.d.length x.c m x.n x.d _ (hA.st hs) (hB.st hs) (hx.st hs) rfl hm) ?_
          rintro v5_5 w5_5 ⟨Bn, dn, ov, Ln, rfl, hy, hN⟩
          replace hs := hs.call hy
          clear hy
          try simp only [List.cons_append, List.nil_append, List.append_nil] at hs
          replace hs : SX.St w M _ ([SX.Ent.blk g7 30 #[.slice none 0 0, .slice none 0 0, .int .i64 0], SX.Ent.blk g5 54 #[.int .i64 x.w, .int .i64 x.n, .slice x.D x.d.length x.c], SX.Ent.blk g4 30 #[.slice A m.l.length c, .slice B m.l.length d, .int .i64 m.now], SX.Ent.blk g 63 #[sv, so, .int .i64 m.now], SX.Ent.row sv 72 6 m.l.length (m.chs.flatMap chC), SX.Ent.row so 3 1 m.l.length (ints .i64 (natI (ordL m.l))), SX.Ent.row ov 3 1 (divV m x.n x.d).2.1.length (ints .i64 (divV m x.n x.d).2.1)] ++ Ln) := SX.St.rot (L1 := _ :: Ln) hs
          obtain ⟨oa, oc, rfl, -, -, -⟩ := SX.row_slv (L := _ ++ Ln) hs (j := 6) rfl
          refine Z.lb 4 rfl ?_
          refine Z.le rfl trivial ?_
          refine Z.ZO.alloc rfl rfl (by rfl) Try.zeroValue30 rfl hs ?_
          clear hs; intro g9 w9 hs
          refine Z.le rfl trivial ?_
          first | refine Z.ZO.storeA rfl rfl hs rfl rfl (by kernel_rfl) (by first | (simp [Value.oneCell']; done) | (refine Z.all_one ?_; assumption)) (by first | exact SX.at0 | exact SX.at1 | exact SX.at2 | exact SX.at3 | exact SX.at4 | exact SX.at5 | exact Z.at6 | exact Z.at7 | exact Z.at8 | exact Z.at9 | exact Z.at10 | exact Z.at11 | exact Z.at12) (by rfl) ?_ | refine Z.ZO.storeP rfl rfl hs rfl rfl (by kernel_rfl) (by first | (simp [Value.oneCell']; done) | (refine Z.all_one ?_; assumption)) (by first | exact SX.at0 | exact SX.at1 | exact SX.at2 | exact SX.at3 | exact SX.at4 | exact SX.at5 | exact Z.at6 | exact Z.at7 | exact Z.at8 | exact Z.at9 | exact Z.at10 | exact Z.at11 | exact Z.at12) (by first | decide | (simp; done) | (simp; omega)) ?_ | refine Z.ZO.storePR rfl rfl hs rfl rfl (by kernel_rfl) (by first | (simp [Value.oneCell']; done) | (refine Z.all_one ?_; assumption)) (by first | exact SX.at0 | exact SX.at1 | exact SX.at2 | exact SX.at3 | exact SX.at4 | exact SX.at5 | exact Z.at6 | exact Z.at7 | exact Z.at8 | exact Z.at9 | exact Z.at10 | exact Z.at11 | exact Z.at12) (by first | decide | (simp; done) | (simp; omega)) ?_
          clear hs; intro ws hs
          simp only [Nat.zero_add, Nat.add_zero, Nat.reduceAdd, Int.reduceToNat, Nat.reduceMul, List.set_cons_zero, List.set_cons_succ, List.setIfInBounds_toArray] at hs
          try simp only [Z.putL, Nat.zero_add] at hs
          refine Z.lb 2 rfl ?_
          refine Z.lnil ?_
          refine Z.only [0, 5, 7, 9, 10, 11] rfl ?_
          refine Z.nthen ?_
          refine Z.seq ?_
          refine Z.region ?_
          refine Z.lb 1 rfl ?_
          refine Z.l rfl rfl (by rfl) (Z.keepS hs) (Z.Yd.fieldA (m := 1) rfl (by kernel_rfl)) ?_
          refine Z.l rfl rfl (by rfl) (Z.keepS hs) (by first | exact Z.Yd.load rfl Try.isAgg3 (fun _ => Z.cellB (by first | ((repeat (first | exact List.mem_cons_self | refine List.mem_cons_of_mem _ ?_ | refine List.mem_append_right _ ?_)); done) | fail) rfl) | exact Z.Yd.load rfl Try.isAgg3 (fun _ => Z.cellO (by assumption) (by simp) (by assumption)) | fail "load 6.2") ?_
          refine Z.l rfl rfl (by rfl) (Z.keepS hs) (Z.Yd.fieldA (m := 2) rfl (by kernel_rfl)) ?_
          refine Z.l rfl rfl (by rfl) (Z.keepS hs) (by first | exact Z.Yd.load rfl Try.isAgg28 (fun _ => Z.cellB (by first | ((repeat (first | exact List.mem_cons_self | refine List.mem_cons_of_mem _ ?_ | refine List.mem_append_right _ ?_)); done) | fail) rfl) | exact Z.Yd.load rfl Try.isAgg28 (fun _ => Z.cellO (by assumption) (by simp) (by assumption)) | fail "load 6.4") ?_
          replace hs : SX.St w M _ (bkE g sv so m ++ ([SX.Ent.blk g9 30 #[.slice A m.l.length c, .slice Bn m.l.length dn, .int .i64 m.now], SX.Ent.blk g7 _ _, SX.Ent.blk g5 54 #[.int .i64 x.w, .int .i64 x.n, .slice x.D x.d.length x.c], SX.Ent.row (.slice oa (divV m x.n x.d).2.1.length oc) 3 1 (divV m x.n x.d).2.1.length (ints .i64 (divV m x.n x.d).2.1)] ++ Ln)) := SX.St.selT (L1 := [_, _, _, _, _, _, _, _]) hs [4, 5, 6, 0, 1, 2, 7] (by decide)
          refine Z.le rfl trivial ?_
          refine Z.ZO.call rfl rfl (by rfl) rfl rfl Try.call18 rfl (bk_divide g sv so m x.n x.D x.d.length x.c x.d _ hs.lend hm (hx.lent hs) rfl) ?_
          rintro v6_5 w6_5 ⟨ov2, rfl, hz⟩
          replace hs := hs.regain hz
          obtain ⟨oa2, oc2, rfl, -, -, -⟩ := SX.row_slv hs (j := 0) rfl
          replace hs : SX.St w M _ ([SX.Ent.row (.slice oa2 (divV m x.n x.d).2.1.length oc2) 3 1 (divV m x.n x.d).2.1.length (ints .i64 (divV m x.n x.d).2.1), SX.Ent.blk g9 30 #[.slice A m.l.length c, .slice Bn m.l.length dn, .int .i64 m.now], SX.Ent.blk g7 30 #[.slice none 0 0, .slice none 0 0, .int .i64 0], SX.Ent.row (.slice oa (divV m x.n x.d).2.1.length oc) 3 1 (divV m x.n x.d).2.1.length (ints .i64 (divV m x.n x.d).2.1)] ++ (bkE g sv so (divV m x.n x.d).1 ++ Ln)) := SX.St.selT (L1 := [_, _, _, _, _, _, _, _]) hs [0, 4, 5, 7, 1, 2, 3] (by decide)
          refine Z.lb 5 rfl ?_
          refine Z.lnil ?_
          refine Z.only [0, 7, 9, 10, 11, 12, 13] rfl ?_
          refine Z.nthen ?_
          refine Z.seq ?_
          refine Z.drawL [SX.Ent.blk g9 30 #[.slice A m.l.length c, .slice Bn m.l.length dn, .int .i64 m.now]] (fun _ => true) mixed hs ?_
          clear hs; intro wd7 hs
          refine Z.tb [0] (by kernel_rfl) rfl ⟨_, hs, by first | (simp; done) | exact fun e he => List.mem_append_right _ he⟩ rfl ?_
          refine Z.t 1 rfl rfl rfl (by rfl) (by kernel_rfl) ⟨_, hs, by first | (simp; done) | exact fun e he => List.mem_append_right _ he⟩ (by first | exact Z.Yd.loadA _ rfl Try.isAgg30 (fun _ => Z.cellsB (by first | ((repeat (first | exact List.mem_cons_self | refine List.mem_cons_of_mem _ ?_ | refine List.mem_append_right _ ?_)); done) | fail)) (by exact Try.sizeOf30) | fail "load 7.1") ?_
          refine Z.tb [2, 3] (by kernel_rfl) rfl ⟨_, hs, by first | (simp; done) | exact fun e he => List.mem_append_right _ he⟩ rfl ?_
          refine Z.tn 4 rfl rfl (by kernel_rfl) rfl trivial ?_
          refine Z.ZO.call rfl rfl (by rfl) rfl rfl Try.call26 rfl (bk_sameI oa oa2 _ oc _ oc2 (divV m x.n x.d).2.1 (divV m x.n x.d).2.1 _ (hs.slm (A := oa) (xs := ints .i64 (divV m x.n x.d).2.1) (by first | ((repeat (first | exact List.mem_cons_self | refine List.mem_cons_of_mem _ ?_ | refine List.mem_append_right _ ?_)); done) | fail)) (hs.slm (A := oa2) (xs := ints .i64 (divV m x.n x.d).2.1) (by first | ((repeat (first | exact List.mem_cons_self | refine List.mem_cons_of_mem _ ?_ | refine List.mem_append_right _ ?_)); done) | fail)) rfl rfl (by have := divV_len hm x.n x.d; omega)) ?_
          rintro v7_4 w7_4 ⟨rfl, hy⟩
          replace hs := hs.call hy
          clear hy
          try simp only [List.cons_append, List.nil_append, List.append_nil] at hs
          refine Z.tk (Dn := fun _ => true) (i := 4) (fun _ => ⟨_, hs, by first | (simp; done) | exact fun e he => List.mem_append_right _ he⟩) ?_
          refine Z.tb [5, 6, 8] (by kernel_rfl) rfl ⟨_, hs, by first | (simp; done) | exact fun e he => List.mem_append_right _ he⟩ rfl ?_
          refine Z.yes (s := 47) (b := true) rfl (by simp) rfl ?_
          refine Z.tn 7 rfl rfl (by kernel_rfl) rfl (by exact ⟨rfl, trivial⟩) ?_
          refine Z.ZO.call rfl rfl (by rfl) rfl rfl Try.call15 rfl (bk_num _ _) ?_
          rintro v7_7 w7_7 ⟨rfl, hy⟩
          replace hs := hs.call hy
          clear hy
          try simp only [List.cons_append, List.nil_append, List.append_nil] at hs
          refine Z.tk (Dn := fun _ => true) (i := 7) (fun _ => ⟨_, hs, by first | (simp; done) | exact fun e he => List.mem_append_right _ he⟩) ?_
          refine Z.tb [9, 10, 11] (by kernel_rfl) rfl ⟨_, hs, by first | (simp; done) | exact fun e he => List.mem_append_right _ he⟩ rfl ?_
          refine Z.tn 12 rfl rfl (by kernel_rfl) rfl trivial ?_
          first | refine Z.ZO.storeA rfl rfl hs rfl rfl (by kernel_rfl) (by first | (simp [Value.oneCell']; done) | (refine Z.all_one ?_; assumption)) (by first | exact SX.at0 | exact SX.at1 | exact SX.at2 | exact SX.at3 | exact SX.at4 | exact SX.at5 | exact Z.at6 | exact Z.at7 | exact Z.at8 | exact Z.at9 | exact Z.at10 | exact Z.at11 | exact Z.at12) (by rfl) ?_ | refine Z.ZO.storeP rfl rfl hs rfl rfl (by kernel_rfl) (by first | (simp [Value.oneCell']; done) | (refine Z.all_one ?_; assumption)) (by first | exact SX.at0 | exact SX.at1 | exact SX.at2 | exact SX.at3 | exact SX.at4 | exact SX.at5 | exact Z.at6 | exact Z.at7 | exact Z.at8 | exact Z.at9 | exact Z.at10 | exact Z.at11 | exact Z.at12) (by first | decide | (simp; done) | (simp; omega)) ?_ | refine Z.ZO.storePR rfl rfl hs rfl rfl (by kernel_rfl) (by first | (simp [Value.oneCell']; done) | (refine Z.all_one ?_; assumption)) (by first | exact SX.at0 | exact SX.at1 | exact SX.at2 | exact SX.at3 | exact SX.at4 | exact SX.at5 | exact Z.at6 | exact Z.at7 | exact Z.at8 | exact Z.at9 | exact Z.at10 | exact Z.at11 | exact Z.at12) (by first | decide | (simp; done) | (simp; omega)) ?_
          clear hs; intro ws hs
          simp only [Nat.zero_add, Nat.add_zero, Nat.reduceAdd, Int.reduceToNat, Nat.reduceMul, List.set_cons_zero, List.set_cons_succ, List.setIfInBounds_toArray] at hs
          try simp only [Z.putL, Nat.zero_add] at hs
          refine Z.tk (Dn := fun _ => true) (i := 12) (fun _ => ⟨_, hs, by first | (simp; done) | exact fun e he => List.mem_append_right _ he⟩) ?_
          refine Z.tb [13] (by kernel_rfl) rfl ⟨_, hs, by first | (simp; done) | exact fun e he => List.mem_append_right _ he⟩ rfl ?_
          refine Z.td (by rfl) (by kernel_rfl) ?_
          refine Z.only [6, 7, 8] rfl ?_
          refine Z.nthen ?_
          refine Z.ret ?_
          repeat (first | refine Z.rthen ?_ | refine Z.rblock ?_ | refine Z.rscope ?_)
          -- ret#0
          refine Z.out3 (by exact ⟨rfl, ⟨_, rfl, Z.rvcA hs Try.isAgg30 (by first | ((repeat (first | exact List.mem_cons_self | refine List.mem_cons_of_mem _ ?_ | refine List.mem_append_right _ ?_)); done) | fail) (by exact Try.sizeOf30)⟩, rfl, trivial⟩) ?_
          rw [eA]
          exact ⟨_, rfl, g, sv, so, Bn, dn, Ln, by rw [(divV_l m x.n x.d).2]; simp, (show SX.St w M _ ([_, _, _, _] ++ (bkE g sv so (divV m x.n x.d).1 ++ Ln)) from hs).sub (List.sublist_append_right _ _), hN⟩
          )
    · first
        | (exfalso; simp at hc4 <;> omega)
        | (
          (try simp at hc4)
          have hw : ¬ isD x := by assumption
          refine Z.seq ?_
          refine Z.seq ?_
          refine Z.region ?_
          refine Z.lb 2 rfl ?_
          refine Z.lnil ?_
          refine Z.only [0, 4, 5, 7, 18, 53] rfl ?_
          refine Z.nthen ?_
          refine Z.cutt (ι := Unit) [0, 4, 5, 7] rfl (fun _ => [(53, [], .bool (decide (isT x)))]) (fun _ wr => SX.St w M wr [SX.Ent.blk g7 30 #[.slice none 0 0, .slice none 0 0, .int .i64 0], SX.Ent.blk g5 54 #[.int .i64 x.w, .int .i64 x.n, .slice x.D x.d.length x.c], SX.Ent.blk g4 30 #[.slice A m.l.length c, .slice B m.l.length d, .int .i64 m.now], SX.Ent.blk g 63 #[sv, so, .int .i64 m.now], SX.Ent.row sv 72 6 m.l.length (m.chs.flatMap chC), SX.Ent.row so 3 1 m.l.length (ints .i64 (natI (ordL m.l)))]) ?_ ?_
          · skip
            refine Z.cond rfl (fun hc8 => ?_) (fun hc8 => ?_)
            · first
                | (exfalso; simp at hc8 <;> omega)
                | (
                  (try simp at hc8)
                  refine Z.skip ?_
                  refine Z.nthen ?_
                  exact Z.meet () (by refine ⟨?_, ?_, ?_, ?_, ?_, trivial⟩ <;> first | rfl | (refine Z.lookv rfl ?_; congr 1; rw [Bool.eq_iff_iff]; simp only [decide_eq_true_eq, beq_iff_eq]; unfold isT; omega)) hs
                  )
            · first
                | (exfalso; simp at hc8 <;> omega)
                | (
                  (try simp at hc8)
                  refine Z.seq ?_
                  refine Z.region ?_
                  refine Z.lb 2 rfl ?_
                  refine Z.lnil ?_
                  refine Z.only [0, 4, 5, 7, 18, 53] rfl ?_
                  refine Z.nthen ?_
                  refine Z.cond rfl (fun hc9 => ?_) (fun hc9 => ?_)
                  · first
                      | (exfalso; simp at hc9 <;> omega)
                      | (
                        (try simp at hc9)
                        refine Z.skip ?_
                        refine Z.nthen ?_
                        exact Z.meet () (by refine ⟨?_, ?_, ?_, ?_, ?_, trivial⟩ <;> first | rfl | (refine Z.lookv rfl ?_; congr 1; rw [Bool.eq_iff_iff]; simp only [decide_eq_true_eq, beq_iff_eq]; unfold isT; omega)) hs
                        )
                  · first
                      | (exfalso; simp at hc9 <;> omega)
                      | (
                        (try simp at hc9)
                        refine Z.region ?_
                        refine Z.lb 2 rfl ?_
                        refine Z.lnil ?_
                        refine Z.only [0, 4, 5, 7, 53] rfl ?_
                        refine Z.nthen ?_
                        exact Z.meet () (by refine ⟨?_, ?_, ?_, ?_, ?_, trivial⟩ <;> first | rfl | (refine Z.lookv rfl ?_; congr 1; rw [Bool.eq_iff_iff]; simp only [decide_eq_true_eq, beq_iff_eq]; unfold isT; omega)) hs
                        )
                  )
          · clear hs
            rintro _ w8 hs
            refine Z.only [0, 4, 5, 7, 53] rfl ?_
            refine Z.cond rfl (fun hc10 => ?_) (fun hc10 => ?_)
            · first
                | (exfalso; simp at hc10 <;> omega)
                | (
                  (try simp at hc10)
                  have hw2 : isT x := by assumption
                  have eA : actB m x = (tickV m (x.at m.now)).1 := by unfold actB; rw [if_neg hw, if_pos hw2]
                  have nA : (actB m x).now = (tickV m (x.at m.now)).1.now := by rw [eA]
                  refine Z.seq ?_
                  refine Z.region ?_
                  refine Z.l rfl rfl (by rfl) (Z.keepS hs) (Z.Yd.fieldA (m := 1) rfl (by kernel_rfl)) ?_
                  refine Z.l rfl rfl (by rfl) (Z.keepS hs) (by first | exact Z.Yd.load rfl Try.isAgg3 (fun _ => Z.cellB (by first | ((repeat (first | exact List.mem_cons_self | refine List.mem_cons_of_mem _ ?_ | refine List.mem_append_right _ ?_)); done) | fail) rfl) | exact Z.Yd.load rfl Try.isAgg3 (fun _ => Z.cellO (by assumption) (by simp) (by assumption)) | fail "load 11.1") ?_
                  refine Z.lb 1 rfl ?_
                  refine Z.lnil ?_
                  refine Z.only [0, 4, 5, 7, 14] rfl ?_
                  refine Z.nthen ?_
                  refine Z.seq ?_
                  refine Z.seq ?_
                  refine Z.region ?_
                  refine Z.l rfl rfl (by rfl) (Z.keepS hs) (Z.Yd.fieldA (m := 0) rfl (by kernel_rfl)) ?_
                  refine Z.l rfl rfl (by rfl) (Z.keepS hs) (by first | exact Z.Yd.load rfl Try.isAgg3 (fun _ => Z.cellB (by first | ((repeat (first | exact List.mem_cons_self | refine List.mem_cons_of_mem _ ?_ | refine List.mem_append_right _ ?_)); done) | fail) rfl) | exact Z.Yd.load rfl Try.isAgg3 (fun _ => Z.cellO (by assumption) (by simp) (by assumption)) | fail "load 12.1") ?_
                  refine Z.lb 1 rfl ?_
                  refine Z.lnil ?_
                  refine Z.only [0, 4, 5, 7, 14, 61] rfl ?_
                  refine Z.nthen ?_
                  refine Z.cutt (ι := Unit) [0, 4, 7] rfl (fun _ => [(14, [], .int .i64 (x.at m.now))]) (fun _ wr => SX.St w M wr [SX.Ent.blk g7 30 #[.slice none 0 0, .slice none 0 0, .int .i64 0], SX.Ent.blk g5 54 #[.int .i64 x.w, .int .i64 x.n, .slice x.D x.d.length x.c], SX.Ent.blk g4 30 #[.slice A m.l.length c, .slice B m.l.length d, .int .i64 m.now], SX.Ent.blk g 63 #[sv, so, .int .i64 m.now], SX.Ent.row sv 72 6 m.l.length (m.chs.flatMap chC), SX.Ent.row so 3 1 m.l.length (ints .i64 (natI (ordL m.l)))]) ?_ ?_
                  · skip
                    refine Z.cond rfl (fun hc12 => ?_) (fun hc12 => ?_)
                    · first
                        | (exfalso; simp at hc12 <;> omega)
                        | (
                          (try simp at hc12)
                          refine Z.region ?_
                          refine Z.l rfl rfl (by rfl) (Z.keepS hs) (Z.Yd.fieldA (m := 2) rfl (by kernel_rfl)) ?_
                          refine Z.l rfl rfl (by rfl) (Z.keepS hs) (by first | exact Z.Yd.load rfl Try.isAgg3 (fun _ => Z.cellB (by first | ((repeat (first | exact List.mem_cons_self | refine List.mem_cons_of_mem _ ?_ | refine List.mem_append_right _ ?_)); done) | fail) rfl) | exact Z.Yd.load rfl Try.isAgg3 (fun _ => Z.cellO (by assumption) (by simp) (by assumption)) | fail "load 13.1") ?_
                          refine Z.l rfl rfl (by rfl) (Z.keepS hs) (Z.Yd.fieldA (m := 1) rfl (by kernel_rfl)) ?_
                          refine Z.l rfl rfl (by rfl) (Z.keepS hs) (by first | exact Z.Yd.load rfl Try.isAgg3 (fun _ => Z.cellB (by first | ((repeat (first | exact List.mem_cons_self | refine List.mem_cons_of_mem _ ?_ | refine List.mem_append_right _ ?_)); done) | fail) rfl) | exact Z.Yd.load rfl Try.isAgg3 (fun _ => Z.cellO (by assumption) (by simp) (by assumption)) | fail "load 13.3") ?_
                          refine Z.l rfl rfl (by rfl) (Z.keepS hs) (Z.Yd.min rfl rfl) ?_
                          refine Z.l rfl rfl (by rfl) (Z.keepS hs) (Z.Yd.max rfl rfl) ?_
                          refine Z.l rfl rfl (by rfl) (Z.keepS hs) (Z.Yd.add rfl rfl (fun hG => Z.wi64 (by first | omega | (have hG' := Z.gh rfl hG; simp at hG'; omega)))) ?_
                          refine Z.lb 1 rfl ?_
                          refine Z.lnil ?_
                          refine Z.only [0, 4, 7, 14] rfl ?_
                          refine Z.nthen ?_
                          exact Z.meet () (by refine ⟨?_, ?_, ?_, ?_, trivial⟩ <;> first | rfl | (refine Z.lookv rfl ?_; congr 1; unfold AcV.at; first | (rw [if_pos (by assumption)]) | (rw [if_neg (by omega)]))) hs
                          )
                    · first
                        | (exfalso; simp at hc12 <;> omega)
                        | (
                          (try simp at hc12)
                          refine Z.skip ?_
                          refine Z.nthen ?_
                          exact Z.meet () (by refine ⟨?_, ?_, ?_, ?_, trivial⟩ <;> first | rfl | (refine Z.lookv rfl ?_; congr 1; unfold AcV.at; first | (rw [if_pos (by assumption)]) | (rw [if_neg (by omega)]))) hs
                          )
                  · clear hs
                    rintro _ w12 hs
                    refine Z.only [0, 4, 7, 14] rfl ?_
                    refine Z.seq ?_
                    refine Z.region ?_
                    refine Z.l rfl rfl (by rfl) (Z.keepS hs) (by first | exact Z.Yd.loadA _ rfl Try.isAgg30 (fun _ => Z.cellsB (by first | ((repeat (first | exact List.mem_cons_self | refine List.mem_cons_of_mem _ ?_ | refine List.mem_append_right _ ?_)); done) | fail)) (by exact Try.sizeOf30) | fail "load 14.0") ?_
                    refine Z.lb 1 rfl ?_
                    refine Z.le rfl trivial ?_
                    refine Z.ZO.call rfl rfl (by rfl) rfl rfl Try.call43 rfl (rv_tick A B c d m (x.at m.now) _ (hA.st hs) (hB.st hs) hm) ?_
                    rintro v14_2 w14_2 ⟨Bn, dn, Ln, rfl, hy, hN⟩
                    replace hs := hs.call hy
                    clear hy
                    try simp only [List.cons_append, List.nil_append, List.append_nil] at hs
                    replace hs : SX.St w M _ ([SX.Ent.blk g7 30 #[.slice none 0 0, .slice none 0 0, .int .i64 0], SX.Ent.blk g5 54 #[.int .i64 x.w, .int .i64 x.n, .slice x.D x.d.length x.c], SX.Ent.blk g4 30 #[.slice A m.l.length c, .slice B m.l.length d, .int .i64 m.now], SX.Ent.blk g 63 #[sv, so, .int .i64 m.now], SX.Ent.row sv 72 6 m.l.length (m.chs.flatMap chC), SX.Ent.row so 3 1 m.l.length (ints .i64 (natI (ordL m.l)))] ++ Ln) := SX.St.rot (L1 := Ln) hs
                    refine Z.lb 3 rfl ?_
                    refine Z.le rfl trivial ?_
                    refine Z.ZO.alloc rfl rfl (by rfl) Try.zeroValue30 rfl hs ?_
                    clear hs; intro g15 w15 hs
                    refine Z.le rfl trivial ?_
                    first | refine Z.ZO.storeA rfl rfl hs rfl rfl (by kernel_rfl) (by first | (simp [Value.oneCell']; done) | (refine Z.all_one ?_; assumption)) (by first | exact SX.at0 | exact SX.at1 | exact SX.at2 | exact SX.at3 | exact SX.at4 | exact SX.at5 | exact Z.at6 | exact Z.at7 | exact Z.at8 | exact Z.at9 | exact Z.at10 | exact Z.at11 | exact Z.at12) (by rfl) ?_ | refine Z.ZO.storeP rfl rfl hs rfl rfl (by kernel_rfl) (by first | (simp [Value.oneCell']; done) | (refine Z.all_one ?_; assumption)) (by first | exact SX.at0 | exact SX.at1 | exact SX.at2 | exact SX.at3 | exact SX.at4 | exact SX.at5 | exact Z.at6 | exact Z.at7 | exact Z.at8 | exact Z.at9 | exact Z.at10 | exact Z.at11 | exact Z.at12) (by first | decide | (simp; done) | (simp; omega)) ?_ | refine Z.ZO.storePR rfl rfl hs rfl rfl (by kernel_rfl) (by first | (simp [Value.oneCell']; done) | (refine Z.all_one ?_; assumption)) (by first | exact SX.at0 | exact SX.at1 | exact SX.at2 | exact SX.at3 | exact SX.at4 | exact SX.at5 | exact Z.at6 | exact Z.at7 | exact Z.at8 | exact Z.at9 | exact Z.at10 | exact Z.at11 | exact Z.at12) (by first | decide | (simp; done) | (simp; omega)) ?_
                    clear hs; intro ws hs
                    simp only [Nat.zero_add, Nat.add_zero, Nat.reduceAdd, Int.reduceToNat, Nat.reduceMul, List.set_cons_zero, List.set_cons_succ, List.setIfInBounds_toArray] at hs
                    try simp only [Z.putL, Nat.zero_add] at hs
                    refine Z.lb 1 rfl ?_
                    refine Z.lnil ?_
                    refine Z.only [0, 7, 14, 15, 16] rfl ?_
                    refine Z.nthen ?_
                    refine Z.seq ?_
                    refine Z.drawL [SX.Ent.blk g15 30 #[.slice A m.l.length c, .slice Bn m.l.length dn, .int .i64 (tickV m (x.at m.now)).1.now]] (fun _ => true) mixed hs ?_
                    clear hs; intro wd15 hs
                    refine Z.tb [0] (by kernel_rfl) rfl ⟨_, hs, by first | (simp; done) | exact fun e he => List.mem_append_right _ he⟩ rfl ?_
                    refine Z.t 1 rfl rfl rfl (by rfl) (by kernel_rfl) ⟨_, hs, by first | (simp; done) | exact fun e he => List.mem_append_right _ he⟩ (by first | exact Z.Yd.loadA _ rfl Try.isAgg30 (fun _ => Z.cellsB (by first | ((repeat (first | exact List.mem_cons_self | refine List.mem_cons_of_mem _ ?_ | refine List.mem_append_right _ ?_)); done) | fail)) (by exact Try.sizeOf30) | fail "load 15.1") ?_
                    refine Z.tb [2, 3, 6] (by kernel_rfl) rfl ⟨_, hs, by first | (simp; done) | exact fun e he => List.mem_append_right _ he⟩ rfl ?_
                    replace hs : SX.St w M _ (bkE g sv so m ++ ([SX.Ent.blk g15 30 #[.slice A m.l.length c, .slice Bn m.l.length dn, .int .i64 (tickV m (x.at m.now)).1.now], SX.Ent.blk g7 _ _] ++ Ln)) := SX.St.selT (L1 := [_, _, _, _, _, _, _]) hs [4, 5, 6, 0, 1] (by decide)
                    refine Z.tn 4 rfl rfl (by kernel_rfl) rfl trivial ?_
                    refine Z.ZO.call rfl rfl (by rfl) rfl rfl Try.call14 rfl (bk_tick g sv so m (x.at m.now) _ hs.lend hm) ?_
                    rintro v15_4 w15_4 ⟨rfl, hz⟩
                    replace hs := hs.regain hz
                    replace hs : SX.St w M _ ([SX.Ent.blk g15 _ _, SX.Ent.blk g7 30 #[.slice none 0 0, .slice none 0 0, .int .i64 0]] ++ (bkE g sv so (tickV m (x.at m.now)).1 ++ Ln)) := SX.St.selT (L1 := [_, _, _, _, _]) hs [3, 4, 0, 1, 2] (by decide)
                    refine Z.tk (Dn := fun _ => true) (i := 4) (fun _ => ⟨_, hs, by first | (simp; done) | exact fun e he => List.mem_append_right _ he⟩) ?_
                    refine Z.tn 5 rfl rfl (by kernel_rfl) rfl trivial ?_
                    refine Z.ZO.call rfl rfl (by rfl) rfl rfl Try.call15 rfl (bk_num _ _) ?_
                    rintro v15_5 w15_5 ⟨rfl, hy⟩
                    replace hs := hs.call hy
                    clear hy
                    try simp only [List.cons_append, List.nil_append, List.append_nil] at hs
                    refine Z.tk (Dn := fun _ => true) (i := 5) (fun _ => ⟨_, hs, by first | (simp; done) | exact fun e he => List.mem_append_right _ he⟩) ?_
                    refine Z.tb [7, 8] (by kernel_rfl) rfl ⟨_, hs, by first | (simp; done) | exact fun e he => List.mem_append_right _ he⟩ rfl ?_
                    refine Z.tn 9 rfl rfl (by kernel_rfl) rfl trivial ?_
                    first | refine Z.ZO.storeA rfl rfl hs rfl rfl (by kernel_rfl) (by first | (simp [Value.oneCell']; done) | (refine Z.all_one ?_; assumption)) (by first | exact SX.at0 | exact SX.at1 | exact SX.at2 | exact SX.at3 | exact SX.at4 | exact SX.at5 | exact Z.at6 | exact Z.at7 | exact Z.at8 | exact Z.at9 | exact Z.at10 | exact Z.at11 | exact Z.at12) (by rfl) ?_ | refine Z.ZO.storeP rfl rfl hs rfl rfl (by kernel_rfl) (by first | (simp [Value.oneCell']; done) | (refine Z.all_one ?_; assumption)) (by first | exact SX.at0 | exact SX.at1 | exact SX.at2 | exact SX.at3 | exact SX.at4 | exact SX.at5 | exact Z.at6 | exact Z.at7 | exact Z.at8 | exact Z.at9 | exact Z.at10 | exact Z.at11 | exact Z.at12) (by first | decide | (simp; done) | (simp; omega)) ?_ | refine Z.ZO.storePR rfl rfl hs rfl rfl (by kernel_rfl) (by first | (simp [Value.oneCell']; done) | (refine Z.all_one ?_; assumption)) (by first | exact SX.at0 | exact SX.at1 | exact SX.at2 | exact SX.at3 | exact SX.at4 | exact SX.at5 | exact Z.at6 | exact Z.at7 | exact Z.at8 | exact Z.at9 | exact Z.at10 | exact Z.at11 | exact Z.at12) (by first | decide | (simp; done) | (simp; omega)) ?_
                    clear hs; intro ws hs
                    simp only [Nat.zero_add, Nat.add_zero, Nat.reduceAdd, Int.reduceToNat, Nat.reduceMul, List.set_cons_zero, List.set_cons_succ, List.setIfInBounds_toArray] at hs
                    try simp only [Z.putL, Nat.zero_add] at hs
                    refine Z.tk (Dn := fun _ => true) (i := 9) (fun _ => ⟨_, hs, by first | (simp; done) | exact fun e he => List.mem_append_right _ he⟩) ?_
                    refine Z.tb [10] (by kernel_rfl) rfl ⟨_, hs, by first | (simp; done) | exact fun e he => List.mem_append_right _ he⟩ rfl ?_
                    refine Z.td (by rfl) (by kernel_rfl) ?_
                    refine Z.only [6, 7, 8] rfl ?_
                    refine Z.nthen ?_
                    refine Z.ret ?_
                    repeat (first | refine Z.rthen ?_ | refine Z.rblock ?_ | refine Z.rscope ?_)
                    -- ret#1
                    refine Z.out3 (by exact ⟨rfl, ⟨_, rfl, Z.rvcA hs Try.isAgg30 (by first | ((repeat (first | exact List.mem_cons_self | refine List.mem_cons_of_mem _ ?_ | refine List.mem_append_right _ ?_)); done) | fail) (by exact Try.sizeOf30)⟩, rfl, trivial⟩) ?_
                    rw [eA]
                    exact ⟨_, rfl, g, sv, so, Bn, dn, Ln, by simp, (show SX.St w M _ ([_, _] ++ (bkE g sv so (tickV m (x.at m.now)).1 ++ Ln)) from hs).sub (List.sublist_append_right _ _), hN⟩
                  )
            · first
                | (exfalso; simp at hc10 <;> omega)
                | (
                  (try simp at hc10)
                  have hw2 : ¬ isT x := by assumption
                  have eA : actB m x = m := by unfold actB; rw [if_neg hw, if_neg hw2]
                  refine Z.skip ?_
                  refine Z.nblock ?_
                  refine Z.nthen ?_
                  refine Z.seq ?_
                  refine Z.drawL [SX.Ent.blk g4 30 #[.slice A m.l.length c, .slice B m.l.length d, .int .i64 m.now]] (fun _ => true) mixed hs ?_
                  clear hs; intro wd16 hs
                  refine Z.tb [0] (by kernel_rfl) rfl ⟨_, hs, by first | (simp; done) | exact fun e he => List.mem_append_right _ he⟩ rfl ?_
                  refine Z.t 2 rfl rfl rfl (by rfl) (by kernel_rfl) ⟨_, hs, by first | (simp; done) | exact fun e he => List.mem_append_right _ he⟩ (by first | exact Z.Yd.loadA _ rfl Try.isAgg30 (fun _ => Z.cellsB (by first | ((repeat (first | exact List.mem_cons_self | refine List.mem_cons_of_mem _ ?_ | refine List.mem_append_right _ ?_)); done) | fail)) (by exact Try.sizeOf30) | fail "load 16.2") ?_
                  refine Z.tn 1 rfl rfl (by kernel_rfl) rfl trivial ?_
                  refine Z.ZO.call rfl rfl (by rfl) rfl rfl Try.call22 rfl (bk_copy g m _ (hs.bkR (sv := sv) (so := so) (fun e he ↦ by simp [bkE] at he ⊢; rcases he with rfl | rfl | rfl <;> simp)) hm) ?_
                  rintro v16_1 w16_1 ⟨g2, sv2, so2, rfl, hy⟩
                  replace hs := hs.call hy
                  clear hy
                  try simp only [List.cons_append, List.nil_append, List.append_nil] at hs
                  replace hs : SX.St w M _ (SX.Ent.blk g7 30 #[.slice none 0 0, .slice none 0 0, .int .i64 0] :: SX.Ent.blk g4 30 #[.slice A m.l.length c, .slice B m.l.length d, .int .i64 m.now] :: bkE g2 sv2 so2 m) := hs.sel [3, 5, 0, 1, 2] (by decide)
                  refine Z.tk (Dn := fun _ => true) (i := 1) (fun _ => ⟨_, hs, by first | (simp; done) | exact fun e he => List.mem_append_right _ he⟩) ?_
                  refine Z.tb [3] (by kernel_rfl) rfl ⟨_, hs, by first | (simp; done) | exact fun e he => List.mem_append_right _ he⟩ rfl ?_
                  refine Z.tn 4 rfl rfl (by kernel_rfl) rfl trivial ?_
                  first | refine Z.ZO.storeA rfl rfl hs rfl rfl (by kernel_rfl) (by first | (simp [Value.oneCell']; done) | (refine Z.all_one ?_; assumption)) (by first | exact SX.at0 | exact SX.at1 | exact SX.at2 | exact SX.at3 | exact SX.at4 | exact SX.at5 | exact Z.at6 | exact Z.at7 | exact Z.at8 | exact Z.at9 | exact Z.at10 | exact Z.at11 | exact Z.at12) (by rfl) ?_ | refine Z.ZO.storeP rfl rfl hs rfl rfl (by kernel_rfl) (by first | (simp [Value.oneCell']; done) | (refine Z.all_one ?_; assumption)) (by first | exact SX.at0 | exact SX.at1 | exact SX.at2 | exact SX.at3 | exact SX.at4 | exact SX.at5 | exact Z.at6 | exact Z.at7 | exact Z.at8 | exact Z.at9 | exact Z.at10 | exact Z.at11 | exact Z.at12) (by first | decide | (simp; done) | (simp; omega)) ?_ | refine Z.ZO.storePR rfl rfl hs rfl rfl (by kernel_rfl) (by first | (simp [Value.oneCell']; done) | (refine Z.all_one ?_; assumption)) (by first | exact SX.at0 | exact SX.at1 | exact SX.at2 | exact SX.at3 | exact SX.at4 | exact SX.at5 | exact Z.at6 | exact Z.at7 | exact Z.at8 | exact Z.at9 | exact Z.at10 | exact Z.at11 | exact Z.at12) (by first | decide | (simp; done) | (simp; omega)) ?_
                  clear hs; intro ws hs
                  simp only [Nat.zero_add, Nat.add_zero, Nat.reduceAdd, Int.reduceToNat, Nat.reduceMul, List.set_cons_zero, List.set_cons_succ, List.setIfInBounds_toArray] at hs
                  try simp only [Z.putL, Nat.zero_add] at hs
                  refine Z.tk (Dn := fun _ => true) (i := 4) (fun _ => ⟨_, hs, by first | (simp; done) | exact fun e he => List.mem_append_right _ he⟩) ?_
                  refine Z.tb [5] (by kernel_rfl) rfl ⟨_, hs, by first | (simp; done) | exact fun e he => List.mem_append_right _ he⟩ rfl ?_
                  refine Z.td (by rfl) (by kernel_rfl) ?_
                  refine Z.only [6, 7, 8] rfl ?_
                  refine Z.nthen ?_
                  refine Z.ret ?_
                  -- ret#2
                  refine Z.out3 (by exact ⟨rfl, ⟨_, rfl, Z.rvcA hs Try.isAgg30 (by first | ((repeat (first | exact List.mem_cons_self | refine List.mem_cons_of_mem _ ?_ | refine List.mem_append_right _ ?_)); done) | fail) (by exact Try.sizeOf30)⟩, rfl, trivial⟩) ?_
                  rw [eA]
                  exact ⟨_, rfl, g2, sv2, so2, B, d, [], rfl, by rw [List.append_nil]; exact (show SX.St w M _ ([_, _] ++ bkE g2 sv2 so2 m) from hs).sub (List.sublist_append_right _ _), .inr ⟨rfl, rfl, rfl, rfl⟩⟩
                  )
          )
end Go.Proofs.Ythdhobnkclddhaa

/- Buckets: any sequence of calls. -/
namespace Go.Proofs.Ythdhobnkclddhaa
open Go.RowKit
set_option linter.unusedSimpArgs false
set_option linter.unusedVariables false
--newlaws

def runB (m : BkV) (l : List AcV) : BkV := l.foldl actB m
theorem runB_snoc (m : BkV) (l : List AcV) (x : AcV) : runB m (l ++ [x]) = actB (runB m l) x := by simp [runB]
theorem BkV.ok.run {m : BkV} (h : m.ok) (l : List AcV) : (runB m l).ok := by
  unfold runB
  induction l generalizing m with
  | nil => exact h
  | cons x l ih => exact ih (h.act x)
theorem wkv_new (A : Option Addr) (n c : Nat) (l : List LgV) (w : World) (hx : Sl w A (l.flatMap LgV.cells)) (hl : l.length = n) (h : okSet l) :
    Calls Try.prog 10 #[.slice A n c] w (SX.Ret fun v w' => ∃ Ra Rb ca cb, v = .tuple #[.agg #[.slice Ra n ca, .slice Rb n cb, .int .i64 0], .int .i64 0] ∧ SX.St w [] w' [SX.Ent.row (.slice Ra n ca) 38 5 n (l.flatMap LgV.cells), SX.Ent.row (.slice Rb n cb) 3 1 n (ints .i64 (newB l).b)]) := by
  have := rv_new A n c l w hx hl
  simp only [if_pos h] at this
  exact this
theorem wkv_bad (A : Option Addr) (n c : Nat) (l : List LgV) (w : World) (hx : Sl w A (l.flatMap LgV.cells)) (hl : l.length = n) (h : ¬ okSet l) :
    Calls Try.prog 10 #[.slice A n c] w (SX.Ret fun v w' => v = .tuple #[.agg #[.slice none 0 0, .slice none 0 0, .int .i64 0], .int .i64 2] ∧ SX.St w [] w' []) := by
  have := rv_new A n c l w hx hl
  simp only [if_neg h] at this
  exact this
/-- the document's object, of which the rows are ours -/
def rvE (Ra Rb : Option Addr) (ca cb : Nat) (m : BkV) : List SX.Ent := [SX.Ent.row (.slice Ra m.l.length ca) 38 5 m.l.length (m.l.flatMap LgV.cells), SX.Ent.row (.slice Rb m.l.length cb) 3 1 m.l.length (ints .i64 m.b)]
def rvB (g : Nat) (Ra Rb : Option Addr) (ca cb : Nat) (m : BkV) : SX.Ent := SX.Ent.blk g 30 #[.slice Ra m.l.length ca, .slice Rb m.l.length cb, .int .i64 m.now]
theorem rd_logical {W : World} {cs : List Value} (z : Rd Try.prog W 38 cs) : ∃ x : LgV, cs = x.cells ∧ True := by
  obtain ⟨hl, hf⟩ := Rd.field Try.underlying38 z
  have c5 : Try.prog.cellsOf 38 = 5 := by kernel_rfl
  have c1 : Try.prog.cellsOf 3 = 1 := by kernel_rfl
  rw [c5] at hl
  obtain ⟨x0, x1, x2, x3, x4, rfl⟩ := list5 hl
  obtain ⟨a, ha, -⟩ := Rd.int Try.underlying3 (hf 0 _ rfl)
  obtain ⟨b, hb, -⟩ := Rd.int Try.underlying3 (hf 1 _ rfl)
  obtain ⟨p, hp, -⟩ := Rd.int Try.underlying3 (hf 2 _ rfl)
  obtain ⟨q, hq, -⟩ := Rd.int Try.underlying3 (hf 3 _ rfl)
  obtain ⟨r, hr, -⟩ := Rd.int Try.underlying3 (hf 4 _ rfl)
  simp [c1] at ha hb hp hq hr
  subst ha hb hp hq hr
  exact ⟨⟨a, b, p, q, r⟩, rfl, trivial⟩
theorem rd_logicals {W : World} {A : Option Addr} {n c : Nat} (z : Rd Try.prog W 22 [.slice A n c]) : ∃ l : List LgV, l.length = n ∧ n ≤ c ∧ c ≤ maxLen ∧ Sl W A (l.flatMap LgV.cells) := by
  have c8 : Try.prog.cellsOf 38 = 5 := by kernel_rfl
  obtain ⟨xs, h1, h2, h3, -, h5⟩ := Rd.rows LgV.cells (fun _ => True) Try.underlying22 (by rw [c8]; decide) (fun r hr => rd_logical hr) (fun x => c8.symm) z
  exact ⟨xs, h1, h2, h3, h5⟩
theorem ints_flat (xs : List Int) : ints .i64 xs = xs.flatMap fun x : Int => [Value.int .i64 x] := by
  induction xs with
  | nil => rfl
  | cons x xs ih => rw [List.flatMap_cons, ← ih]; rfl
theorem rd_ints {W : World} {A : Option Addr} {n c : Nat} (z : Rd Try.prog W 28 [.slice A n c]) : ∃ l : List Int, l.length = n ∧ n ≤ c ∧ c ≤ maxLen ∧ Sl W A (ints .i64 l) := by
  have c8 : Try.prog.cellsOf 3 = 1 := by kernel_rfl
  obtain ⟨xs, h1, h2, h3, -, h5⟩ := Rd.rows (fun x : Int => [Value.int .i64 x]) (fun _ => True) Try.underlying28 (by rw [c8]; decide) (fun r hr => by
    obtain ⟨n, hn, -⟩ := Rd.int Try.underlying3 hr
    exact ⟨n, hn, trivial⟩) (fun x => c8.symm) z
  refine ⟨xs, h1, h2, h3, ?_⟩
  rw [ints_flat]
  exact h5
theorem rd_act25 {W : World} {cs : List Value} (z : Rd Try.prog W 54 cs) : ∃ x : AcV, cs = x.cells ∧ Sl W x.D (ints .i64 x.d) := by
  obtain ⟨hl, hf⟩ := Rd.field Try.underlying54 z
  have c3 : Try.prog.cellsOf 54 = 3 := by kernel_rfl
  have c1 : Try.prog.cellsOf 3 = 1 := by kernel_rfl
  have c2 : Try.prog.cellsOf 28 = 1 := by kernel_rfl
  rw [c3] at hl
  obtain ⟨x0, x1, x2, rfl⟩ := list3 hl
  obtain ⟨a, ha, -⟩ := Rd.int Try.underlying3 (hf 0 _ rfl)
  obtain ⟨b, hb, -⟩ := Rd.int Try.underlying3 (hf 1 _ rfl)
  have hp : Rd Try.prog W 28 (([x0, x1, x2].drop 2).take (Try.prog.cellsOf 28)) := hf 2 _ rfl
  simp [c1] at ha hb
  rw [c2] at hp
  have hp' : Rd Try.prog W 28 [x2] := by simpa using hp
  have hsl : ∃ A n c, x2 = .slice A n c := by
    rcases Rd.slice Try.underlying28 hp' with h1 | ⟨a, len, cap, rows, h1, -⟩
    · exact ⟨none, 0, 0, by simpa using h1⟩
    · exact ⟨some a, len, cap, by simpa using h1⟩
  obtain ⟨A, n, c, rfl⟩ := hsl
  obtain ⟨l, h1, -, -, h4⟩ := rd_ints hp'
  subst ha hb h1
  exact ⟨⟨a, b, A, c, l⟩, rfl, h4⟩
theorem rd_acts25 {W : World} {A : Option Addr} {n c : Nat} (z : Rd Try.prog W 49 [.slice A n c]) : ∃ l : List AcV, l.length = n ∧ n ≤ c ∧ (∀ x ∈ l, Sl W x.D (ints .i64 x.d)) ∧ Sl W A (l.flatMap AcV.cells) := by
  have c8 : Try.prog.cellsOf 54 = 3 := by kernel_rfl
  obtain ⟨xs, h1, h2, h3, h4, h5⟩ := Rd.rows AcV.cells (fun x => Sl W x.D (ints .i64 x.d)) Try.underlying49 (by rw [c8]; decide) (fun r hr => rd_act25 hr) (fun x => c8.symm) z
  exact ⟨xs, h1, h2, h4, h5⟩
end Go.Proofs.Ythdhobnkclddhaa

/- Buckets: the iterator over the channels in the order of service. -/
namespace Go.Proofs.Ythdhobnkclddhaa
open Go.RowKit
set_option linter.unusedSimpArgs false
set_option linter.unusedVariables false
--newlaws

end Go.Proofs.Ythdhobnkclddhaa

/- Buckets: objects that are nil or zero. -/
namespace Go.Proofs.Ythdhobnkclddhaa
open Go.RowKit
set_option linter.unusedSimpArgs false
set_option linter.unusedVariables false
--newlaws

/-- nil, or a zero object -/
def NonP (w : World) (p : Option Addr) : Prop := p = none ∨ ∃ g, p = some ⟨g, 0, none⟩ ∧ Cel w g [.slice none 0 0, .slice none 0 0, .int .i64 0]
theorem NonP.st {w W : World} {L : List SX.Ent} {p : Option Addr} (h : NonP w p) (hW : SX.St w [] W L) : NonP W p := by
  rcases h with h | ⟨g, h, hc⟩
  · exact .inl h
  · exact .inr ⟨g, h, hc.st hW⟩
end Go.Proofs.Ythdhobnkclddhaa

/- Buckets: copies, and the equality of objects. -/
namespace Go.Proofs.Ythdhobnkclddhaa
open Go.RowKit
set_option linter.unusedSimpArgs false
set_option linter.unusedVariables false
--newlaws

theorem NewB.sl {Bn B : Option Addr} {dn d : Nat} {m m' : BkV} {Ln L : List SX.Ent} (h : NewB Bn B dn d m m' Ln) {w0 w : World} {M : List Nat} (hs : SX.St w0 M w L) (hL : ∀ e ∈ Ln, e ∈ L) (hB : SX.Ent.row (.slice B m.l.length d) 3 1 m.l.length (ints .i64 m.b) ∈ L) : Sl w Bn (ints .i64 m'.b) := by
  rcases h with rfl | ⟨rfl, rfl, rfl, e⟩
  · exact hs.slm (hL _ List.mem_cons_self)
  · rw [e]; exact hs.slm hB
theorem bk_sameNil (g : Nat) (m : BkV) (w : World) (hr : BkR w g m) (hm : m.ok) : Calls Try.prog 16 #[.pointer (some ⟨g, 0, none⟩), .pointer none] w (SX.Ret fun v w' => v = .bool false ∧ SX.St w [] w' []) := by
  have hs := SX.St.start w
  obtain ⟨A, c, B, d, hc, hA, hB⟩ := hr
  have hpos := hm.pos
  refine Z.enter Try.func16 rfl Try.ntmps16 rfl rfl ?_
  refine Z.seq ?_
  refine Z.region ?_
  refine Z.lb 1 rfl ?_
  refine Z.lnil ?_
  refine Z.only [0, 1] rfl ?_
  refine Z.nthen ?_
  refine Z.seq ?_
  refine Z.seq ?_
  refine Z.region ?_
  refine Z.lb 1 rfl ?_
  refine Z.le rfl trivial ?_
  refine Z.ZO.call rfl rfl (by rfl) rfl rfl Try.call35 rfl (bk_none g _ _ _ _ _ _ hc) ?_
  rintro v1_1 w1_1 ⟨rfl, hy⟩
  replace hs := hs.call hy
  clear hy
  try simp only [List.cons_append, List.nil_append, List.append_nil] at hs
  refine Z.lb 1 rfl ?_
  refine Z.yes (s := 7) (b := false) rfl ((by rw [decide_eq_false (by omega)])) rfl ?_
  refine Z.lb 1 rfl ?_
  refine Z.yes (s := 7) (b := false) rfl rfl rfl ?_
  refine Z.le rfl (by exact ⟨rfl, trivial⟩) ?_
  refine Z.ZO.call rfl rfl (by rfl) rfl rfl Try.call35 rfl (bk_none0 _) ?_
  rintro v1_4 w1_4 ⟨rfl, hy⟩
  replace hs := hs.call hy
  clear hy
  try simp only [List.cons_append, List.nil_append, List.append_nil] at hs
  refine Z.l rfl rfl (by rfl) (Z.keepS hs) (Z.Yd.pickF rfl rfl) ?_
  refine Z.lnil ?_
  refine Z.only [0, 1, 10] rfl ?_
  refine Z.nthen ?_
  refine Z.cond rfl (fun hc1 => ?_) (fun h => absurd h (by simp))
  refine Z.seq ?_
  refine Z.region ?_
  refine Z.lb 1 rfl ?_
  refine Z.le rfl trivial ?_
  refine Z.ZO.call rfl rfl (by rfl) rfl rfl Try.call35 rfl (bk_none g _ _ _ _ _ _ (hc.st hs)) ?_
  rintro v2_1 w2_1 ⟨rfl, hy⟩
  replace hs := hs.call hy
  clear hy
  try simp only [List.cons_append, List.nil_append, List.append_nil] at hs
  refine Z.lb 1 rfl ?_
  refine Z.yes (s := 13) (b := false) rfl ((by rw [decide_eq_false (by omega)])) rfl ?_
  refine Z.ls rfl rfl rfl (by rfl) ?_
  refine Z.ls rfl rfl rfl (by rfl) ?_
  refine Z.l rfl rfl (by rfl) (Z.keepS hs) (Z.Yd.pickF rfl rfl) ?_
  refine Z.lb 1 rfl ?_
  refine Z.lnil ?_
  refine Z.only [4] rfl ?_
  refine Z.nthen ?_
  refine Z.ret ?_
  repeat (first | refine Z.rthen ?_ | refine Z.rblock ?_ | refine Z.rscope ?_)
  -- ret#0
  refine Z.out1 (by exact ⟨rfl, trivial⟩) ?_
  first | exact ⟨_, rfl, rfl, hs⟩ | exact ⟨_, rfl, rfl, hs.sub (List.nil_sublist _)⟩
/-- what Same says of what New returned -/
def SamC (p : Value) (ls : List LgV) (Ln : List SX.Ent) : Prop := ∀ w0 M W L, SX.St w0 M W L → (∀ e ∈ Ln, e ∈ L) → ∀ g m, BkR W g m → m.ok → Calls Try.prog 16 #[.pointer (some ⟨g, 0, none⟩), p] W (SX.Ret fun v w' => v = .bool (decide (okSet ls ∧ m = newB ls)) ∧ SX.St W [] w' [])
theorem bk_newS (A : Option Addr) (n c : Nat) (ls : List LgV) (w : World) (hx : Sl w A (ls.flatMap LgV.cells)) (hl : ls.length = n) (hn : n ≤ 1000) (hc : n ≤ c) :
    Calls Try.prog 9 #[.slice A n c] w (SX.Ret fun v w' => ∃ p Ln, v = .tuple #[p, .int .i64 (if okSet ls then 0 else 2)] ∧ SX.St w [] w' Ln ∧ SamC p ls Ln) := by
  refine (bk_new A n c ls w hx hl hn hc).mono ?_
  rintro e w' ⟨v, h1, h2⟩
  refine ⟨v, h1, ?_⟩
  by_cases h : okSet ls
  · rw [if_pos h] at h2
    obtain ⟨g, sv, so, rfl, h3⟩ := h2
    refine ⟨_, _, by rw [if_pos h], h3, fun w0 M W L hs hL g1 m hr hm => ?_⟩
    have := bk_same g1 g m (newB ls) W hr (hs.bkR hL) hm (newB_ok h)
    rw [show decide (okSet ls ∧ m = newB ls) = decide (m = newB ls) by simp [h]]
    exact this
  · rw [if_neg h] at h2
    obtain ⟨rfl, h3⟩ := h2
    refine ⟨_, _, by rw [if_neg h], h3, fun w0 M W L hs hL g1 m hr hm => ?_⟩
    rw [show decide (okSet ls ∧ m = newB ls) = false by simp [h]]
    exact bk_sameNil g1 m W hr hm
theorem rv_newS (A : Option Addr) (n c : Nat) (ls : List LgV) (w : World) (hx : Sl w A (ls.flatMap LgV.cells)) (hl : ls.length = n) :
    Calls Try.prog 10 #[.slice A n c] w (SX.Ret fun v w' => ∃ Ra Rb ka kb ca cb Ln, v = .tuple #[.agg #[.slice Ra ka ca, .slice Rb kb cb, .int .i64 0], .int .i64 (if okSet ls then 0 else 2)] ∧ SX.St w [] w' Ln ∧ (okSet ls → ∀ w0 M W L, SX.St w0 M W L → (∀ e ∈ Ln, e ∈ L) → ∀ (A' B' : Option Addr) (c' d' : Nat) (m : BkV) (k : Nat), m.l.length = k → Sl W A' (m.l.flatMap LgV.cells) → Sl W B' (ints .i64 m.b) → m.ok →
      Calls Try.prog 23 #[.agg #[.slice A' k c', .slice B' k d', .int .i64 m.now], .agg #[.slice Ra ka ca, .slice Rb kb cb, .int .i64 0]] W (SX.Ret fun v w' => v = .bool (decide (m = newB ls)) ∧ SX.St W [] w' []))) := by
  refine (rv_new A n c ls w hx hl).mono ?_
  rintro e w' ⟨v, h1, h2⟩
  refine ⟨v, h1, ?_⟩
  by_cases h : okSet ls
  · rw [if_pos h] at h2
    obtain ⟨Ra, Rb, ca, cb, rfl, h3⟩ := h2
    subst hl
    refine ⟨Ra, Rb, ls.length, ls.length, ca, cb, _, by rw [if_pos h]; rfl, h3, fun _ w0 M W L hs hL A' B' c' d' m k hk hA hB hm => ?_⟩
    subst hk
    exact rv_same A' B' Ra Rb c' d' ca cb m (newB ls) W hA hB (hs.slm (hL _ List.mem_cons_self)) (hs.slm (hL _ (List.mem_cons_of_mem _ List.mem_cons_self))) hm (newB_ok h)
  · rw [if_neg h] at h2
    obtain ⟨rfl, h3⟩ := h2
    exact ⟨none, none, 0, 0, 0, 0, _, by rw [if_neg h]; rfl, h3, fun h' => absurd h' h⟩
theorem bk_isL (g : Nat) (A B : Option Addr) (c d : Nat) (m : BkV) (k : Nat) (w : World) (hk : m.l.length = k) (hr : BkR w g m) (hA : Sl w A (m.l.flatMap LgV.cells)) (hB : Sl w B (ints .i64 m.b)) (hm : m.ok) :
    Calls Try.prog 21 #[.pointer (some ⟨g, 0, none⟩), .agg #[.slice A k c, .slice B k d, .int .i64 m.now]] w (SX.Ret fun v w' => v = .bool true ∧ SX.St w [] w' []) := by
  subst hk
  exact bk_is g A B c d m w hr hA hB hm
theorem rv_sameL (A B A' B' : Option Addr) (c d c' d' : Nat) (m k : BkV) (j1 j2 : Nat) (w : World) (h1 : m.l.length = j1) (h2 : k.l.length = j2) (hA : Sl w A (m.l.flatMap LgV.cells)) (hB : Sl w B (ints .i64 m.b)) (hA' : Sl w A' (k.l.flatMap LgV.cells)) (hB' : Sl w B' (ints .i64 k.b)) (hm : m.ok) (hk : k.ok) :
    Calls Try.prog 23 #[.agg #[.slice A j1 c, .slice B j1 d, .int .i64 m.now], .agg #[.slice A' j2 c', .slice B' j2 d', .int .i64 k.now]] w (SX.Ret fun v w' => v = .bool (decide (m = k)) ∧ SX.St w [] w' []) := by
  subst h1 h2
  exact rv_same A B A' B' c d c' d' m k w hA hB hA' hB' hm hk
set_option maxHeartbeats 2000000 in
set_option maxRecDepth 100000 in
theorem bucketCopies_walk (A C O : Option Addr) (n c k d no co : Nat) (ls lo : List LgV) (l : List AcV) (x1 x2 : AcV) (w : World) (hx : Sl w A (ls.flatMap LgV.cells)) (hl : ls.length = n) (hc : n ≤ c) (hq : Sl w C (l.flatMap AcV.cells)) (hk : l.length = k) (hg : ∀ x ∈ l, Sl w x.D (ints .i64 x.d))
    (hO : Sl w O (lo.flatMap LgV.cells)) (hol : lo.length = no) (hco : no ≤ co) (hg1 : Sl w x1.D (ints .i64 x1.d)) (hg2 : Sl w x2.D (ints .i64 x2.d)) :
    Calls Try.prog 6 #[.slice A n c, .slice C k d, .agg (x1.cells ++ x2.cells).toArray, .slice O no co] w (SX.Ret fun v w' => v = .bool true ∧ SX.St w [] w' []) := by
  have hs := SX.St.start w
  have e6 : ∀ {g T : Nat}, SX.Ent.blk g T (x1.cells ++ x2.cells).toArray = SX.Ent.blk g T #[.int .i64 x1.w, .int .i64 x1.n, .slice x1.D x1.d.length x1.c, .int .i64 x2.w, .int .i64 x2.n, .slice x2.D x2.d.length x2.c] := rfl
  by_cases h12 : n ≤ 12 ∧ no ≤ 12
  · by_cases hf : fewL l 10
    · by_cases hf2 : fewL [x1, x2] 2
      · have h1b := hf2.2 x1 (by simp)
        have h2b := hf2.2 x2 (by simp)
        have h10 : k ≤ 10 := by rw [← hk]; exact hf.1
        by_cases hset : okSet ls
        · have hok := newB_ok hset
          refine Z.enter Try.func6 rfl Try.ntmps6 rfl rfl ?_
          refine Z.seq ?_
          refine Z.region ?_
          refine Z.le rfl trivial ?_
          refine Z.ZO.box rfl rfl (by rfl) rfl rfl hs ?_
          clear hs; intro g6 w6 hs
          refine Z.lb 1 rfl ?_
          refine Z.lnil ?_
          refine Z.only [0, 1, 3, 6] rfl ?_
          refine Z.nthen ?_
          refine Z.seq ?_
          refine Z.seq ?_
          refine Z.region ?_
          refine Z.lb 1 rfl ?_
          refine Z.l rfl rfl (by rfl) (Z.keepS hs) (Z.Yd.lenS rfl Try.underlying22) ?_
          refine Z.lb 2 rfl ?_
          refine Z.yes (s := 26) (b := false) rfl ((by simp; omega)) rfl ?_
          refine Z.lb 1 rfl ?_
          refine Z.l rfl rfl (by rfl) (Z.keepS hs) (Z.Yd.lenS rfl Try.underlying22) ?_
          refine Z.lb 1 rfl ?_
          refine Z.yes (s := 26) (b := false) rfl rfl rfl ?_
          refine Z.l rfl rfl (by rfl) (Z.keepS hs) (Z.Yd.pickF rfl rfl) ?_
          refine Z.lb 1 rfl ?_
          refine Z.yes (s := 31) (b := false) rfl ((by simp; omega)) rfl ?_
          refine Z.lb 1 rfl ?_
          refine Z.yes (s := 31) (b := false) rfl rfl rfl ?_
          refine Z.le rfl (by exact ⟨rfl, trivial⟩) ?_
          refine Z.ZO.call rfl rfl (by rfl) rfl rfl Try.call19 rfl (bk_few C k d 10 l _ (hq.st (hs.sub (List.nil_sublist _))) hk (by omega)) ?_
          rintro v1_10 w1_10 ⟨rfl, hy⟩
          replace hs := hs.call hy
          clear hy
          try simp only [List.cons_append, List.nil_append, List.append_nil] at hs
          refine Z.lb 1 rfl ?_
          refine Z.yes (s := 31) (b := false) rfl rfl rfl ?_
          refine Z.l rfl rfl (by rfl) (Z.keepS hs) (Z.Yd.pickF rfl rfl) ?_
          refine Z.lb 1 rfl ?_
          refine Z.yes (s := 36) (b := false) rfl ((by simp [hf])) rfl ?_
          refine Z.l rfl rfl (by rfl) (Z.keepS hs) (Z.Yd.cutA rfl Try.underlying57 Try.sizeOf54) ?_
          refine Z.yes (s := 36) (b := false) rfl rfl rfl ?_
          refine Z.le rfl (by exact ⟨rfl, trivial⟩) ?_
          refine Z.ZO.call rfl rfl (by rfl) rfl rfl Try.call19 rfl (bk_few (some ⟨g6, 0, none⟩) 2 2 2 [x1, x2] _ (by have h0 := hs.blkSl (g := g6) (cs := (x1.cells ++ x2.cells).toArray) List.mem_cons_self; simpa using h0) rfl (by omega)) ?_
          rintro v1_15 w1_15 ⟨rfl, hy⟩
          replace hs := hs.call hy
          clear hy
          try simp only [List.cons_append, List.nil_append, List.append_nil] at hs
          refine Z.lb 1 rfl ?_
          refine Z.yes (s := 36) (b := false) rfl rfl rfl ?_
          refine Z.l rfl rfl (by rfl) (Z.keepS hs) (Z.Yd.pickF rfl rfl) ?_
          refine Z.lnil ?_
          refine Z.only [0, 1, 3, 6, 40] rfl ?_
          refine Z.nthen ?_
          refine Z.cond rfl (fun h => absurd h (by simp [hf2])) (fun hc1 => ?_)
          refine Z.skip ?_
          refine Z.nthen ?_
          refine Z.seq ?_
          refine Z.region ?_
          refine Z.lb 1 rfl ?_
          refine Z.le rfl trivial ?_
          refine Z.ZO.call rfl rfl (by rfl) rfl rfl Try.call9 rfl (wk25_new A n c ls _ (hx.st (hs.sub (List.nil_sublist _))) hl (by omega) hc hset) ?_
          rintro v3_1 w3_1 ⟨g, sv, so, rfl, hy⟩
          replace hs := hs.call hy
          clear hy
          try simp only [List.cons_append, List.nil_append, List.append_nil] at hs
          refine Z.lb 5 rfl ?_
          refine Z.lnil ?_
          refine Z.only [0, 1, 3, 6, 9, 10] rfl ?_
          refine Z.nthen ?_
          refine Z.seq ?_
          refine Z.region ?_
          refine Z.lb 1 rfl ?_
          refine Z.le rfl trivial ?_
          refine Z.ZO.call rfl rfl (by rfl) rfl rfl Try.call10 rfl (wkv_new A n c ls _ (hx.st (hs.sub (List.nil_sublist _))) hl hset) ?_
          rintro v4_1 w4_1 ⟨Ra, Rb, ca, cb, rfl, hy⟩
          replace hs := hs.call hy
          clear hy
          try simp only [List.cons_append, List.nil_append, List.append_nil] at hs
          refine Z.lb 3 rfl ?_
          refine Z.le rfl trivial ?_
          refine Z.ZO.alloc rfl rfl (by rfl) Try.zeroValue30 rfl hs ?_
          clear hs; intro g11 w11 hs
          refine Z.le rfl trivial ?_
          first | refine Z.ZO.storeA rfl rfl hs rfl rfl (by kernel_rfl) (by first | (simp [Value.oneCell']; done) | (refine Z.all_one ?_; assumption)) (by first | exact SX.at0 | exact SX.at1 | exact SX.at2 | exact SX.at3 | exact SX.at4 | exact SX.at5 | exact Z.at6 | exact Z.at7 | exact Z.at8 | exact Z.at9 | exact Z.at10 | exact Z.at11 | exact Z.at12) (by rfl) ?_ | refine Z.ZO.storeP rfl rfl hs rfl rfl (by kernel_rfl) (by first | (simp [Value.oneCell']; done) | (refine Z.all_one ?_; assumption)) (by first | exact SX.at0 | exact SX.at1 | exact SX.at2 | exact SX.at3 | exact SX.at4 | exact SX.at5 | exact Z.at6 | exact Z.at7 | exact Z.at8 | exact Z.at9 | exact Z.at10 | exact Z.at11 | exact Z.at12) (by first | decide | (simp; done) | (simp; omega)) ?_ | refine Z.ZO.storePR rfl rfl hs rfl rfl (by kernel_rfl) (by first | (simp [Value.oneCell']; done) | (refine Z.all_one ?_; assumption)) (by first | exact SX.at0 | exact SX.at1 | exact SX.at2 | exact SX.at3 | exact SX.at4 | exact SX.at5 | exact Z.at6 | exact Z.at7 | exact Z.at8 | exact Z.at9 | exact Z.at10 | exact Z.at11 | exact Z.at12) (by first | decide | (simp; done) | (simp; omega)) ?_
          clear hs; intro ws hs
          simp only [Nat.zero_add, Nat.add_zero, Nat.reduceAdd, Int.reduceToNat, Nat.reduceMul, List.set_cons_zero, List.set_cons_succ, List.setIfInBounds_toArray] at hs
          try simp only [Z.putL, Nat.zero_add] at hs
          refine Z.lb 1 rfl ?_
          refine Z.lnil ?_
          refine Z.only [1, 3, 6, 9, 10, 11, 12] rfl ?_
          refine Z.nthen ?_
          refine Z.seq ?_
          refine Z.seq ?_
          refine Z.region ?_
          refine Z.lb 2 rfl ?_
          refine Z.lnil ?_
          refine Z.only [1, 3, 6, 9, 10, 11, 12, 53] rfl ?_
          refine Z.nthen ?_
          refine Z.cond rfl (fun h => absurd h (by simp)) (fun hc5 => ?_)
          refine Z.skip ?_
          refine Z.nthen ?_
          refine Z.seq ?_
          refine Z.seq ?_
          refine Z.region ?_
          subst hl
          replace hs : SX.St w [] _ (bkE g sv so (newB ls) ++ (rvB g11 Ra Rb ca cb (newB ls) :: rvE Ra Rb ca cb (newB ls) ++ [SX.Ent.blk g6 57 (x1.cells ++ x2.cells).toArray])) := hs.sel [3, 4, 5, 0, 1, 2, 6] (by decide)
          refine Z.l rfl rfl (by rfl) (Z.keepS hs) (Z.Yd.pure rfl) ?_
          refine Z.lnil ?_
          refine Z.only [1, 3, 6, 9, 11, 13] rfl ?_
          refine Z.nthen ?_
          refine Z.block ?_
          refine Z.loopk (ι := Nat × Nat × Value × Value × Option Addr × Nat) [1, 3, 6, 11] rfl (fun x => [(9, [], .pointer (some ⟨x.2.1, 0, none⟩)), (13, [], .int .i64 (x.1 : Int))]) (fun x wr => x.1 ≤ k ∧ SX.St w [] wr (bkE x.2.1 x.2.2.1 x.2.2.2.1 (runB (newB ls) (l.take x.1)) ++ (rvB g11 Ra x.2.2.2.2.1 ca x.2.2.2.2.2 (runB (newB ls) (l.take x.1)) :: rvE Ra x.2.2.2.2.1 ca x.2.2.2.2.2 (runB (newB ls) (l.take x.1)) ++ [SX.Ent.blk g6 57 (x1.cells ++ x2.cells).toArray]))) (fun x => k - x.1) (0, g, sv, so, Rb, cb) (by refine ⟨?_, ?_, trivial⟩ <;> (first | rfl | (refine Z.lookv rfl ?_; simp; done) | (refine Z.lookv rfl ?_; simp; omega))) ⟨Nat.zero_le _, hs⟩ ?_
          clear hs
          rintro ⟨i, gi, svi, soi, Rc, cc⟩ w9 ⟨hi, hs⟩
          refine Z.only [1, 3, 6, 9, 11, 13] rfl ?_
          (try dsimp only at hs)
          dsimp only at hi hs
          refine Z.seq ?_
          refine Z.seq ?_
          refine Z.region ?_
          refine Z.lb 2 rfl ?_
          refine Z.l rfl rfl (by rfl) (Z.keepS hs) (Z.Yd.lenS rfl Try.underlying49) ?_
          refine Z.lb 1 rfl ?_
          refine Z.lnil ?_
          refine Z.only [1, 3, 6, 9, 11, 13, 64] rfl ?_
          refine Z.nthen ?_
          refine Z.cond rfl (fun hc8 => ?_) (fun hc8 => ?_)
          · first
              | (exfalso; simp at hc8 <;> omega)
              | (
                (try simp at hc8)
                obtain ⟨bk, off, rfl, hq2⟩ := hq.sx.some (by rw [flat_len ac_len]; omega)
                obtain ⟨y, hyk⟩ : ∃ f, l[i]? = some f := ⟨_, List.getElem?_eq_getElem (by omega)⟩
                have hgy := hg y (List.mem_of_getElem? hyk)
                have hy12 := hf.2 y (List.mem_of_getElem? hyk)
                have hnx : runB (newB ls) (l.take (i + 1)) = actB (runB (newB ls) (l.take i)) y := by rw [List.take_add_one, hyk]; exact runB_snoc _ _ _
                have hmo : (runB (newB ls) (l.take i)).ok := hok.run _
                generalize runB (newB ls) (l.take i) = mk at hs hnx hmo
                replace hs : SX.St w [] w9 (bkE gi svi soi mk ++ [SX.Ent.blk g11 30 #[.slice Ra mk.l.length ca, .slice Rc mk.l.length cc, .int .i64 mk.now], SX.Ent.row (.slice Ra mk.l.length ca) 38 5 mk.l.length (mk.l.flatMap LgV.cells), SX.Ent.row (.slice Rc mk.l.length cc) 3 1 mk.l.length (ints .i64 mk.b), SX.Ent.blk g6 57 (x1.cells ++ x2.cells).toArray]) := hs
                refine Z.skip ?_
                refine Z.nthen ?_
                refine Z.seq ?_
                refine Z.block ?_
                refine Z.drawL [SX.Ent.blk g11 30 #[.slice Ra mk.l.length ca, .slice Rc mk.l.length cc, .int .i64 mk.now]] (fun j => !([8, 9, 10, 11, 12].contains j)) mixed hs ?_
                clear hs; intro wd10 hs
                refine Z.tX 0 [0, 6, 7, 8, 9, 10, 11, 12] rfl rfl rfl (by rfl) (by kernel_rfl) ⟨_, hs, by first | (simp; done) | exact fun e he => List.mem_append_right _ he⟩ (Z.Yd.pure rfl) ?_
                refine Z.tX 1 [1, 6, 7, 8, 9, 10, 11, 12] rfl rfl rfl (by rfl) (by kernel_rfl) ⟨_, hs, by first | (simp; done) | exact fun e he => List.mem_append_right _ he⟩ (Z.Yd.loadA _ rfl Try.isAgg30 (fun _ => Z.cellsB (cs := [.slice Ra mk.l.length ca, .slice Rc mk.l.length cc, .int .i64 mk.now]) (by first | ((repeat (first | exact List.mem_cons_self | refine List.mem_cons_of_mem _ ?_ | refine List.mem_append_right _ ?_)); done) | fail)) (by exact Try.sizeOf30)) ?_
                refine Z.tX 2 [2, 4, 5, 6, 7, 8, 9, 10, 11, 12] rfl rfl rfl (by rfl) (by kernel_rfl) ⟨_, hs, by first | (simp; done) | exact fun e he => List.mem_append_right _ he⟩ (Z.Yd.pure rfl) ?_
                refine Z.tX 3 [3, 4, 5, 6, 7, 8, 9, 10, 11, 12] rfl rfl rfl (by rfl) (by kernel_rfl) ⟨_, hs, by first | (simp; done) | exact fun e he => List.mem_append_right _ he⟩ (Z.Yd.pure rfl) ?_
                refine Z.tX 4 [4, 5, 6, 7, 8, 9, 10, 11, 12] rfl rfl rfl (by rfl) (by kernel_rfl) ⟨_, hs, by first | (simp; done) | exact fun e he => List.mem_append_right _ he⟩ (Z.Yd.elem rfl rfl Try.underlying49 Try.sizeOf54 (fun hG => ⟨(by first | omega | (have hG' := Z.gh rfl hG; simp at hG'; omega)), (by first | omega | (have hG' := Z.gh rfl hG; simp at hG'; omega))⟩)) ?_
                refine Z.tX 5 [5, 6, 7, 8, 9, 10, 11, 12] rfl rfl rfl (by rfl) (by kernel_rfl) ⟨_, hs, by first | (simp; done) | exact fun e he => List.mem_append_right _ he⟩ (Z.Yd.loadA _ rfl Try.isAgg54 (fun _ => Z.cellsX y.cells hq2 ac_len hyk rfl) (by exact Try.sizeOf54)) ?_
                replace hs : SX.St w [] _ (bkE gi svi soi mk ++ [SX.Ent.blk g11 30 #[.slice Ra mk.l.length ca, .slice Rc mk.l.length cc, .int .i64 mk.now], SX.Ent.row (.slice Ra mk.l.length ca) 38 5 mk.l.length (mk.l.flatMap LgV.cells), SX.Ent.row (.slice Rc mk.l.length cc) 3 1 mk.l.length (ints .i64 mk.b), SX.Ent.blk g6 57 (x1.cells ++ x2.cells).toArray]) := hs
                refine Z.tn 6 rfl rfl (by kernel_rfl) rfl trivial ?_
                refine Z.ZO.call rfl rfl (by rfl) rfl rfl Try.call20 rfl (bk_act gi svi soi Ra Rc ca cc mk y _ hs.lend hmo (Z.row_lentv hs (j := 1) rfl) (Z.row_lentv hs (j := 2) rfl) (hgy.sx.lent hs) (by omega)) ?_
                rintro v10_6 w10_6 ⟨gn, svn, son, Rn, cn, Ln, rfl, hz, hN⟩
                replace hs := hs.regain hz
                have hml2 : (actB mk y).l = mk.l := actB_l _ _
                replace hs : SX.St w [] w10_6 (bkE gn svn son (actB mk y) ++ [SX.Ent.blk g11 30 #[.slice Ra mk.l.length ca, .slice Rc mk.l.length cc, .int .i64 mk.now], SX.Ent.row (.slice Ra mk.l.length ca) 38 5 mk.l.length (mk.l.flatMap LgV.cells), SX.Ent.row (.slice Rn mk.l.length cn) 3 1 mk.l.length (ints .i64 (actB mk y).b), SX.Ent.blk g6 57 (x1.cells ++ x2.cells).toArray]) := by
                  rcases hN with rfl | ⟨rfl, rfl, rfl, e⟩
                  · exact hs.sel [0, 1, 2, 4, 5, 3, 7] (by decide)
                  · rw [e]; exact hs.sel [0, 1, 2, 3, 4, 5, 6] (by decide)
                simp only [bkE, List.cons_append, List.nil_append] at hs
                refine Z.tk (Dn := fun j => !([8, 9, 10, 11, 12].contains j)) (i := 6) (fun _ => ⟨_, hs, by first | (simp; done) | exact fun e he => List.mem_append_right _ he⟩) ?_
                refine Z.tX 7 [7, 8, 9, 10, 11, 12] rfl rfl rfl (by rfl) (by kernel_rfl) ⟨_, hs, by first | (simp; done) | exact fun e he => List.mem_append_right _ he⟩ (Z.Yd.pure rfl) ?_
                refine Z.tY 8 [8, 11, 12] rfl rfl rfl (by rfl) (by kernel_rfl) (Z.Yd.pure rfl) ?_
                refine Z.tY 9 [9, 12] rfl rfl rfl (by rfl) (by kernel_rfl) (Z.Yd.pure rfl) ?_
                refine Z.tY 10 [10] rfl rfl rfl (by rfl) (by kernel_rfl) (Z.Yd.pure rfl) ?_
                refine Z.tY 11 [11, 12] rfl rfl rfl (by rfl) (by kernel_rfl) (Z.Yd.pure rfl) ?_
                refine Z.tn 12 rfl rfl (by kernel_rfl) rfl trivial ?_
                first | refine Z.ZO.storeA rfl rfl hs rfl rfl (by kernel_rfl) (by first | (simp [Value.oneCell']; done) | (refine Z.all_one ?_; assumption)) (by first | exact SX.at0 | exact SX.at1 | exact SX.at2 | exact SX.at3 | exact SX.at4 | exact SX.at5 | exact Z.at6 | exact Z.at7 | exact Z.at8 | exact Z.at9 | exact Z.at10 | exact Z.at11 | exact Z.at12) (by rfl) ?_ | refine Z.ZO.storeP rfl rfl hs rfl rfl (by kernel_rfl) (by first | (simp [Value.oneCell']; done) | (refine Z.all_one ?_; assumption)) (by first | exact SX.at0 | exact SX.at1 | exact SX.at2 | exact SX.at3 | exact SX.at4 | exact SX.at5 | exact Z.at6 | exact Z.at7 | exact Z.at8 | exact Z.at9 | exact Z.at10 | exact Z.at11 | exact Z.at12) (by first | decide | (simp; done) | (simp; omega)) ?_ | refine Z.ZO.storePR rfl rfl hs rfl rfl (by kernel_rfl) (by first | (simp [Value.oneCell']; done) | (refine Z.all_one ?_; assumption)) (by first | exact SX.at0 | exact SX.at1 | exact SX.at2 | exact SX.at3 | exact SX.at4 | exact SX.at5 | exact Z.at6 | exact Z.at7 | exact Z.at8 | exact Z.at9 | exact Z.at10 | exact Z.at11 | exact Z.at12) (by first | decide | (simp; done) | (simp; omega)) ?_
                clear hs; intro ws hs
                simp only [Nat.zero_add, Nat.add_zero, Nat.reduceAdd, Int.reduceToNat, Nat.reduceMul, List.set_cons_zero, List.set_cons_succ, List.setIfInBounds_toArray] at hs
                try simp only [Z.putL, Nat.zero_add] at hs
                refine Z.tk (Dn := fun j => !([8, 9, 10, 11, 12].contains j)) (i := 12) (fun h => absurd h (by decide)) ?_
                refine Z.td (by rfl) (by kernel_rfl) ?_
                refine Z.only [1, 3, 6, 9, 11, 13] rfl ?_
                refine Z.nblock ?_
                refine Z.nthen ?_
                refine Z.region ?_
                refine Z.lb 1 rfl ?_
                refine Z.l rfl rfl (by rfl) (Z.keepS hs) (Z.Yd.add rfl rfl (fun hG => Z.wi64 (by first | omega | (have hG' := Z.gh rfl hG; simp at hG'; omega)))) ?_
                refine Z.lb 1 rfl ?_
                refine Z.lnil ?_
                refine Z.only [1, 3, 6, 9, 11, 13] rfl ?_
                refine Z.nthen ?_
                rw [← hml2] at hs
                exact Z.again (i + 1, gn, svn, son, Rn, cn) (by refine ⟨?_, ?_, ?_, ?_, ?_, ?_, trivial⟩ <;> (first | rfl | (refine Z.lookv rfl ?_; simp; done) | (refine Z.lookv rfl ?_; simp; omega))) ⟨by simp only; omega, by simp only; rw [hnx]; exact hs⟩ (by simp only; omega)
                )
          · first
              | (exfalso; simp at hc8 <;> omega)
              | (
                (try simp at hc8)
                refine Z.exit ?_
                refine Z.xthen ?_
                refine Z.xthen ?_
                refine Z.xblock ?_
                refine Z.nthen ?_
                refine Z.seq ?_
                refine Z.region ?_
                have hmo := hok.run (l.take i)
                generalize runB (newB ls) (l.take i) = mk at hs hmo
                replace hs : SX.St w [] w9 (bkE gi svi soi mk ++ [SX.Ent.blk g11 30 #[.slice Ra mk.l.length ca, .slice Rc mk.l.length cc, .int .i64 mk.now], SX.Ent.row (.slice Ra mk.l.length ca) 38 5 mk.l.length (mk.l.flatMap LgV.cells), SX.Ent.row (.slice Rc mk.l.length cc) 3 1 mk.l.length (ints .i64 mk.b), SX.Ent.blk g6 57 (x1.cells ++ x2.cells).toArray]) := hs
                obtain ⟨m1, hm1⟩ : ∃ m1, m1 = actB mk x1 := ⟨_, rfl⟩
                obtain ⟨m2, hm2⟩ : ∃ m2, m2 = actB mk x2 := ⟨_, rfl⟩
                have hl1 : m1.l.length = mk.l.length := by rw [hm1, actB_l]
                have hl2 : m2.l.length = mk.l.length := by rw [hm2, actB_l]
                have ho1 : m1.ok := by rw [hm1]; exact hmo.act _
                have ho2 : m2.ok := by rw [hm2]; exact hmo.act _
                have hll1 : m1.l = mk.l := by rw [hm1, actB_l]
                have hll2 : m2.l = mk.l := by rw [hm2, actB_l]
                refine Z.l rfl rfl (by rfl) (Z.keepS hs) (Z.Yd.pure rfl) ?_
                refine Z.le rfl trivial ?_
                refine Z.ZO.call rfl rfl (by rfl) rfl rfl Try.call22 rfl (bk_copy gi mk _ (hs.bkR bkE_sub) hmo) ?_
                rintro v11_1 w11_1 ⟨go, svo, soo, rfl, hy⟩
                replace hs := hs.call hy
                clear hy
                try simp only [List.cons_append, List.nil_append, List.append_nil] at hs
                refine Z.lb 1 rfl ?_
                refine Z.lnil ?_
                refine Z.only [3, 6, 9, 11, 14] rfl ?_
                refine Z.nthen ?_
                refine Z.seq ?_
                refine Z.seq ?_
                refine Z.region ?_
                refine Z.lb 2 rfl ?_
                refine Z.le rfl trivial ?_
                refine Z.ZO.call rfl rfl (by rfl) rfl rfl Try.call16 rfl (bk_same gi go mk mk _ (hs.bkR (sv := svi) (so := soi) (fun e he ↦ List.mem_append_right _ (List.mem_append_left _ he))) (hs.bkR (sv := svo) (so := soo) (fun e he ↦ List.mem_append_left _ he)) hmo hmo) ?_
                rintro v12_2 w12_2 ⟨rfl, hy⟩
                replace hs := hs.call hy
                clear hy
                try simp only [List.cons_append, List.nil_append, List.append_nil] at hs
                refine Z.lb 1 rfl ?_
                refine Z.lnil ?_
                refine Z.only [3, 6, 9, 11, 14, 83] rfl ?_
                refine Z.nthen ?_
                refine Z.cond rfl (fun h => absurd h (by simp)) (fun hc12 => ?_)
                refine Z.skip ?_
                refine Z.nthen ?_
                refine Z.seq ?_
                refine Z.region ?_
                refine Z.lb 1 rfl ?_
                refine Z.l rfl rfl (by rfl) (Z.keepS hs) (Z.Yd.loadA _ rfl Try.isAgg30 (fun _ => Z.cellsB (cs := [.slice Ra mk.l.length ca, .slice Rc mk.l.length cc, .int .i64 mk.now]) (by first | ((repeat (first | exact List.mem_cons_self | refine List.mem_cons_of_mem _ ?_ | refine List.mem_append_right _ ?_)); done) | fail)) (by exact Try.sizeOf30)) ?_
                refine Z.l rfl rfl (by rfl) (Z.keepS hs) (Z.Yd.elemA rfl rfl Try.underlying57 Try.sizeOf54 (fun hG => ⟨(by first | omega | (have hG' := Z.gh rfl hG; simp at hG'; omega)), (by first | omega | (have hG' := Z.gh rfl hG; simp at hG'; omega))⟩)) ?_
                refine Z.l rfl rfl (by rfl) (Z.keepS hs) (Z.Yd.loadA _ rfl Try.isAgg54 (fun _ => Z.cellsBo (cs := x1.cells ++ x2.cells) x1.cells (by first | ((repeat (first | exact List.mem_cons_self | refine List.mem_cons_of_mem _ ?_ | refine List.mem_append_right _ ?_)); done) | fail) ⟨x2.cells, rfl⟩) (by exact Try.sizeOf54)) ?_
                replace hs : SX.St w [] _ (bkE gi svi soi mk ++ (bkE go svo soo mk ++ [SX.Ent.blk g11 30 #[.slice Ra mk.l.length ca, .slice Rc mk.l.length cc, .int .i64 mk.now], SX.Ent.row (.slice Ra mk.l.length ca) 38 5 mk.l.length (mk.l.flatMap LgV.cells), SX.Ent.row (.slice Rc mk.l.length cc) 3 1 mk.l.length (ints .i64 mk.b), SX.Ent.blk g6 57 (x1.cells ++ x2.cells).toArray])) := hs.sel [3, 4, 5, 0, 1, 2, 6, 7, 8, 9] (by decide)
                refine Z.le rfl trivial ?_
                refine Z.ZO.call rfl rfl (by rfl) rfl rfl Try.call20 rfl (bk_act gi svi soi Ra Rc ca cc mk x1 _ hs.lend hmo (Z.row_lentv hs (j := 4) rfl) (Z.row_lentv hs (j := 5) rfl) (hg1.sx.lent hs) (by omega)) ?_
                rintro v14_4 w14_4 ⟨g1, sv1, so1, R1, c1, L1, rfl, hz, hN1⟩
                replace hs := hs.regain hz
                rw [← hm1] at hs hN1 ⊢
                replace hs : SX.St w [] w14_4 (bkE go svo soo mk ++ ([SX.Ent.blk g11 30 #[.slice Ra mk.l.length ca, .slice Rc mk.l.length cc, .int .i64 mk.now], SX.Ent.row (.slice Ra mk.l.length ca) 38 5 mk.l.length (mk.l.flatMap LgV.cells), SX.Ent.row (.slice Rc mk.l.length cc) 3 1 mk.l.length (ints .i64 mk.b), SX.Ent.blk g6 57 (x1.cells ++ x2.cells).toArray] ++ (bkE g1 sv1 so1 m1 ++ L1))) := hs.rot
                simp only [bkE, List.cons_append, List.nil_append] at hs
                refine Z.lb 4 rfl ?_
                refine Z.le rfl trivial ?_
                refine Z.ZO.alloc rfl rfl (by rfl) Try.zeroValue30 rfl hs ?_
                clear hs; intro g15 w15 hs
                refine Z.lb 1 rfl ?_
                refine Z.le rfl trivial ?_
                first | refine Z.ZO.storeA rfl rfl hs rfl rfl (by kernel_rfl) (by first | (simp [Value.oneCell']; done) | (refine Z.all_one ?_; assumption)) (by first | exact SX.at0 | exact SX.at1 | exact SX.at2 | exact SX.at3 | exact SX.at4 | exact SX.at5 | exact Z.at6 | exact Z.at7 | exact Z.at8 | exact Z.at9 | exact Z.at10 | exact Z.at11 | exact Z.at12) (by rfl) ?_ | refine Z.ZO.storeP rfl rfl hs rfl rfl (by kernel_rfl) (by first | (simp [Value.oneCell']; done) | (refine Z.all_one ?_; assumption)) (by first | exact SX.at0 | exact SX.at1 | exact SX.at2 | exact SX.at3 | exact SX.at4 | exact SX.at5 | exact Z.at6 | exact Z.at7 | exact Z.at8 | exact Z.at9 | exact Z.at10 | exact Z.at11 | exact Z.at12) (by first | decide | (simp; done) | (simp; omega)) ?_ | refine Z.ZO.storePR rfl rfl hs rfl rfl (by kernel_rfl) (by first | (simp [Value.oneCell']; done) | (refine Z.all_one ?_; assumption)) (by first | exact SX.at0 | exact SX.at1 | exact SX.at2 | exact SX.at3 | exact SX.at4 | exact SX.at5 | exact Z.at6 | exact Z.at7 | exact Z.at8 | exact Z.at9 | exact Z.at10 | exact Z.at11 | exact Z.at12) (by first | decide | (simp; done) | (simp; omega)) ?_
                clear hs; intro ws hs
                simp only [Nat.zero_add, Nat.add_zero, Nat.reduceAdd, Int.reduceToNat, Nat.reduceMul, List.set_cons_zero, List.set_cons_succ, List.setIfInBounds_toArray] at hs
                try simp only [Z.putL, Nat.zero_add] at hs
                refine Z.lb 1 rfl ?_
                refine Z.lnil ?_
                refine Z.only [3, 6, 9, 11, 14, 15, 16] rfl ?_
                refine Z.nthen ?_
                refine Z.seq ?_
                refine Z.region ?_
                refine Z.lb 1 rfl ?_
                refine Z.l rfl rfl (by rfl) (Z.keepS hs) (Z.Yd.loadA _ rfl Try.isAgg30 (fun _ => Z.cellsB (cs := [.slice Ra mk.l.length ca, .slice Rc mk.l.length cc, .int .i64 mk.now]) (by first | ((repeat (first | exact List.mem_cons_self | refine List.mem_cons_of_mem _ ?_ | refine List.mem_append_right _ ?_)); done) | fail)) (by exact Try.sizeOf30)) ?_
                refine Z.l rfl rfl (by rfl) (Z.keepS hs) (Z.Yd.elemA rfl rfl Try.underlying57 Try.sizeOf54 (fun hG => ⟨(by first | omega | (have hG' := Z.gh rfl hG; simp at hG'; omega)), (by first | omega | (have hG' := Z.gh rfl hG; simp at hG'; omega))⟩)) ?_
                refine Z.l rfl rfl (by rfl) (Z.keepS hs) (Z.Yd.loadA _ rfl Try.isAgg54 (fun _ => Z.cellsBo (cs := x1.cells ++ x2.cells) x2.cells (by first | ((repeat (first | exact List.mem_cons_self | refine List.mem_cons_of_mem _ ?_ | refine List.mem_append_right _ ?_)); done) | fail) ⟨[], rfl⟩) (by exact Try.sizeOf54)) ?_
                replace hs : SX.St w [] _ (bkE go svo soo mk ++ ([SX.Ent.blk g15 30 #[.slice Ra mk.l.length ca, .slice R1 mk.l.length c1, .int .i64 m1.now], SX.Ent.blk g11 30 #[.slice Ra mk.l.length ca, .slice Rc mk.l.length cc, .int .i64 mk.now], SX.Ent.row (.slice Ra mk.l.length ca) 38 5 mk.l.length (mk.l.flatMap LgV.cells), SX.Ent.row (.slice Rc mk.l.length cc) 3 1 mk.l.length (ints .i64 mk.b), SX.Ent.blk g6 57 (x1.cells ++ x2.cells).toArray] ++ (bkE g1 sv1 so1 m1 ++ L1))) := SX.St.selT (L1 := [_, _, _, _, _, _, _, _, _, _, _]) hs [1, 2, 3, 0, 4, 5, 6, 7, 8, 9, 10] (by decide)
                refine Z.le rfl trivial ?_
                refine Z.ZO.call rfl rfl (by rfl) rfl rfl Try.call20 rfl (bk_act go svo soo Ra Rc ca cc mk x2 _ hs.lend hmo (Z.row_lentv hs (j := 2) rfl) (Z.row_lentv hs (j := 3) rfl) (hg2.sx.lent hs) (by omega)) ?_
                rintro v15_4 w15_4 ⟨g2, sv2, so2, R2, c2, L2, rfl, hz, hN2⟩
                replace hs := hs.regain hz
                rw [← hm2] at hs hN2 ⊢
                replace hs : SX.St w [] w15_4 ([SX.Ent.blk g15 30 #[.slice Ra mk.l.length ca, .slice R1 mk.l.length c1, .int .i64 m1.now], SX.Ent.blk g11 30 #[.slice Ra mk.l.length ca, .slice Rc mk.l.length cc, .int .i64 mk.now], SX.Ent.row (.slice Ra mk.l.length ca) 38 5 mk.l.length (mk.l.flatMap LgV.cells), SX.Ent.row (.slice Rc mk.l.length cc) 3 1 mk.l.length (ints .i64 mk.b), SX.Ent.blk g6 57 (x1.cells ++ x2.cells).toArray] ++ (bkE g1 sv1 so1 m1 ++ (L1 ++ (bkE g2 sv2 so2 m2 ++ L2)))) := by
                  have h0 := hs.rot
                  simpa only [List.append_assoc, List.cons_append, List.nil_append] using h0
                simp only [bkE, List.cons_append, List.nil_append] at hs
                refine Z.lb 4 rfl ?_
                refine Z.le rfl trivial ?_
                refine Z.ZO.alloc rfl rfl (by rfl) Try.zeroValue30 rfl hs ?_
                clear hs; intro g17 w17 hs
                refine Z.lb 1 rfl ?_
                refine Z.le rfl trivial ?_
                first | refine Z.ZO.storeA rfl rfl hs rfl rfl (by kernel_rfl) (by first | (simp [Value.oneCell']; done) | (refine Z.all_one ?_; assumption)) (by first | exact SX.at0 | exact SX.at1 | exact SX.at2 | exact SX.at3 | exact SX.at4 | exact SX.at5 | exact Z.at6 | exact Z.at7 | exact Z.at8 | exact Z.at9 | exact Z.at10 | exact Z.at11 | exact Z.at12) (by rfl) ?_ | refine Z.ZO.storeP rfl rfl hs rfl rfl (by kernel_rfl) (by first | (simp [Value.oneCell']; done) | (refine Z.all_one ?_; assumption)) (by first | exact SX.at0 | exact SX.at1 | exact SX.at2 | exact SX.at3 | exact SX.at4 | exact SX.at5 | exact Z.at6 | exact Z.at7 | exact Z.at8 | exact Z.at9 | exact Z.at10 | exact Z.at11 | exact Z.at12) (by first | decide | (simp; done) | (simp; omega)) ?_ | refine Z.ZO.storePR rfl rfl hs rfl rfl (by kernel_rfl) (by first | (simp [Value.oneCell']; done) | (refine Z.all_one ?_; assumption)) (by first | exact SX.at0 | exact SX.at1 | exact SX.at2 | exact SX.at3 | exact SX.at4 | exact SX.at5 | exact Z.at6 | exact Z.at7 | exact Z.at8 | exact Z.at9 | exact Z.at10 | exact Z.at11 | exact Z.at12) (by first | decide | (simp; done) | (simp; omega)) ?_
                clear hs; intro ws hs
                simp only [Nat.zero_add, Nat.add_zero, Nat.reduceAdd, Int.reduceToNat, Nat.reduceMul, List.set_cons_zero, List.set_cons_succ, List.setIfInBounds_toArray] at hs
                try simp only [Z.putL, Nat.zero_add] at hs
                refine Z.lb 1 rfl ?_
                refine Z.lnil ?_
                refine Z.only [3, 9, 14, 15, 16, 17, 18] rfl ?_
                refine Z.nthen ?_
                refine Z.seq ?_
                refine Z.region ?_
                refine Z.lb 1 rfl ?_
                refine Z.le rfl trivial ?_
                refine Z.ZO.call rfl rfl (by rfl) rfl rfl Try.call10 rfl (rv_newS O no co lo _ (hO.st (hs.sub (List.nil_sublist _))) hol) ?_
                rintro v16_1 w16_1 ⟨Za, Zb, kz1, kz2, cz1, cz2, Lz, rfl, hy, hZ⟩
                replace hs := hs.call hy
                clear hy
                try simp only [List.cons_append, List.nil_append, List.append_nil] at hs
                refine Z.lb 3 rfl ?_
                refine Z.le rfl trivial ?_
                refine Z.ZO.alloc rfl rfl (by rfl) Try.zeroValue30 rfl hs ?_
                clear hs; intro g19 w19 hs
                refine Z.le rfl trivial ?_
                first | refine Z.ZO.storeA rfl rfl hs rfl rfl (by kernel_rfl) (by first | (simp [Value.oneCell']; done) | (refine Z.all_one ?_; assumption)) (by first | exact SX.at0 | exact SX.at1 | exact SX.at2 | exact SX.at3 | exact SX.at4 | exact SX.at5 | exact Z.at6 | exact Z.at7 | exact Z.at8 | exact Z.at9 | exact Z.at10 | exact Z.at11 | exact Z.at12) (by rfl) ?_ | refine Z.ZO.storeP rfl rfl hs rfl rfl (by kernel_rfl) (by first | (simp [Value.oneCell']; done) | (refine Z.all_one ?_; assumption)) (by first | exact SX.at0 | exact SX.at1 | exact SX.at2 | exact SX.at3 | exact SX.at4 | exact SX.at5 | exact Z.at6 | exact Z.at7 | exact Z.at8 | exact Z.at9 | exact Z.at10 | exact Z.at11 | exact Z.at12) (by first | decide | (simp; done) | (simp; omega)) ?_ | refine Z.ZO.storePR rfl rfl hs rfl rfl (by kernel_rfl) (by first | (simp [Value.oneCell']; done) | (refine Z.all_one ?_; assumption)) (by first | exact SX.at0 | exact SX.at1 | exact SX.at2 | exact SX.at3 | exact SX.at4 | exact SX.at5 | exact Z.at6 | exact Z.at7 | exact Z.at8 | exact Z.at9 | exact Z.at10 | exact Z.at11 | exact Z.at12) (by first | decide | (simp; done) | (simp; omega)) ?_
                clear hs; intro ws hs
                simp only [Nat.zero_add, Nat.add_zero, Nat.reduceAdd, Int.reduceToNat, Nat.reduceMul, List.set_cons_zero, List.set_cons_succ, List.setIfInBounds_toArray] at hs
                try simp only [Z.putL, Nat.zero_add] at hs
                refine Z.lb 1 rfl ?_
                refine Z.lnil ?_
                refine Z.only [3, 9, 14, 15, 16, 17, 18, 19, 20] rfl ?_
                refine Z.nthen ?_
                refine Z.seq ?_
                refine Z.region ?_
                refine Z.lb 1 rfl ?_
                refine Z.le rfl trivial ?_
                refine Z.ZO.call rfl rfl (by rfl) rfl rfl Try.call9 rfl (bk_newS O no co lo _ (hO.st (hs.sub (List.nil_sublist _))) hol (by omega) hco) ?_
                rintro v17_1 w17_1 ⟨p, Lp, rfl, hy, hP⟩
                replace hs := hs.call hy
                clear hy
                try simp only [List.cons_append, List.nil_append, List.append_nil] at hs
                refine Z.lb 5 rfl ?_
                refine Z.lnil ?_
                refine Z.only [9, 14, 15, 16, 17, 18, 19, 20, 21, 22] rfl ?_
                refine Z.nthen ?_
                refine Z.seq ?_
                refine Z.drawK (fun _ => true) mixed hs ?_
                clear hs; intro wd18 hs
                refine Z.tb [0, 1, 2, 3, 4, 5] (by kernel_rfl) rfl ⟨_, hs, by first | (simp; done) | exact fun e he => List.mem_append_right _ he⟩ rfl ?_
                refine Z.t 6 rfl rfl rfl (by rfl) (by kernel_rfl) ⟨_, hs, by first | (simp; done) | exact fun e he => List.mem_append_right _ he⟩ (Z.Yd.loadA _ rfl Try.isAgg30 (fun _ => Z.cellsB (cs := [.slice Ra mk.l.length ca, .slice R1 mk.l.length c1, .int .i64 m1.now]) (by first | ((repeat (first | exact List.mem_cons_self | refine List.mem_cons_of_mem _ ?_ | refine List.mem_append_right _ ?_)); done) | fail)) (by exact Try.sizeOf30)) ?_
                refine Z.yes (s := 116) (b := true) rfl (by simp) rfl ?_
                refine Z.tn 7 rfl rfl (by kernel_rfl) rfl (by exact ⟨rfl, trivial⟩) ?_
                refine Z.ZO.call rfl rfl (by rfl) rfl rfl Try.call21 rfl (bk_isL g1 Ra R1 ca c1 m1 _ _ hl1 (hs.bkR (sv := sv1) (so := so1) (fun e he ↦ by simp [bkE] at he ⊢; rcases he with rfl | rfl | rfl <;> simp)) (by rw [hll1]; exact hs.slm (A := Ra) (xs := mk.l.flatMap LgV.cells) (by first | ((repeat (first | exact List.mem_cons_self | refine List.mem_cons_of_mem _ ?_ | refine List.mem_append_right _ ?_)); done) | fail)) (hN1.sl hs (fun e he ↦ by simp [he]) (by simp)) ho1) ?_
                rintro v18_7 w18_7 ⟨rfl, hy⟩
                replace hs := hs.call hy
                clear hy
                try simp only [List.cons_append, List.nil_append, List.append_nil] at hs
                refine Z.tk (Dn := fun _ => true) (i := 7) (fun _ => ⟨_, hs, by first | (simp; done) | exact fun e he => List.mem_append_right _ he⟩) ?_
                refine Z.tb [8, 9, 10] (by kernel_rfl) rfl ⟨_, hs, by first | (simp; done) | exact fun e he => List.mem_append_right _ he⟩ rfl ?_
                refine Z.t 11 rfl rfl rfl (by rfl) (by kernel_rfl) ⟨_, hs, by first | (simp; done) | exact fun e he => List.mem_append_right _ he⟩ (Z.Yd.loadA _ rfl Try.isAgg30 (fun _ => Z.cellsB (cs := [.slice Ra mk.l.length ca, .slice R2 mk.l.length c2, .int .i64 m2.now]) (by first | ((repeat (first | exact List.mem_cons_self | refine List.mem_cons_of_mem _ ?_ | refine List.mem_append_right _ ?_)); done) | fail)) (by exact Try.sizeOf30)) ?_
                refine Z.yes (s := 121) (b := true) rfl (by simp) rfl ?_
                refine Z.tn 12 rfl rfl (by kernel_rfl) rfl (by exact ⟨rfl, trivial⟩) ?_
                refine Z.ZO.call rfl rfl (by rfl) rfl rfl Try.call21 rfl (bk_isL g2 Ra R2 ca c2 m2 _ _ hl2 (hs.bkR (sv := sv2) (so := so2) (fun e he ↦ by simp [bkE] at he ⊢; rcases he with rfl | rfl | rfl <;> simp)) (by rw [hll2]; exact hs.slm (A := Ra) (xs := mk.l.flatMap LgV.cells) (by first | ((repeat (first | exact List.mem_cons_self | refine List.mem_cons_of_mem _ ?_ | refine List.mem_append_right _ ?_)); done) | fail)) (hN2.sl hs (fun e he ↦ by simp [he]) (by simp)) ho2) ?_
                rintro v18_12 w18_12 ⟨rfl, hy⟩
                replace hs := hs.call hy
                clear hy
                try simp only [List.cons_append, List.nil_append, List.append_nil] at hs
                refine Z.tk (Dn := fun _ => true) (i := 12) (fun _ => ⟨_, hs, by first | (simp; done) | exact fun e he => List.mem_append_right _ he⟩) ?_
                refine Z.tb [13, 14, 15, 16] (by kernel_rfl) rfl ⟨_, hs, by first | (simp; done) | exact fun e he => List.mem_append_right _ he⟩ rfl ?_
                refine Z.t 18 rfl rfl rfl (by rfl) (by kernel_rfl) ⟨_, hs, by first | (simp; done) | exact fun e he => List.mem_append_right _ he⟩ (Z.Yd.loadA _ rfl Try.isAgg30 (fun _ => Z.cellsB (cs := [.slice Ra mk.l.length ca, .slice R1 mk.l.length c1, .int .i64 m1.now]) (by first | ((repeat (first | exact List.mem_cons_self | refine List.mem_cons_of_mem _ ?_ | refine List.mem_append_right _ ?_)); done) | fail)) (by exact Try.sizeOf30)) ?_
                refine Z.t 19 rfl rfl rfl (by rfl) (by kernel_rfl) ⟨_, hs, by first | (simp; done) | exact fun e he => List.mem_append_right _ he⟩ (Z.Yd.loadA _ rfl Try.isAgg30 (fun _ => Z.cellsB (cs := [.slice Ra mk.l.length ca, .slice R2 mk.l.length c2, .int .i64 m2.now]) (by first | ((repeat (first | exact List.mem_cons_self | refine List.mem_cons_of_mem _ ?_ | refine List.mem_append_right _ ?_)); done) | fail)) (by exact Try.sizeOf30)) ?_
                refine Z.yes (s := 126) (b := true) rfl (by simp) rfl ?_
                refine Z.tn 17 rfl rfl (by kernel_rfl) rfl (by exact ⟨rfl, trivial⟩) ?_
                refine Z.ZO.call rfl rfl (by rfl) rfl rfl Try.call16 rfl (bk_same g1 g2 m1 m2 _ (hs.bkR (sv := sv1) (so := so1) (fun e he ↦ by simp [bkE] at he ⊢; rcases he with rfl | rfl | rfl <;> simp)) (hs.bkR (sv := sv2) (so := so2) (fun e he ↦ by simp [bkE] at he ⊢; rcases he with rfl | rfl | rfl <;> simp)) ho1 ho2) ?_
                rintro v18_17 w18_17 ⟨rfl, hy⟩
                replace hs := hs.call hy
                clear hy
                try simp only [List.cons_append, List.nil_append, List.append_nil] at hs
                refine Z.tk (Dn := fun _ => true) (i := 17) (fun _ => ⟨_, hs, by first | (simp; done) | exact fun e he => List.mem_append_right _ he⟩) ?_
                refine Z.tn 20 rfl rfl (by kernel_rfl) rfl (by exact ⟨rfl, trivial⟩) ?_
                refine Z.ZO.call rfl rfl (by rfl) rfl rfl Try.call23 rfl (rv_sameL Ra R1 Ra R2 ca c1 ca c2 m1 m2 _ _ _ hl1 hl2 (by rw [hll1]; exact hs.slm (A := Ra) (xs := mk.l.flatMap LgV.cells) (by first | ((repeat (first | exact List.mem_cons_self | refine List.mem_cons_of_mem _ ?_ | refine List.mem_append_right _ ?_)); done) | fail)) (hN1.sl hs (fun e he ↦ by simp [he]) (by simp)) (by rw [hll2]; exact hs.slm (A := Ra) (xs := mk.l.flatMap LgV.cells) (by first | ((repeat (first | exact List.mem_cons_self | refine List.mem_cons_of_mem _ ?_ | refine List.mem_append_right _ ?_)); done) | fail)) (hN2.sl hs (fun e he ↦ by simp [he]) (by simp)) ho1 ho2) ?_
                rintro v18_20 w18_20 ⟨rfl, hy⟩
                replace hs := hs.call hy
                clear hy
                try simp only [List.cons_append, List.nil_append, List.append_nil] at hs
                refine Z.tk (Dn := fun _ => true) (i := 20) (fun _ => ⟨_, hs, by first | (simp; done) | exact fun e he => List.mem_append_right _ he⟩) ?_
                refine Z.t 21 rfl rfl rfl (by rfl) (by kernel_rfl) ⟨_, hs, by first | (simp; done) | exact fun e he => List.mem_append_right _ he⟩ (Z.Yd.bin rfl rfl (by intro _ w; go_simp; try rfl)) ?_
                refine Z.tb [22, 23, 24, 26] (by kernel_rfl) rfl ⟨_, hs, by first | (simp; done) | exact fun e he => List.mem_append_right _ he⟩ rfl ?_
                refine Z.yes (s := 135) (b := true) rfl (by simp) rfl ?_
                refine Z.tn 25 rfl rfl (by kernel_rfl) rfl (by exact ⟨rfl, trivial⟩) ?_
                refine Z.ZO.call rfl rfl (by rfl) rfl rfl Try.call15 rfl (bk_num _ _) ?_
                rintro v18_25 w18_25 ⟨rfl, hy⟩
                replace hs := hs.call hy
                clear hy
                try simp only [List.cons_append, List.nil_append, List.append_nil] at hs
                refine Z.tk (Dn := fun _ => true) (i := 25) (fun _ => ⟨_, hs, by first | (simp; done) | exact fun e he => List.mem_append_right _ he⟩) ?_
                refine Z.tb [27, 28, 29, 30, 31, 33, 34] (by kernel_rfl) rfl ⟨_, hs, by first | (simp; done) | exact fun e he => List.mem_append_right _ he⟩ rfl ?_
                refine Z.split (s := 141) rfl (fun hsp141 => ?_) (fun hsp141 => ?_)
                · first
                    | (exfalso; simp at hsp141 <;> omega)
                    | (
                      refine Z.yes (s := 141) (b := true) rfl hsp141 rfl ?_
                      (try simp at hsp141)
                      refine Z.tn 32 rfl rfl (by kernel_rfl) rfl (by exact ⟨rfl, trivial⟩) ?_
                      refine Z.ZO.call rfl rfl (by rfl) rfl rfl Try.call16 rfl (hP _ _ _ _ hs (fun e he ↦ by simp [he]) g1 m1 (hs.bkR (sv := sv1) (so := so1) (fun e he ↦ by simp [bkE] at he ⊢; rcases he with rfl | rfl | rfl <;> simp)) ho1) ?_
                      rintro v18_32 w18_32 ⟨rfl, hy⟩
                      replace hs := hs.call hy
                      clear hy
                      try simp only [List.cons_append, List.nil_append, List.append_nil] at hs
                      refine Z.tk (Dn := fun _ => true) (i := 32) (fun _ => ⟨_, hs, by first | (simp; done) | exact fun e he => List.mem_append_right _ he⟩) ?_
                      refine Z.tb [35] (by kernel_rfl) rfl ⟨_, hs, by first | (simp; done) | exact fun e he => List.mem_append_right _ he⟩ rfl ?_
                      refine Z.yes (s := 141) (b := true) rfl rfl rfl ?_
                      refine Z.split (s := 147) rfl (fun hsp147 => ?_) (fun hsp147 => ?_)
                      · first
                          | (exfalso; simp at hsp147 <;> omega)
                          | (
                            refine Z.yes (s := 147) (b := true) rfl hsp147 rfl ?_
                            (try simp at hsp147)
                            have hlo : okSet lo := by by_cases h : okSet lo; exact h; simp [h] at hsp147
                            refine Z.yes (s := 141) (b := true) rfl rfl rfl ?_
                            refine Z.t 36 rfl rfl rfl (by rfl) (by kernel_rfl) ⟨_, hs, by first | (simp; done) | exact fun e he => List.mem_append_right _ he⟩ (Z.Yd.loadA _ rfl Try.isAgg30 (fun _ => Z.cellsB (cs := [.slice Ra mk.l.length ca, .slice R1 mk.l.length c1, .int .i64 m1.now]) (by first | ((repeat (first | exact List.mem_cons_self | refine List.mem_cons_of_mem _ ?_ | refine List.mem_append_right _ ?_)); done) | fail)) (by exact Try.sizeOf30)) ?_
                            refine Z.t 37 rfl rfl rfl (by rfl) (by kernel_rfl) ⟨_, hs, by first | (simp; done) | exact fun e he => List.mem_append_right _ he⟩ (Z.Yd.loadA _ rfl Try.isAgg30 (fun _ => Z.cellsB (cs := [.slice Za kz1 cz1, .slice Zb kz2 cz2, .int .i64 0]) (by first | ((repeat (first | exact List.mem_cons_self | refine List.mem_cons_of_mem _ ?_ | refine List.mem_append_right _ ?_)); done) | fail)) (by exact Try.sizeOf30)) ?_
                            refine Z.yes (s := 141) (b := true) rfl rfl rfl ?_
                            refine Z.yes (s := 147) (b := true) rfl rfl rfl ?_
                            refine Z.tn 38 rfl rfl (by kernel_rfl) rfl (by exact ⟨rfl, trivial⟩) ?_
                            refine Z.ZO.call rfl rfl (by rfl) rfl rfl Try.call23 rfl (hZ hlo _ _ _ _ hs (fun e he ↦ by simp [he]) Ra R1 ca c1 m1 _ hl1 (by rw [hll1]; exact hs.slm (A := Ra) (xs := mk.l.flatMap LgV.cells) (by first | ((repeat (first | exact List.mem_cons_self | refine List.mem_cons_of_mem _ ?_ | refine List.mem_append_right _ ?_)); done) | fail)) (hN1.sl hs (fun e he ↦ by simp [he]) (by simp)) ho1) ?_
                            rintro v18_38 w18_38 ⟨rfl, hy⟩
                            replace hs := hs.call hy
                            clear hy
                            try simp only [List.cons_append, List.nil_append, List.append_nil] at hs
                            refine Z.tk (Dn := fun _ => true) (i := 38) (fun _ => ⟨_, hs, by first | (simp; done) | exact fun e he => List.mem_append_right _ he⟩) ?_
                            refine Z.t 39 rfl rfl rfl (by rfl) (by kernel_rfl) ⟨_, hs, by first | (simp; done) | exact fun e he => List.mem_append_right _ he⟩ (Z.Yd.pickT rfl rfl) ?_
                            refine Z.t 40 rfl rfl rfl (by rfl) (by kernel_rfl) ⟨_, hs, by first | (simp; done) | exact fun e he => List.mem_append_right _ he⟩ (Z.Yd.bin rfl rfl (by intro _ w; go_simp; try rfl)) ?_
                            refine Z.yes (s := 141) (b := true) rfl rfl rfl ?_
                            refine Z.yes (s := 147) (b := true) rfl rfl rfl ?_
                            refine Z.t 41 rfl rfl rfl (by rfl) (by kernel_rfl) ⟨_, hs, by first | (simp; done) | exact fun e he => List.mem_append_right _ he⟩ (Z.Yd.pickT rfl rfl) ?_
                            refine Z.tb [42] (by kernel_rfl) rfl ⟨_, hs, by first | (simp; done) | exact fun e he => List.mem_append_right _ he⟩ rfl ?_
                            refine Z.yes (s := 154) (b := true) rfl (by simp [hlo]) rfl ?_
                            refine Z.tn 43 rfl rfl (by kernel_rfl) rfl (by exact ⟨rfl, trivial⟩) ?_
                            refine Z.ZO.call rfl rfl (by rfl) rfl rfl Try.call8 rfl (works25 _) ?_
                            rintro v18_43 w18_43 ⟨rfl, hy⟩
                            replace hs := hs.call hy
                            clear hy
                            try simp only [List.cons_append, List.nil_append, List.append_nil] at hs
                            refine Z.tk (Dn := fun _ => true) (i := 43) (fun _ => ⟨_, hs, by first | (simp; done) | exact fun e he => List.mem_append_right _ he⟩) ?_
                            refine Z.tb [44, 45] (by kernel_rfl) rfl ⟨_, hs, by first | (simp; done) | exact fun e he => List.mem_append_right _ he⟩ rfl ?_
                            refine Z.td (by rfl) (by kernel_rfl) ?_
                            refine Z.only [8] rfl ?_
                            refine Z.nthen ?_
                            refine Z.ret ?_
                            -- ret#0
                            refine Z.out1 (by exact ⟨rfl, trivial⟩) ?_
                            exact ⟨_, rfl, by simp, hs.sub (List.nil_sublist _)⟩
                            )
                      · first
                          | (exfalso; simp at hsp147 <;> omega)
                          | (
                            refine Z.yes (s := 147) (b := false) rfl hsp147 rfl ?_
                            (try simp at hsp147)
                            have hlo : ¬ okSet lo := fun h => by simp [h] at hsp147
                            refine Z.yes (s := 141) (b := true) rfl rfl rfl ?_
                            refine Z.t 36 rfl rfl rfl (by rfl) (by kernel_rfl) ⟨_, hs, by first | (simp; done) | exact fun e he => List.mem_append_right _ he⟩ (Z.Yd.off (v := undef) 147 true rfl (by first | (simp; done) | (simp_all; done)) (by intro c h; cases h)) ?_
                            refine Z.t 37 rfl rfl rfl (by rfl) (by kernel_rfl) ⟨_, hs, by first | (simp; done) | exact fun e he => List.mem_append_right _ he⟩ (Z.Yd.off (v := undef) 147 true rfl (by first | (simp; done) | (simp_all; done)) (by intro c h; cases h)) ?_
                            refine Z.yes (s := 141) (b := true) rfl rfl rfl ?_
                            refine Z.yes (s := 147) (b := false) rfl rfl rfl ?_
                            refine Z.tnS 147 true 38 rfl rfl (by kernel_rfl) rfl rfl (by simp) rfl (by rfl) (fun _ => ⟨_, hs, by first | (simp; done) | exact fun e he => List.mem_append_right _ he⟩) ?_
                            refine Z.t 39 rfl rfl rfl (by rfl) (by kernel_rfl) ⟨_, hs, by first | (simp; done) | exact fun e he => List.mem_append_right _ he⟩ (Z.Yd.pickF rfl rfl) ?_
                            refine Z.t 40 rfl rfl rfl (by rfl) (by kernel_rfl) ⟨_, hs, by first | (simp; done) | exact fun e he => List.mem_append_right _ he⟩ (Z.Yd.bin rfl rfl (by intro _ w; go_simp; try rfl)) ?_
                            refine Z.yes (s := 141) (b := true) rfl rfl rfl ?_
                            refine Z.yes (s := 147) (b := false) rfl rfl rfl ?_
                            refine Z.t 41 rfl rfl rfl (by rfl) (by kernel_rfl) ⟨_, hs, by first | (simp; done) | exact fun e he => List.mem_append_right _ he⟩ (Z.Yd.pickT rfl rfl) ?_
                            refine Z.tb [42] (by kernel_rfl) rfl ⟨_, hs, by first | (simp; done) | exact fun e he => List.mem_append_right _ he⟩ rfl ?_
                            refine Z.yes (s := 154) (b := true) rfl (by simp [hlo]) rfl ?_
                            refine Z.tn 43 rfl rfl (by kernel_rfl) rfl (by exact ⟨rfl, trivial⟩) ?_
                            refine Z.ZO.call rfl rfl (by rfl) rfl rfl Try.call8 rfl (works25 _) ?_
                            rintro v18_43 w18_43 ⟨rfl, hy⟩
                            replace hs := hs.call hy
                            clear hy
                            try simp only [List.cons_append, List.nil_append, List.append_nil] at hs
                            refine Z.tk (Dn := fun _ => true) (i := 43) (fun _ => ⟨_, hs, by first | (simp; done) | exact fun e he => List.mem_append_right _ he⟩) ?_
                            refine Z.tb [44, 45] (by kernel_rfl) rfl ⟨_, hs, by first | (simp; done) | exact fun e he => List.mem_append_right _ he⟩ rfl ?_
                            refine Z.td (by rfl) (by kernel_rfl) ?_
                            refine Z.only [8] rfl ?_
                            refine Z.nthen ?_
                            refine Z.ret ?_
                            -- ret#1
                            refine Z.out1 (by exact ⟨rfl, trivial⟩) ?_
                            exact ⟨_, rfl, by simp, hs.sub (List.nil_sublist _)⟩
                            )
                      )
                · first
                    | (exfalso; simp at hsp141 <;> omega)
                    | (
                      refine Z.yes (s := 141) (b := false) rfl hsp141 rfl ?_
                      (try simp at hsp141)
                      refine Z.tnS 141 true 32 rfl rfl (by kernel_rfl) rfl rfl (by simp) rfl (by rfl) (fun _ => ⟨_, hs, by first | (simp; done) | exact fun e he => List.mem_append_right _ he⟩) ?_
                      refine Z.t 35 rfl rfl rfl (by rfl) (by kernel_rfl) ⟨_, hs, by first | (simp; done) | exact fun e he => List.mem_append_right _ he⟩ (Z.Yd.off (v := undef) 141 true rfl (by first | (simp; done) | (simp_all; done)) (by intro c h; cases h)) ?_
                      refine Z.t 36 rfl rfl rfl (by rfl) (by kernel_rfl) ⟨_, hs, by first | (simp; done) | exact fun e he => List.mem_append_right _ he⟩ (Z.Yd.off (v := undef) 141 true rfl (by first | (simp; done) | (simp_all; done)) (by intro c h; cases h)) ?_
                      refine Z.t 37 rfl rfl rfl (by rfl) (by kernel_rfl) ⟨_, hs, by first | (simp; done) | exact fun e he => List.mem_append_right _ he⟩ (Z.Yd.off (v := undef) 141 true rfl (by first | (simp; done) | (simp_all; done)) (by intro c h; cases h)) ?_
                      refine Z.yes (s := 141) (b := false) rfl rfl rfl ?_
                      refine Z.tnS 141 true 38 rfl rfl (by kernel_rfl) rfl rfl (by simp) rfl (by rfl) (fun _ => ⟨_, hs, by first | (simp; done) | exact fun e he => List.mem_append_right _ he⟩) ?_
                      refine Z.t 39 rfl rfl rfl (by rfl) (by kernel_rfl) ⟨_, hs, by first | (simp; done) | exact fun e he => List.mem_append_right _ he⟩ (Z.Yd.off (v := undef) 141 true rfl (by first | (simp; done) | (simp_all; done)) (by intro c h; cases h)) ?_
                      refine Z.t 40 rfl rfl rfl (by rfl) (by kernel_rfl) ⟨_, hs, by first | (simp; done) | exact fun e he => List.mem_append_right _ he⟩ (Z.Yd.off (v := undef) 141 true rfl (by first | (simp; done) | (simp_all; done)) (by intro c h; cases h)) ?_
                      refine Z.yes (s := 141) (b := false) rfl rfl rfl ?_
                      refine Z.t 41 rfl rfl rfl (by rfl) (by kernel_rfl) ⟨_, hs, by first | (simp; done) | exact fun e he => List.mem_append_right _ he⟩ (Z.Yd.pickF rfl rfl) ?_
                      refine Z.tb [42] (by kernel_rfl) rfl ⟨_, hs, by first | (simp; done) | exact fun e he => List.mem_append_right _ he⟩ rfl ?_
                      refine Z.yes (s := 154) (b := true) rfl (by simp [hlo]) rfl ?_
                      refine Z.tn 43 rfl rfl (by kernel_rfl) rfl (by exact ⟨rfl, trivial⟩) ?_
                      refine Z.ZO.call rfl rfl (by rfl) rfl rfl Try.call8 rfl (works25 _) ?_
                      rintro v18_43 w18_43 ⟨rfl, hy⟩
                      replace hs := hs.call hy
                      clear hy
                      try simp only [List.cons_append, List.nil_append, List.append_nil] at hs
                      refine Z.tk (Dn := fun _ => true) (i := 43) (fun _ => ⟨_, hs, by first | (simp; done) | exact fun e he => List.mem_append_right _ he⟩) ?_
                      refine Z.tb [44, 45] (by kernel_rfl) rfl ⟨_, hs, by first | (simp; done) | exact fun e he => List.mem_append_right _ he⟩ rfl ?_
                      refine Z.td (by rfl) (by kernel_rfl) ?_
                      refine Z.only [8] rfl ?_
                      refine Z.nthen ?_
                      refine Z.ret ?_
                      -- ret#2
                      refine Z.out1 (by exact ⟨rfl, trivial⟩) ?_
                      exact ⟨_, rfl, by simp, hs.sub (List.nil_sublist _)⟩
                      )
                )
        · skip
          refine Z.enter Try.func6 rfl Try.ntmps6 rfl rfl ?_
          refine Z.seq ?_
          refine Z.region ?_
          refine Z.le rfl trivial ?_
          refine Z.ZO.box rfl rfl (by rfl) rfl rfl hs ?_
          clear hs; intro g6 w6 hs
          refine Z.lb 1 rfl ?_
          refine Z.lnil ?_
          refine Z.only [0, 1, 3, 6] rfl ?_
          refine Z.nthen ?_
          refine Z.seq ?_
          refine Z.seq ?_
          refine Z.region ?_
          refine Z.lb 1 rfl ?_
          refine Z.l rfl rfl (by rfl) (Z.keepS hs) (Z.Yd.lenS rfl Try.underlying22) ?_
          refine Z.lb 2 rfl ?_
          refine Z.yes (s := 26) (b := false) rfl ((by simp; omega)) rfl ?_
          refine Z.lb 1 rfl ?_
          refine Z.l rfl rfl (by rfl) (Z.keepS hs) (Z.Yd.lenS rfl Try.underlying22) ?_
          refine Z.lb 1 rfl ?_
          refine Z.yes (s := 26) (b := false) rfl rfl rfl ?_
          refine Z.l rfl rfl (by rfl) (Z.keepS hs) (Z.Yd.pickF rfl rfl) ?_
          refine Z.lb 1 rfl ?_
          refine Z.yes (s := 31) (b := false) rfl ((by simp; omega)) rfl ?_
          refine Z.lb 1 rfl ?_
          refine Z.yes (s := 31) (b := false) rfl rfl rfl ?_
          refine Z.le rfl (by exact ⟨rfl, trivial⟩) ?_
          refine Z.ZO.call rfl rfl (by rfl) rfl rfl Try.call19 rfl (bk_few C k d 10 l _ (hq.st (hs.sub (List.nil_sublist _))) hk (by omega)) ?_
          rintro v1_10 w1_10 ⟨rfl, hy⟩
          replace hs := hs.call hy
          clear hy
          try simp only [List.cons_append, List.nil_append, List.append_nil] at hs
          refine Z.lb 1 rfl ?_
          refine Z.yes (s := 31) (b := false) rfl rfl rfl ?_
          refine Z.l rfl rfl (by rfl) (Z.keepS hs) (Z.Yd.pickF rfl rfl) ?_
          refine Z.lb 1 rfl ?_
          refine Z.yes (s := 36) (b := false) rfl ((by simp [hf])) rfl ?_
          refine Z.l rfl rfl (by rfl) (Z.keepS hs) (Z.Yd.cutA rfl Try.underlying57 Try.sizeOf54) ?_
          refine Z.yes (s := 36) (b := false) rfl rfl rfl ?_
          refine Z.le rfl (by exact ⟨rfl, trivial⟩) ?_
          refine Z.ZO.call rfl rfl (by rfl) rfl rfl Try.call19 rfl (bk_few (some ⟨g6, 0, none⟩) 2 2 2 [x1, x2] _ (by have h0 := hs.blkSl (g := g6) (cs := (x1.cells ++ x2.cells).toArray) List.mem_cons_self; simpa using h0) rfl (by omega)) ?_
          rintro v1_15 w1_15 ⟨rfl, hy⟩
          replace hs := hs.call hy
          clear hy
          try simp only [List.cons_append, List.nil_append, List.append_nil] at hs
          refine Z.lb 1 rfl ?_
          refine Z.yes (s := 36) (b := false) rfl rfl rfl ?_
          refine Z.l rfl rfl (by rfl) (Z.keepS hs) (Z.Yd.pickF rfl rfl) ?_
          refine Z.lnil ?_
          refine Z.only [0, 1, 3, 6, 40] rfl ?_
          refine Z.nthen ?_
          refine Z.cond rfl (fun h => absurd h (by simp [hf2])) (fun hc1 => ?_)
          refine Z.skip ?_
          refine Z.nthen ?_
          refine Z.seq ?_
          refine Z.region ?_
          refine Z.lb 1 rfl ?_
          refine Z.le rfl trivial ?_
          refine Z.ZO.call rfl rfl (by rfl) rfl rfl Try.call9 rfl (wk25_bad A n c ls _ (hx.st (hs.sub (List.nil_sublist _))) hl (by omega) hc hset) ?_
          rintro v3_1 w3_1 ⟨rfl, hy⟩
          replace hs := hs.call hy
          clear hy
          try simp only [List.cons_append, List.nil_append, List.append_nil] at hs
          refine Z.lb 5 rfl ?_
          refine Z.lnil ?_
          refine Z.only [0, 1, 3, 6, 9, 10] rfl ?_
          refine Z.nthen ?_
          refine Z.seq ?_
          refine Z.region ?_
          refine Z.lb 1 rfl ?_
          refine Z.le rfl trivial ?_
          refine Z.ZO.call rfl rfl (by rfl) rfl rfl Try.call10 rfl (wkv_bad A n c ls _ (hx.st (hs.sub (List.nil_sublist _))) hl hset) ?_
          rintro v4_1 w4_1 ⟨rfl, hy⟩
          replace hs := hs.call hy
          clear hy
          try simp only [List.cons_append, List.nil_append, List.append_nil] at hs
          refine Z.lb 3 rfl ?_
          refine Z.le rfl trivial ?_
          refine Z.ZO.alloc rfl rfl (by rfl) Try.zeroValue30 rfl hs ?_
          clear hs; intro g11 w11 hs
          refine Z.le rfl trivial ?_
          first | refine Z.ZO.storeA rfl rfl hs rfl rfl (by kernel_rfl) (by first | (simp [Value.oneCell']; done) | (refine Z.all_one ?_; assumption)) (by first | exact SX.at0 | exact SX.at1 | exact SX.at2 | exact SX.at3 | exact SX.at4 | exact SX.at5 | exact Z.at6 | exact Z.at7 | exact Z.at8 | exact Z.at9 | exact Z.at10 | exact Z.at11 | exact Z.at12) (by rfl) ?_ | refine Z.ZO.storeP rfl rfl hs rfl rfl (by kernel_rfl) (by first | (simp [Value.oneCell']; done) | (refine Z.all_one ?_; assumption)) (by first | exact SX.at0 | exact SX.at1 | exact SX.at2 | exact SX.at3 | exact SX.at4 | exact SX.at5 | exact Z.at6 | exact Z.at7 | exact Z.at8 | exact Z.at9 | exact Z.at10 | exact Z.at11 | exact Z.at12) (by first | decide | (simp; done) | (simp; omega)) ?_ | refine Z.ZO.storePR rfl rfl hs rfl rfl (by kernel_rfl) (by first | (simp [Value.oneCell']; done) | (refine Z.all_one ?_; assumption)) (by first | exact SX.at0 | exact SX.at1 | exact SX.at2 | exact SX.at3 | exact SX.at4 | exact SX.at5 | exact Z.at6 | exact Z.at7 | exact Z.at8 | exact Z.at9 | exact Z.at10 | exact Z.at11 | exact Z.at12) (by first | decide | (simp; done) | (simp; omega)) ?_
          clear hs; intro ws hs
          simp only [Nat.zero_add, Nat.add_zero, Nat.reduceAdd, Int.reduceToNat, Nat.reduceMul, List.set_cons_zero, List.set_cons_succ, List.setIfInBounds_toArray] at hs
          try simp only [Z.putL, Nat.zero_add] at hs
          refine Z.lb 1 rfl ?_
          refine Z.lnil ?_
          refine Z.only [1, 3, 6, 9, 10, 11, 12] rfl ?_
          refine Z.nthen ?_
          refine Z.seq ?_
          refine Z.seq ?_
          refine Z.region ?_
          refine Z.lb 2 rfl ?_
          refine Z.lnil ?_
          refine Z.only [1, 3, 6, 9, 10, 11, 12, 53] rfl ?_
          refine Z.nthen ?_
          refine Z.cond rfl (fun hc5 => ?_) (fun h => absurd h (by simp))
          refine Z.seq ?_
          refine Z.region ?_
          refine Z.lb 1 rfl ?_
          refine Z.le rfl trivial ?_
          refine Z.ZO.call rfl rfl (by rfl) rfl rfl Try.call15 rfl (bk_num _ _) ?_
          rintro v6_1 w6_1 ⟨rfl, hy⟩
          replace hs := hs.call hy
          clear hy
          try simp only [List.cons_append, List.nil_append, List.append_nil] at hs
          refine Z.lb 3 rfl ?_
          refine Z.yes (s := 58) (b := true) rfl ((by simp)) rfl ?_
          refine Z.le rfl (by exact ⟨rfl, trivial⟩) ?_
          refine Z.ZO.call rfl rfl (by rfl) rfl rfl Try.call8 rfl (works25 _) ?_
          rintro v6_5 w6_5 ⟨rfl, hy⟩
          replace hs := hs.call hy
          clear hy
          try simp only [List.cons_append, List.nil_append, List.append_nil] at hs
          refine Z.l rfl rfl (by rfl) (Z.keepS hs) (Z.Yd.pickT rfl rfl) ?_
          refine Z.lb 1 rfl ?_
          refine Z.lnil ?_
          refine Z.only [8] rfl ?_
          refine Z.nthen ?_
          refine Z.ret ?_
          repeat (first | refine Z.rthen ?_ | refine Z.rblock ?_ | refine Z.rscope ?_)
          -- ret#0
          refine Z.out1 (by exact ⟨rfl, trivial⟩) ?_
          exact ⟨_, rfl, rfl, hs.sub (List.nil_sublist _)⟩
      · skip
        refine Z.enter Try.func6 rfl Try.ntmps6 rfl rfl ?_
        refine Z.seq ?_
        refine Z.region ?_
        refine Z.le rfl trivial ?_
        refine Z.ZO.box rfl rfl (by rfl) rfl rfl hs ?_
        clear hs; intro g6 w6 hs
        refine Z.lb 1 rfl ?_
        refine Z.lnil ?_
        refine Z.only [0, 1, 3, 6] rfl ?_
        refine Z.nthen ?_
        refine Z.seq ?_
        refine Z.seq ?_
        refine Z.region ?_
        refine Z.lb 1 rfl ?_
        refine Z.l rfl rfl (by rfl) (Z.keepS hs) (Z.Yd.lenS rfl Try.underlying22) ?_
        refine Z.lb 2 rfl ?_
        refine Z.yes (s := 26) (b := false) rfl ((by simp; omega)) rfl ?_
        refine Z.lb 1 rfl ?_
        refine Z.l rfl rfl (by rfl) (Z.keepS hs) (Z.Yd.lenS rfl Try.underlying22) ?_
        refine Z.lb 1 rfl ?_
        refine Z.yes (s := 26) (b := false) rfl rfl rfl ?_
        refine Z.l rfl rfl (by rfl) (Z.keepS hs) (Z.Yd.pickF rfl rfl) ?_
        refine Z.lb 1 rfl ?_
        refine Z.yes (s := 31) (b := false) rfl ((by simp; omega)) rfl ?_
        refine Z.lb 1 rfl ?_
        refine Z.yes (s := 31) (b := false) rfl rfl rfl ?_
        refine Z.le rfl (by exact ⟨rfl, trivial⟩) ?_
        refine Z.ZO.call rfl rfl (by rfl) rfl rfl Try.call19 rfl (bk_few C k d 10 l _ (hq.st (hs.sub (List.nil_sublist _))) hk (by omega)) ?_
        rintro v1_10 w1_10 ⟨rfl, hy⟩
        replace hs := hs.call hy
        clear hy
        try simp only [List.cons_append, List.nil_append, List.append_nil] at hs
        refine Z.lb 1 rfl ?_
        refine Z.yes (s := 31) (b := false) rfl rfl rfl ?_
        refine Z.l rfl rfl (by rfl) (Z.keepS hs) (Z.Yd.pickF rfl rfl) ?_
        refine Z.lb 1 rfl ?_
        refine Z.yes (s := 36) (b := false) rfl ((by simp [hf])) rfl ?_
        refine Z.l rfl rfl (by rfl) (Z.keepS hs) (Z.Yd.cutA rfl Try.underlying57 Try.sizeOf54) ?_
        refine Z.yes (s := 36) (b := false) rfl rfl rfl ?_
        refine Z.le rfl (by exact ⟨rfl, trivial⟩) ?_
        refine Z.ZO.call rfl rfl (by rfl) rfl rfl Try.call19 rfl (bk_few (some ⟨g6, 0, none⟩) 2 2 2 [x1, x2] _ (by have h0 := hs.blkSl (g := g6) (cs := (x1.cells ++ x2.cells).toArray) List.mem_cons_self; simpa using h0) rfl (by omega)) ?_
        rintro v1_15 w1_15 ⟨rfl, hy⟩
        replace hs := hs.call hy
        clear hy
        try simp only [List.cons_append, List.nil_append, List.append_nil] at hs
        refine Z.lb 1 rfl ?_
        refine Z.yes (s := 36) (b := false) rfl rfl rfl ?_
        refine Z.l rfl rfl (by rfl) (Z.keepS hs) (Z.Yd.pickF rfl rfl) ?_
        refine Z.lnil ?_
        refine Z.only [0, 1, 3, 6, 40] rfl ?_
        refine Z.nthen ?_
        refine Z.cond rfl (fun hc1 => ?_) (fun h => absurd h (by simp [hf2]))
        refine Z.seq ?_
        refine Z.region ?_
        refine Z.le rfl trivial ?_
        refine Z.ZO.call rfl rfl (by rfl) rfl rfl Try.call8 rfl (works25 _) ?_
        rintro v2_0 w2_0 ⟨rfl, hy⟩
        replace hs := hs.call hy
        clear hy
        try simp only [List.cons_append, List.nil_append, List.append_nil] at hs
        refine Z.lb 1 rfl ?_
        refine Z.lnil ?_
        refine Z.only [8] rfl ?_
        refine Z.nthen ?_
        refine Z.ret ?_
        repeat (first | refine Z.rthen ?_ | refine Z.rblock ?_ | refine Z.rscope ?_)
        -- ret#0
        refine Z.out1 (by exact ⟨rfl, trivial⟩) ?_
        exact ⟨_, rfl, rfl, hs.sub (List.nil_sublist _)⟩
    · skip
      refine Z.enter Try.func6 rfl Try.ntmps6 rfl rfl ?_
      refine Z.seq ?_
      refine Z.region ?_
      refine Z.le rfl trivial ?_
      refine Z.ZO.box rfl rfl (by rfl) rfl rfl hs ?_
      clear hs; intro g6 w6 hs
      refine Z.lb 1 rfl ?_
      refine Z.lnil ?_
      refine Z.only [0, 1, 3, 6] rfl ?_
      refine Z.nthen ?_
      refine Z.seq ?_
      refine Z.seq ?_
      refine Z.region ?_
      refine Z.lb 1 rfl ?_
      refine Z.l rfl rfl (by rfl) (Z.keepS hs) (Z.Yd.lenS rfl Try.underlying22) ?_
      refine Z.lb 2 rfl ?_
      refine Z.yes (s := 26) (b := false) rfl ((by simp; omega)) rfl ?_
      refine Z.lb 1 rfl ?_
      refine Z.l rfl rfl (by rfl) (Z.keepS hs) (Z.Yd.lenS rfl Try.underlying22) ?_
      refine Z.lb 1 rfl ?_
      refine Z.yes (s := 26) (b := false) rfl rfl rfl ?_
      refine Z.l rfl rfl (by rfl) (Z.keepS hs) (Z.Yd.pickF rfl rfl) ?_
      refine Z.lb 1 rfl ?_
      refine Z.yes (s := 31) (b := false) rfl ((by simp; omega)) rfl ?_
      refine Z.lb 1 rfl ?_
      refine Z.yes (s := 31) (b := false) rfl rfl rfl ?_
      refine Z.le rfl (by exact ⟨rfl, trivial⟩) ?_
      refine Z.ZO.call rfl rfl (by rfl) rfl rfl Try.call19 rfl (bk_few C k d 10 l _ (hq.st (hs.sub (List.nil_sublist _))) hk (by omega)) ?_
      rintro v1_10 w1_10 ⟨rfl, hy⟩
      replace hs := hs.call hy
      clear hy
      try simp only [List.cons_append, List.nil_append, List.append_nil] at hs
      refine Z.lb 1 rfl ?_
      refine Z.yes (s := 31) (b := false) rfl rfl rfl ?_
      refine Z.l rfl rfl (by rfl) (Z.keepS hs) (Z.Yd.pickF rfl rfl) ?_
      refine Z.lb 1 rfl ?_
      refine Z.yes (s := 36) (b := true) rfl ((by simp [hf])) rfl ?_
      refine Z.ls rfl rfl rfl (by rfl) ?_
      refine Z.ls rfl rfl rfl (by rfl) ?_
      refine Z.ls rfl rfl rfl (by rfl) ?_
      refine Z.l rfl rfl (by rfl) (Z.keepS hs) (Z.Yd.pickT rfl rfl) ?_
      refine Z.lnil ?_
      refine Z.only [0, 1, 3, 6, 40] rfl ?_
      refine Z.nthen ?_
      refine Z.cond rfl (fun hc1 => ?_) (fun h => absurd h (by simp))
      refine Z.seq ?_
      refine Z.region ?_
      refine Z.le rfl trivial ?_
      refine Z.ZO.call rfl rfl (by rfl) rfl rfl Try.call8 rfl (works25 _) ?_
      rintro v2_0 w2_0 ⟨rfl, hy⟩
      replace hs := hs.call hy
      clear hy
      try simp only [List.cons_append, List.nil_append, List.append_nil] at hs
      refine Z.lb 1 rfl ?_
      refine Z.lnil ?_
      refine Z.only [8] rfl ?_
      refine Z.nthen ?_
      refine Z.ret ?_
      repeat (first | refine Z.rthen ?_ | refine Z.rblock ?_ | refine Z.rscope ?_)
      -- ret#0
      refine Z.out1 (by exact ⟨rfl, trivial⟩) ?_
      exact ⟨_, rfl, rfl, hs.sub (List.nil_sublist _)⟩
  · by_cases h1 : n ≤ 12
    · skip
      refine Z.enter Try.func6 rfl Try.ntmps6 rfl rfl ?_
      refine Z.seq ?_
      refine Z.region ?_
      refine Z.le rfl trivial ?_
      refine Z.ZO.box rfl rfl (by rfl) rfl rfl hs ?_
      clear hs; intro g6 w6 hs
      refine Z.lb 1 rfl ?_
      refine Z.lnil ?_
      refine Z.only [0, 1, 3, 6] rfl ?_
      refine Z.nthen ?_
      refine Z.seq ?_
      refine Z.seq ?_
      refine Z.region ?_
      refine Z.lb 1 rfl ?_
      refine Z.l rfl rfl (by rfl) (Z.keepS hs) (Z.Yd.lenS rfl Try.underlying22) ?_
      refine Z.lb 2 rfl ?_
      refine Z.yes (s := 26) (b := false) rfl ((by simp; omega)) rfl ?_
      refine Z.lb 1 rfl ?_
      refine Z.l rfl rfl (by rfl) (Z.keepS hs) (Z.Yd.lenS rfl Try.underlying22) ?_
      refine Z.lb 1 rfl ?_
      refine Z.yes (s := 26) (b := false) rfl rfl rfl ?_
      refine Z.l rfl rfl (by rfl) (Z.keepS hs) (Z.Yd.pickF rfl rfl) ?_
      refine Z.lb 1 rfl ?_
      refine Z.yes (s := 31) (b := true) rfl ((by simp; omega)) rfl ?_
      refine Z.ls rfl rfl rfl (by rfl) ?_
      refine Z.ls rfl rfl rfl (by rfl) ?_
      refine Z.ls rfl rfl rfl (by rfl) ?_
      refine Z.l rfl rfl (by rfl) (Z.keepS hs) (Z.Yd.pickT rfl rfl) ?_
      refine Z.lb 1 rfl ?_
      refine Z.yes (s := 36) (b := true) rfl ((by simp)) rfl ?_
      refine Z.ls rfl rfl rfl (by rfl) ?_
      refine Z.ls rfl rfl rfl (by rfl) ?_
      refine Z.ls rfl rfl rfl (by rfl) ?_
      refine Z.l rfl rfl (by rfl) (Z.keepS hs) (Z.Yd.pickT rfl rfl) ?_
      refine Z.lnil ?_
      refine Z.only [0, 1, 3, 6, 40] rfl ?_
      refine Z.nthen ?_
      refine Z.cond rfl (fun hc1 => ?_) (fun h => absurd h (by simp))
      refine Z.seq ?_
      refine Z.region ?_
      refine Z.le rfl trivial ?_
      refine Z.ZO.call rfl rfl (by rfl) rfl rfl Try.call8 rfl (works25 _) ?_
      rintro v2_0 w2_0 ⟨rfl, hy⟩
      replace hs := hs.call hy
      clear hy
      try simp only [List.cons_append, List.nil_append, List.append_nil] at hs
      refine Z.lb 1 rfl ?_
      refine Z.lnil ?_
      refine Z.only [8] rfl ?_
      refine Z.nthen ?_
      refine Z.ret ?_
      repeat (first | refine Z.rthen ?_ | refine Z.rblock ?_ | refine Z.rscope ?_)
      -- ret#0
      refine Z.out1 (by exact ⟨rfl, trivial⟩) ?_
      exact ⟨_, rfl, rfl, hs.sub (List.nil_sublist _)⟩
    · skip
      refine Z.enter Try.func6 rfl Try.ntmps6 rfl rfl ?_
      refine Z.seq ?_
      refine Z.region ?_
      refine Z.le rfl trivial ?_
      refine Z.ZO.box rfl rfl (by rfl) rfl rfl hs ?_
      clear hs; intro g6 w6 hs
      refine Z.lb 1 rfl ?_
      refine Z.lnil ?_
      refine Z.only [0, 1, 3, 6] rfl ?_
      refine Z.nthen ?_
      refine Z.seq ?_
      refine Z.seq ?_
      refine Z.region ?_
      refine Z.lb 1 rfl ?_
      refine Z.l rfl rfl (by rfl) (Z.keepS hs) (Z.Yd.lenS rfl Try.underlying22) ?_
      refine Z.lb 2 rfl ?_
      refine Z.yes (s := 26) (b := true) rfl ((by simp; omega)) rfl ?_
      refine Z.ls rfl rfl rfl (by rfl) ?_
      refine Z.ls rfl rfl rfl (by rfl) ?_
      refine Z.ls rfl rfl rfl (by rfl) ?_
      refine Z.l rfl rfl (by rfl) (Z.keepS hs) (Z.Yd.pickT rfl rfl) ?_
      refine Z.lb 1 rfl ?_
      refine Z.yes (s := 31) (b := true) rfl ((by simp)) rfl ?_
      refine Z.ls rfl rfl rfl (by rfl) ?_
      refine Z.ls rfl rfl rfl (by rfl) ?_
      refine Z.ls rfl rfl rfl (by rfl) ?_
      refine Z.l rfl rfl (by rfl) (Z.keepS hs) (Z.Yd.pickT rfl rfl) ?_
      refine Z.lb 1 rfl ?_
      refine Z.yes (s := 36) (b := true) rfl ((by simp)) rfl ?_
      refine Z.ls rfl rfl rfl (by rfl) ?_
      refine Z.ls rfl rfl rfl (by rfl) ?_
      refine Z.ls rfl rfl rfl (by rfl) ?_
      refine Z.l rfl rfl (by rfl) (Z.keepS hs) (Z.Yd.pickT rfl rfl) ?_
      refine Z.lnil ?_
      refine Z.only [0, 1, 3, 6, 40] rfl ?_
      refine Z.nthen ?_
      refine Z.cond rfl (fun hc1 => ?_) (fun h => absurd h (by simp))
      refine Z.seq ?_
      refine Z.region ?_
      refine Z.le rfl trivial ?_
      refine Z.ZO.call rfl rfl (by rfl) rfl rfl Try.call8 rfl (works25 _) ?_
      rintro v2_0 w2_0 ⟨rfl, hy⟩
      replace hs := hs.call hy
      clear hy
      try simp only [List.cons_append, List.nil_append, List.append_nil] at hs
      refine Z.lb 1 rfl ?_
      refine Z.lnil ?_
      refine Z.only [8] rfl ?_
      refine Z.nthen ?_
      refine Z.ret ?_
      repeat (first | refine Z.rthen ?_ | refine Z.rblock ?_ | refine Z.rscope ?_)
      -- ret#0
      refine Z.out1 (by exact ⟨rfl, trivial⟩) ?_
      exact ⟨_, rfl, rfl, hs.sub (List.nil_sublist _)⟩
theorem rd_act2 {W : World} {cs : List Value} (z : Rd Try.prog W 57 cs) : ∃ x1 x2 : AcV, cs = x1.cells ++ x2.cells ∧ Sl W x1.D (ints .i64 x1.d) ∧ Sl W x2.D (ints .i64 x2.d) := by
  obtain ⟨hl, hb⟩ := Rd.array Try.underlying57 z
  have c3 : Try.prog.cellsOf 54 = 3 := by kernel_rfl
  have c6 : Try.prog.cellsOf 57 = 6 := by kernel_rfl
  rw [c6] at hl
  obtain ⟨a, b, c, d, e, f, rfl⟩ := list6 hl
  obtain ⟨x1, h1, g1⟩ := rd_act25 (hb 0 (by omega))
  obtain ⟨x2, h2, g2⟩ := rd_act25 (hb 1 (by omega))
  simp [c3] at h1 h2
  exact ⟨x1, x2, by rw [← h1, ← h2]; rfl, g1, g2⟩
theorem agg_eq25 {cs : Array Value} {l : List Value} (h : (Value.agg cs).cells.toList = l) : cs = l.toArray := by
  have : cs.toList = l := by simpa [Value.cells] using h
  rw [← this]
theorem bucketCopies_rd (a0 : Option Addr) (len0 cap0 : Nat) (a1 : Option Addr) (len1 cap1 : Nat) (cs2 : Array Value) (a3 : Option Addr) (len3 cap3 : Nat) (w : World) (z0 : Rd Try.prog w 22 (Value.slice a0 len0 cap0).cells.toList) (z1 : Rd Try.prog w 49 (Value.slice a1 len1 cap1).cells.toList) (z2 : Rd Try.prog w 57 (Value.agg cs2).cells.toList) (z3 : Rd Try.prog w 22 (Value.slice a3 len3 cap3).cells.toList) :
    Calls Try.prog 6 #[.slice a0 len0 cap0, .slice a1 len1 cap1, .agg cs2, .slice a3 len3 cap3] w fun e w' => e = .returned (.bool true) ∧ Below w.heap.size w w' := by
  obtain ⟨ls, h1, h2, -, h3⟩ := rd_logicals (show Rd Try.prog w 22 [.slice a0 len0 cap0] by simpa [Value.cells] using z0)
  obtain ⟨l, k1, k2, k3, k4⟩ := rd_acts25 (show Rd Try.prog w 49 [.slice a1 len1 cap1] by simpa [Value.cells] using z1)
  obtain ⟨x1, x2, hx, g1, g2⟩ := rd_act2 z2
  obtain ⟨lo, o1, o2, -, o3⟩ := rd_logicals (show Rd Try.prog w 22 [.slice a3 len3 cap3] by simpa [Value.cells] using z3)
  rw [agg_eq25 hx]
  refine (bucketCopies_walk a0 a1 a3 len0 cap0 len1 cap1 len3 cap3 ls lo l x1 x2 w h3 h1 h2 k4 k1 k3 o3 o1 o2 g1 g2).mono ?_
  rintro e w' ⟨v, rfl, rfl, h⟩
  exact ⟨rfl, h.below⟩
end Go.Proofs.Ythdhobnkclddhaa

/- What every row needs. -/
namespace Go.Proofs.Ythdhobnkclddhaa
open Go.ChangeShapes Go.WideShapes Go.ChangeAt Go.RowKit
theorem pown : ownKnob Try.prog.godebug = none := by kernel_rfl
theorem plaidOut : laidOutB Try.prog = true := by kernel_rfl
end Go.Proofs.Ythdhobnkclddhaa
