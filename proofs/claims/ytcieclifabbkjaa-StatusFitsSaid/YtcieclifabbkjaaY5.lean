/- Part 5 of the proofs that lead to the statement. -/
import Derived.Test.YtcieclifabbkjaaY4
/- Status reports: the document's decoder. -/
namespace Go.Proofs.Ytcieclifabbkjaa
open Go.RowKit
set_option linter.unusedSimpArgs false
set_option linter.unusedVariables false
--newlaws

theorem _root_.Go.Proofs.Ytcieclifabbkjaa.SX.St.blkSl {w0 w : World} {M : List Nat} {L : List SX.Ent} {g T : Nat} {cs : Array Value} (hs : SX.St w0 M w L) (hm : SX.Ent.blk g T cs ∈ L) : Sl w (some ⟨g, 0, none⟩) cs.toList := fun hp => by
  have hr : w.heap[g]? = some (.cells cs T (0, 0)) := hs.ok _ hm
  refine ⟨g, 0, rfl, SX.lt_of_some hr, fun i u hu => ?_⟩
  rw [Nat.zero_add]
  exact (SX.cell_blk hr i).trans (by simpa using hu)
theorem _root_.Go.Proofs.Ytcieclifabbkjaa.SX.St.slm {w0 w : World} {M : List Nat} {L : List SX.Ent} {T k size c m : Nat} {A : Option Addr} {xs : List Value} (hs : SX.St w0 M w L) (hm : SX.Ent.row (.slice A k c) T size m xs ∈ L) : Sl w A xs := by
  obtain ⟨j, hj⟩ := List.getElem?_of_mem hm
  exact SX.row_slB hs hj
theorem elt_b8 {l : List Int} (hb : ∀ x ∈ l, 0 ≤ x ∧ x < 256) {k : Nat} (hk : k < l.length) : 0 ≤ elt l (k : Int) ∧ elt l (k : Int) < 256 := by
  have := hb l[k] (List.getElem_mem hk)
  simpa [elt, hk] using this
theorem rowEq {w0 w : World} {M : List Nat} {L : List SX.Ent} {v : Value} {T s k k' : Nat} {xs xs' : List Value} (hs : SX.St w0 M w (SX.Ent.row v T s k xs :: L)) (h1 : k = k') (h2 : xs = xs') : SX.St w0 M w (SX.Ent.row v T s k' xs' :: L) := by
  subst h1 h2
  exact hs
theorem okNext_snoc {acc : List NkV} {x : NkV} (h : acc.length ≠ 0) : (acc ++ [x])[acc.length - 1]? = acc[acc.length - 1]? := List.getElem?_append_left (by omega)
theorem okF1 {ack : Int} {acc : List NkV} {n : NkV} (h : ¬ acc.length < 512) : okNext ack acc n = false := by unfold okNext; rw [decide_eq_false h]; rfl
theorem okF2 {ack : Int} {acc : List NkV} {n : NkV} (h : ¬ alone ack n) : okNext ack acc n = false := by unfold okNext; rw [decide_eq_false h]; simp
theorem okF3 {ack : Int} {acc : List NkV} {n p : NkV} (h0 : acc.length ≠ 0) (hp : acc[acc.length - 1]? = some p) (h : ¬ follows ack p n) : okNext ack acc n = false := by
  unfold okNext
  rw [if_neg h0, hp]
  simp [h]
theorem okT1 {ack : Int} {acc : List NkV} {n : NkV} (h5 : acc.length < 512) (h : alone ack n) (h0 : acc.length = 0) : okNext ack acc n = true := by unfold okNext; rw [decide_eq_true h5, decide_eq_true h, if_pos h0]; rfl
theorem okT2 {ack : Int} {acc : List NkV} {n p : NkV} (h5 : acc.length < 512) (h : alone ack n) (h0 : acc.length ≠ 0) (hp : acc[acc.length - 1]? = some p) (hf : follows ack p n) : okNext ack acc n = true := by
  unfold okNext
  rw [decide_eq_true h5, decide_eq_true h, if_neg h0, hp]
  simp [hf]
set_option maxHeartbeats 1000000 in
set_option maxRecDepth 100000 in
theorem rdecode_main (A : Option Addr) (m c : Nat) (l : List Int) (w : World) (hx : Sl w A (ints .u8 l)) (hl : l.length = m) (hm : m ≤ 1000000) (hb : ∀ x ∈ l, 0 ≤ x ∧ x < 256) (h : 15 ≤ 8 * l.length) (h4 : gv l 0 4 = 0) (R : Int × List NkV) (hR : decGo l (gv l 4 10) (8 * l.length + 1) 15 [] (gv l 14 1 == 1) = R) :
    Calls Try.prog 18 #[.slice A m c] w (SX.Ret fun v w' => Dec R.1 (if R.1 = 0 then gv l 4 10 else 0) (if R.1 = 0 then R.2 else []) v w w') := by
  have hs := SX.St.start w
  have b0 := gv_bd l 0 4
  have b1 := gv_bd l 4 10
  have b2 := gv_bd l 14 1
  simp only [Nat.reducePow] at b0 b1 b2
  obtain ⟨q1, q2, q3⟩ := gs_ok (l := l) [4, 10, 1] 0 (by simp) (by simp; omega)
  obtain ⟨v1, hv1⟩ : ∃ v, v = gv l 4 10 := ⟨_, rfl⟩
  obtain ⟨v2, hv2⟩ : ∃ v, v = gv l 14 1 := ⟨_, rfl⟩
  have q3' : gsV l 0 [4, 10, 1] = [0, v1, v2] := by rw [hv1, hv2, ← h4]; exact q3
  have q1' : gsE l 0 [4, 10, 1] = 0 := q1
  have q2' : gsA l 0 [4, 10, 1] = 15 := q2
  have hg4 := gv04 hb (by omega)
  rw [h4] at hg4
  have he1 : 0 ≤ elt l 0 ∧ elt l 0 < 256 := elt_b8 hb (k := 0) (by omega)
  have he0 : elt l 0 ≤ 15 := by omega
  rw [← hv1] at b1 hR ⊢
  rw [← hv2] at b2 hR
  obtain ⟨bx, ox, rfl, hbx, hx⟩ := Z.Sl.some hx (by simp [ints]; omega)
  refine Z.enter Try.func18 rfl Try.ntmps18 rfl rfl ?_
  refine Z.seq ?_
  refine Z.region ?_
  refine Z.le rfl trivial ?_
  refine Z.ZO.alloc rfl rfl (by rfl) Try.zeroValue24 rfl hs ?_
  clear hs; intro g2 w2 hs
  refine Z.lb 1 rfl ?_
  refine Z.lnil ?_
  refine Z.only [0, 2] rfl ?_
  refine Z.nthen ?_
  refine Z.seq ?_
  refine Z.seq ?_
  refine Z.region ?_
  refine Z.lb 1 rfl ?_
  refine Z.l rfl rfl (by rfl) (Z.keepS hs) (Z.Yd.lenS rfl Try.underlying26) ?_
  refine Z.lb 1 rfl ?_
  refine Z.lnil ?_
  refine Z.only [0, 2, 19] rfl ?_
  refine Z.nthen ?_
  refine Z.cond rfl (fun h => absurd h (by simp; omega)) (fun hc1 => ?_)
  refine Z.skip ?_
  refine Z.nthen ?_
  refine Z.seq ?_
  refine Z.seq ?_
  refine Z.region ?_
  refine Z.lb 1 rfl ?_
  refine Z.l rfl rfl (by rfl) (Z.keepS hs) (Z.Yd.elem rfl rfl Try.underlying26 Try.sizeOf5 (fun hG => ⟨(by first | omega | (have hG' := Z.gh rfl hG; simp at hG'; omega)), (by first | omega | (have hG' := Z.gh rfl hG; simp at hG'; omega))⟩)) ?_
  refine Z.l rfl rfl (by rfl) (Z.keepS hs) (by first | exact Z.Yd.load rfl Try.isAgg5 (fun _ => Z.cellB (by first | ((repeat (first | exact List.mem_cons_self | refine List.mem_cons_of_mem _ ?_ | refine List.mem_append_right _ ?_)); done) | fail) rfl) | exact Z.Yd.load rfl Try.isAgg5 (fun hG => Z.cellR (by first | ((repeat (first | exact List.mem_cons_self | refine List.mem_cons_of_mem _ ?_ | refine List.mem_append_right _ ?_)); done) | fail) (Z.ints_at (by first | omega | (have hG' := Z.gh rfl hG; simp at hG'; omega)) (by first | omega | (have hG' := Z.gh rfl hG; simp at hG'; omega)))) | exact Z.Yd.load rfl Try.isAgg5 (fun hG => Z.cellXi (by assumption) (by first | omega | (have hG' := Z.gh rfl hG; simp at hG'; omega)) (by first | omega | (have hG' := Z.gh rfl hG; simp at hG'; omega))) | exact Z.Yd.load rfl Try.isAgg5 (fun hG => Z.cellS (by assumption) rfl (by first | omega | (have hG' := Z.gh rfl hG; simp at hG'; omega)) (by first | omega | (have hG' := Z.gh rfl hG; simp at hG'; omega))) | fail "load 3.2") ?_
  refine Z.lb 1 rfl ?_
  refine Z.lnil ?_
  refine Z.only [0, 2, 24] rfl ?_
  refine Z.nthen ?_
  refine Z.cond rfl (fun h => absurd h (by simp; omega)) (fun hc3 => ?_)
  refine Z.skip ?_
  refine Z.nthen ?_
  refine Z.seq ?_
  refine Z.region ?_
  refine Z.lb 1 rfl ?_
  refine Z.le rfl trivial ?_
  refine Z.ZO.call rfl rfl (by rfl) rfl rfl Try.call45 rfl (refnew _ m c l _ (hx.st (hs.sub (List.nil_sublist _))) hl (by omega) hb) ?_
  rintro v5_1 w5_1 ⟨B, mb, d, rfl, hmb, hy⟩
  replace hs := hs.call hy
  clear hy
  try simp only [List.cons_append, List.nil_append, List.append_nil] at hs
  refine Z.le rfl trivial ?_
  refine Z.ZO.alloc rfl rfl (by rfl) Try.zeroValue87 rfl hs ?_
  clear hs; intro g4 w4 hs
  refine Z.le rfl trivial ?_
  first | refine Z.ZO.storeA rfl rfl hs rfl rfl (by kernel_rfl) (by first | (simp [Value.oneCell']; done) | (refine Z.all_one ?_; assumption)) (by first | exact SX.at0 | exact SX.at1 | exact SX.at2 | exact SX.at3 | exact SX.at4 | exact SX.at5 | exact Z.at6 | exact Z.at7 | exact Z.at8 | exact Z.at9 | exact Z.at10 | exact Z.at11 | exact Z.at12) (by rfl) ?_ | refine Z.ZO.storeP rfl rfl hs rfl rfl (by kernel_rfl) (by first | (simp [Value.oneCell']; done) | (refine Z.all_one ?_; assumption)) (by first | exact SX.at0 | exact SX.at1 | exact SX.at2 | exact SX.at3 | exact SX.at4 | exact SX.at5 | exact Z.at6 | exact Z.at7 | exact Z.at8 | exact Z.at9 | exact Z.at10 | exact Z.at11 | exact Z.at12) (by first | decide | (simp; done) | (simp; omega)) ?_ | refine Z.ZO.storePR rfl rfl hs rfl rfl (by kernel_rfl) (by first | (simp [Value.oneCell']; done) | (refine Z.all_one ?_; assumption)) (by first | exact SX.at0 | exact SX.at1 | exact SX.at2 | exact SX.at3 | exact SX.at4 | exact SX.at5 | exact Z.at6 | exact Z.at7 | exact Z.at8 | exact Z.at9 | exact Z.at10 | exact Z.at11 | exact Z.at12) (by first | decide | (simp; done) | (simp; omega)) ?_
  clear hs; intro ws hs
  simp only [Nat.zero_add, Nat.add_zero, Nat.reduceAdd, Int.reduceToNat, Nat.reduceMul, List.set_cons_zero, List.set_cons_succ, List.setIfInBounds_toArray] at hs
  try simp only [Z.putL, Nat.zero_add] at hs
  refine Z.lnil ?_
  refine Z.only [2, 4] rfl ?_
  refine Z.nthen ?_
  refine Z.seq ?_
  refine Z.region ?_
  refine Z.l rfl rfl (by rfl) (Z.keepS hs) (by first | exact Z.Yd.loadA _ rfl Try.isAgg87 (fun _ => Z.cellsB (by first | ((repeat (first | exact List.mem_cons_self | refine List.mem_cons_of_mem _ ?_ | refine List.mem_append_right _ ?_)); done) | fail)) (by exact Try.sizeOf87) | fail "load 6.0") ?_
  refine Z.le rfl trivial ?_
  refine Z.ZO.litL (T' := 3) [(0, 1), (1, 1), (2, 1)] [.int .i64 0, .int .i64 0, .int .i64 0] rfl rfl (by rfl) rfl rfl (by intro W; kernel_rfl) hs ?_
  clear hs; intro g30 w30 hs
  have hmd : mb ≤ d := by obtain ⟨_, _, h1, h2, -, -⟩ := SX.row_slv hs (j := 2) rfl
                          cases h1
                          exact h2
  refine Z.le rfl trivial ?_
  refine Z.ZO.call rfl rfl (by rfl) rfl rfl Try.call46 rfl (refgetall B mb d l 0 _ _ _ [4, 10, 1] _ (hs.slm (by first | ((repeat (first | exact List.mem_cons_self | refine List.mem_cons_of_mem _ ?_ | refine List.mem_append_right _ ?_)); done) | fail)) (by omega) hmd (by omega) (by omega) (by have h0 := hs.blkSl (List.mem_cons_self); exact h0) rfl (by decide)) ?_
  rintro v6_2 w6_2 ⟨so, rfl, hy⟩
  replace hs := hs.call hy
  clear hy
  try simp only [List.cons_append, List.nil_append, List.append_nil] at hs
  rw [q1']
  rw [if_pos rfl, q2']
  rw [q1', if_pos rfl, if_pos rfl, q3'] at hs
  obtain ⟨gso, cso, rfl, -, -⟩ := row_form (j := 0) hs rfl (by omega)
  refine Z.lb 4 rfl ?_
  refine Z.le rfl trivial ?_
  first | refine Z.ZO.storeA rfl rfl hs rfl rfl (by kernel_rfl) (by first | (simp [Value.oneCell']; done) | (refine Z.all_one ?_; assumption)) (by first | exact SX.at0 | exact SX.at1 | exact SX.at2 | exact SX.at3 | exact SX.at4 | exact SX.at5 | exact Z.at6 | exact Z.at7 | exact Z.at8 | exact Z.at9 | exact Z.at10 | exact Z.at11 | exact Z.at12) (by rfl) ?_ | refine Z.ZO.storeP rfl rfl hs rfl rfl (by kernel_rfl) (by first | (simp [Value.oneCell']; done) | (refine Z.all_one ?_; assumption)) (by first | exact SX.at0 | exact SX.at1 | exact SX.at2 | exact SX.at3 | exact SX.at4 | exact SX.at5 | exact Z.at6 | exact Z.at7 | exact Z.at8 | exact Z.at9 | exact Z.at10 | exact Z.at11 | exact Z.at12) (by first | decide | (simp; done) | (simp; omega)) ?_ | refine Z.ZO.storePR rfl rfl hs rfl rfl (by kernel_rfl) (by first | (simp [Value.oneCell']; done) | (refine Z.all_one ?_; assumption)) (by first | exact SX.at0 | exact SX.at1 | exact SX.at2 | exact SX.at3 | exact SX.at4 | exact SX.at5 | exact Z.at6 | exact Z.at7 | exact Z.at8 | exact Z.at9 | exact Z.at10 | exact Z.at11 | exact Z.at12) (by first | decide | (simp; done) | (simp; omega)) ?_
  clear hs; intro ws hs
  simp only [Nat.zero_add, Nat.add_zero, Nat.reduceAdd, Int.reduceToNat, Nat.reduceMul, List.set_cons_zero, List.set_cons_succ, List.setIfInBounds_toArray] at hs
  try simp only [Z.putL, Nat.zero_add] at hs
  refine Z.lb 2 rfl ?_
  refine Z.lnil ?_
  refine Z.only [2, 4, 5] rfl ?_
  refine Z.nthen ?_
  refine Z.seq ?_
  refine Z.region ?_
  refine Z.lb 1 rfl ?_
  refine Z.l rfl rfl (by rfl) (Z.keepS hs) (Z.Yd.elem rfl rfl Try.underlying78 Try.sizeOf62 (fun hG => ⟨(by first | omega | (have hG' := Z.gh rfl hG; simp at hG'; omega)), (by first | omega | (have hG' := Z.gh rfl hG; simp at hG'; omega))⟩)) ?_
  refine Z.l rfl rfl (by rfl) (Z.keepS hs) (Z.Yd.load rfl Try.isAgg62 (fun _ => Z.cellR (by first | ((repeat (first | exact List.mem_cons_self | refine List.mem_cons_of_mem _ ?_ | refine List.mem_append_right _ ?_)); done) | fail) rfl)) ?_
  refine Z.l rfl rfl (by rfl) (Z.keepS hs) (Z.Yd.convI rfl ⟨_, Try.underlying62⟩ Try.underlying3 (fun hG => Z.wi64 (by first | omega | (have hG' := Z.gh rfl hG; simp at hG'; omega)))) ?_
  refine Z.l rfl rfl (by rfl) (Z.keepS hs) (Z.Yd.buildL [(0, 1), (1, 1)] [.int .i64 0, .slice none 0 0] rfl rfl (by intro w; kernel_rfl)) ?_
  refine Z.le rfl trivial ?_
  refine Z.ZO.alloc rfl rfl (by rfl) Try.zeroValue24 rfl hs ?_
  clear hs; intro g7 w7 hs
  refine Z.le rfl trivial ?_
  first | refine Z.ZO.storeA rfl rfl hs rfl rfl (by kernel_rfl) (by first | (simp [Value.oneCell']; done) | (refine Z.all_one ?_; assumption)) (by first | exact SX.at0 | exact SX.at1 | exact SX.at2 | exact SX.at3 | exact SX.at4 | exact SX.at5 | exact Z.at6 | exact Z.at7 | exact Z.at8 | exact Z.at9 | exact Z.at10 | exact Z.at11 | exact Z.at12) (by rfl) ?_ | refine Z.ZO.storeP rfl rfl hs rfl rfl (by kernel_rfl) (by first | (simp [Value.oneCell']; done) | (refine Z.all_one ?_; assumption)) (by first | exact SX.at0 | exact SX.at1 | exact SX.at2 | exact SX.at3 | exact SX.at4 | exact SX.at5 | exact Z.at6 | exact Z.at7 | exact Z.at8 | exact Z.at9 | exact Z.at10 | exact Z.at11 | exact Z.at12) (by first | decide | (simp; done) | (simp; omega)) ?_ | refine Z.ZO.storePR rfl rfl hs rfl rfl (by kernel_rfl) (by first | (simp [Value.oneCell']; done) | (refine Z.all_one ?_; assumption)) (by first | exact SX.at0 | exact SX.at1 | exact SX.at2 | exact SX.at3 | exact SX.at4 | exact SX.at5 | exact Z.at6 | exact Z.at7 | exact Z.at8 | exact Z.at9 | exact Z.at10 | exact Z.at11 | exact Z.at12) (by first | decide | (simp; done) | (simp; omega)) ?_
  clear hs; intro ws hs
  simp only [Nat.zero_add, Nat.add_zero, Nat.reduceAdd, Int.reduceToNat, Nat.reduceMul, List.set_cons_zero, List.set_cons_succ, List.setIfInBounds_toArray] at hs
  try simp only [Z.putL, Nat.zero_add] at hs
  refine Z.lnil ?_
  refine Z.only [2, 4, 5, 7] rfl ?_
  refine Z.nthen ?_
  refine Z.seq ?_
  refine Z.seq ?_
  refine Z.region ?_
  refine Z.lb 1 rfl ?_
  refine Z.l rfl rfl (by rfl) (Z.keepS hs) (Z.Yd.elem rfl rfl Try.underlying78 Try.sizeOf62 (fun hG => ⟨(by first | omega | (have hG' := Z.gh rfl hG; simp at hG'; omega)), (by first | omega | (have hG' := Z.gh rfl hG; simp at hG'; omega))⟩)) ?_
  refine Z.l rfl rfl (by rfl) (Z.keepS hs) (Z.Yd.load rfl Try.isAgg62 (fun _ => Z.cellR (by first | ((repeat (first | exact List.mem_cons_self | refine List.mem_cons_of_mem _ ?_ | refine List.mem_append_right _ ?_)); done) | fail) rfl)) ?_
  refine Z.lb 2 rfl ?_
  refine Z.lnil ?_
  refine Z.only [2, 4, 7, 8] rfl ?_
  replace hs := (hs.sel [0, 3, 4, 5] (by decide)).nil 45 4
  refine Z.nthen ?_
  refine Z.block ?_
  refine Z.loopk (ι := Nat × List NkV × Value × Bool) [2, 4, 7] rfl (fun k => [(8, [], .bool k.2.2.2)]) (fun k wr => (k.1 ≤ 8 * l.length ∧ k.2.1.length ≤ 512 ∧ (∀ n ∈ k.2.1, 0 ≤ n.sn ∧ n.sn ≤ 1023) ∧ ∃ f, 8 * l.length - k.1 < f ∧ decGo l v1 f k.1 k.2.1 k.2.2.2 = R) ∧ SX.St w [] wr [SX.Ent.row k.2.2.1 45 4 k.2.1.length (k.2.1.flatMap NkV.cells), SX.Ent.blk g7 24 #[.int .i64 v1, k.2.2.1], SX.Ent.blk g4 87 #[.slice B mb d, .int .i64 (k.1 : Int)], SX.Ent.row (.slice B mb d) 5 1 mb (ints .u8 (bits (unb l))), SX.Ent.blk g2 24 #[.int .i64 0, .slice none 0 0]]) (fun k => 8 * l.length - k.1 + (if k.2.2.2 = true then 1 else 0)) (15, [], .slice none 0 0, v2 == 1) (by refine ⟨?_, trivial⟩ <;> (first | rfl | (refine Z.lookv rfl ?_; simp; done) | (refine Z.lookv rfl ?_; simp; omega))) ⟨⟨by simp only; omega, by simp, by simp, _, by simp only; omega, hR⟩, hs⟩ ?_
  clear hs
  rintro ⟨a, acc, sva, more⟩ w2 ⟨⟨ha, h512, hsn, f, hf, hgo⟩, hs⟩
  refine Z.only [2, 4, 7, 8] rfl ?_
  (try dsimp only at hs)
  dsimp only at ha h512 hsn hf hgo
  refine Z.seq ?_
  refine Z.seq ?_
  refine Z.region ?_
  refine Z.lb 1 rfl ?_
  refine Z.lnil ?_
  refine Z.only [2, 4, 7, 44] rfl ?_
  refine Z.nthen ?_
  refine Z.cond rfl (fun hc9 => ?_) (fun hc9 => ?_)
  · first
      | (exfalso; simp at hc9 <;> omega)
      | (
        (try simp at hc9)
        obtain ⟨f, rfl⟩ : ∃ f', f = f' + 1 := ⟨f - 1, by omega⟩
        unfold decGo at hgo
        rw [if_neg (by rw [show more = true from by assumption]; decide)] at hgo
        obtain ⟨Aa, ca, rfl, -, -, -⟩ := SX.row_slv hs (j := 0) rfl
        have b0 := gv_bd l a 10
        have b1 := gv_bd l (a + 10) 1
        have b2 := gv_bd l (a + 11) 1
        have b3 := gv_bd l (a + 12) 15
        have b4 := gv_bd l (a + 27) 15
        simp only [Nat.reducePow] at b0 b1 b2 b3 b4
        refine Z.skip ?_
        refine Z.nthen ?_
        refine Z.block ?_
        refine Z.seq ?_
        refine Z.region ?_
        refine Z.l rfl rfl (by rfl) (Z.keepS hs) (by first | exact Z.Yd.loadA _ rfl Try.isAgg87 (fun _ => Z.cellsB (by first | ((repeat (first | exact List.mem_cons_self | refine List.mem_cons_of_mem _ ?_ | refine List.mem_append_right _ ?_)); done) | fail)) (by exact Try.sizeOf87) | fail "load 10.0") ?_
        refine Z.le rfl trivial ?_
        refine Z.ZO.litL (T' := 3) [(0, 1), (1, 1), (2, 1)] [.int .i64 0, .int .i64 0, .int .i64 0] rfl rfl (by rfl) rfl rfl (by intro W; kernel_rfl) hs ?_
        clear hs; intro g47 w47 hs
        refine Z.le rfl trivial ?_
        refine Z.ZO.call rfl rfl (by rfl) rfl rfl Try.call46 rfl (refgetall B mb d l a _ _ _ [10, 1, 1] _ (hs.slm (by first | ((repeat (first | exact List.mem_cons_self | refine List.mem_cons_of_mem _ ?_ | refine List.mem_append_right _ ?_)); done) | fail)) (by omega) hmd (by omega) ha (by have h0 := hs.blkSl (List.mem_cons_self); exact h0) rfl (by decide)) ?_
        rintro v10_2 w10_2 ⟨so, rfl, hy⟩
        replace hs := hs.call hy
        clear hy
        try simp only [List.cons_append, List.nil_append, List.append_nil] at hs
        refine Z.lb 4 rfl ?_
        refine Z.le rfl trivial ?_
        refine Z.ZO.alloc rfl rfl (by rfl) Try.zeroValue87 rfl hs ?_
        clear hs; intro g9 w9 hs
        refine Z.le rfl trivial ?_
        first | refine Z.ZO.storeA rfl rfl hs rfl rfl (by kernel_rfl) (by first | (simp [Value.oneCell']; done) | (refine Z.all_one ?_; assumption)) (by first | exact SX.at0 | exact SX.at1 | exact SX.at2 | exact SX.at3 | exact SX.at4 | exact SX.at5 | exact Z.at6 | exact Z.at7 | exact Z.at8 | exact Z.at9 | exact Z.at10 | exact Z.at11 | exact Z.at12) (by rfl) ?_ | refine Z.ZO.storeP rfl rfl hs rfl rfl (by kernel_rfl) (by first | (simp [Value.oneCell']; done) | (refine Z.all_one ?_; assumption)) (by first | exact SX.at0 | exact SX.at1 | exact SX.at2 | exact SX.at3 | exact SX.at4 | exact SX.at5 | exact Z.at6 | exact Z.at7 | exact Z.at8 | exact Z.at9 | exact Z.at10 | exact Z.at11 | exact Z.at12) (by first | decide | (simp; done) | (simp; omega)) ?_ | refine Z.ZO.storePR rfl rfl hs rfl rfl (by kernel_rfl) (by first | (simp [Value.oneCell']; done) | (refine Z.all_one ?_; assumption)) (by first | exact SX.at0 | exact SX.at1 | exact SX.at2 | exact SX.at3 | exact SX.at4 | exact SX.at5 | exact Z.at6 | exact Z.at7 | exact Z.at8 | exact Z.at9 | exact Z.at10 | exact Z.at11 | exact Z.at12) (by first | decide | (simp; done) | (simp; omega)) ?_
        clear hs; intro ws hs
        simp only [Nat.zero_add, Nat.add_zero, Nat.reduceAdd, Int.reduceToNat, Nat.reduceMul, List.set_cons_zero, List.set_cons_succ, List.setIfInBounds_toArray] at hs
        try simp only [Z.putL, Nat.zero_add] at hs
        refine Z.lb 2 rfl ?_
        refine Z.lnil ?_
        refine Z.only [2, 4, 7, 9, 10, 11] rfl ?_
        refine Z.nthen ?_
        refine Z.seq ?_
        refine Z.seq ?_
        refine Z.region ?_
        refine Z.lb 2 rfl ?_
        refine Z.lnil ?_
        refine Z.only [2, 4, 7, 9, 10, 53] rfl ?_
        refine Z.nthen ?_
        refine Z.cond rfl (fun hc11 => ?_) (fun hc11 => ?_)
        · first
            | (exfalso; simp at hc11 <;> omega)
            | (
              (try simp at hc11)
              have hE : nkE l a ≠ 0 := by
                intro hE
                have h12 : a + 12 ≤ 8 * l.length := by unfold nkE at hE; split at hE <;> omega
                exact absurd (show gsE l a [10, 1, 1] = 0 from (gs_ok (l := l) [10, 1, 1] a (by simp) h12).1) (by assumption)
              rw [if_pos hE] at hgo
              subst hgo
              refine Z.seq ?_
              refine Z.region ?_
              refine Z.l rfl rfl (by rfl) (Z.keepS hs) (Z.Yd.buildL [(0, 1), (1, 1)] [.int .i64 0, .slice none 0 0] rfl rfl (by intro w; kernel_rfl)) ?_
              refine Z.le rfl trivial ?_
              first | refine Z.ZO.storeA rfl rfl hs rfl rfl (by kernel_rfl) (by first | (simp [Value.oneCell']; done) | (refine Z.all_one ?_; assumption)) (by first | exact SX.at0 | exact SX.at1 | exact SX.at2 | exact SX.at3 | exact SX.at4 | exact SX.at5 | exact Z.at6 | exact Z.at7 | exact Z.at8 | exact Z.at9 | exact Z.at10 | exact Z.at11 | exact Z.at12) (by rfl) ?_ | refine Z.ZO.storeP rfl rfl hs rfl rfl (by kernel_rfl) (by first | (simp [Value.oneCell']; done) | (refine Z.all_one ?_; assumption)) (by first | exact SX.at0 | exact SX.at1 | exact SX.at2 | exact SX.at3 | exact SX.at4 | exact SX.at5 | exact Z.at6 | exact Z.at7 | exact Z.at8 | exact Z.at9 | exact Z.at10 | exact Z.at11 | exact Z.at12) (by first | decide | (simp; done) | (simp; omega)) ?_ | refine Z.ZO.storePR rfl rfl hs rfl rfl (by kernel_rfl) (by first | (simp [Value.oneCell']; done) | (refine Z.all_one ?_; assumption)) (by first | exact SX.at0 | exact SX.at1 | exact SX.at2 | exact SX.at3 | exact SX.at4 | exact SX.at5 | exact Z.at6 | exact Z.at7 | exact Z.at8 | exact Z.at9 | exact Z.at10 | exact Z.at11 | exact Z.at12) (by first | decide | (simp; done) | (simp; omega)) ?_
              clear hs; intro ws hs
              simp only [Nat.zero_add, Nat.add_zero, Nat.reduceAdd, Int.reduceToNat, Nat.reduceMul, List.set_cons_zero, List.set_cons_succ, List.setIfInBounds_toArray] at hs
              try simp only [Z.putL, Nat.zero_add] at hs
              refine Z.lb 1 rfl ?_
              refine Z.lnil ?_
              refine Z.only [2, 3] rfl ?_
              refine Z.nthen ?_
              refine Z.ret ?_
              repeat (first | refine Z.rthen ?_ | refine Z.rblock ?_ | refine Z.rscope ?_)
              -- ret#0
              refine Z.out2 (by exact ⟨⟨_, rfl, Z.rvcA hs Try.isAgg24 (by first | ((repeat (first | exact List.mem_cons_self | refine List.mem_cons_of_mem _ ?_ | refine List.mem_append_right _ ?_)); done) | fail) (by exact Try.sizeOf24)⟩, rfl, trivial⟩) ?_
              first
              | exact ⟨_, rfl, Dec.zero (hs.sub (List.nil_sublist _))⟩
              | exact ⟨_, rfl, Aa, ca, ca, rfl, hs.sel [0] (by decide)⟩
              )
        · first
            | (exfalso; simp at hc11 <;> omega)
            | (
              (try simp at hc11)
              have h12 : a + 12 ≤ 8 * l.length := by
                rcases Nat.lt_or_ge (8 * l.length) (a + 12) with hlt | hge
                · have h1 : gsE l a [10, 1, 1] = 5 := gs_bad (l := l) [10, 1, 1] a (by simp) ha (by simp; omega)
                  rw [show gsE l a [10, 1, 1] = 0 from by assumption] at h1
                  cases h1
                · exact hge
              obtain ⟨p1, p2, p3⟩ := gs_ok (l := l) [10, 1, 1] a (by simp) h12
              have p1' : gsE l a [10, 1, 1] = 0 := p1
              have p2' : gsA l a [10, 1, 1] = a + 12 := p2
              obtain ⟨u0, hu0⟩ : ∃ v, v = gv l a 10 := ⟨_, rfl⟩
              obtain ⟨u1, hu1⟩ : ∃ v, v = gv l (a + 10) 1 := ⟨_, rfl⟩
              obtain ⟨u2, hu2⟩ : ∃ v, v = gv l (a + 11) 1 := ⟨_, rfl⟩
              have p3' : gsV l a [10, 1, 1] = [u0, u1, u2] := by rw [hu0, hu1, hu2]; exact p3
              have hpa : partAt l a = (u2 == 1) := by rw [hu2]; rfl
              have eM : moreAt l a = (u1 == 1) := by rw [hu1]; rfl
              rw [← hu0] at b0
              rw [← hu1] at b1
              rw [← hu2] at b2
              rw [if_pos p1', if_pos p1', if_pos p1', p2', p3'] at hs
              obtain ⟨gso, cso, rfl, -, -⟩ := row_form (j := 1) hs rfl (by omega)
              refine Z.skip ?_
              refine Z.nthen ?_
              refine Z.seq ?_
              refine Z.drawK (fun j => j != 10) mixed hs ?_
              clear hs; intro wd13 hs
              refine Z.tb [0] (by kernel_rfl) rfl ⟨_, hs, by first | (simp; done) | exact fun e he => List.mem_append_right _ he⟩ rfl ?_
              refine Z.t 1 rfl rfl rfl (by rfl) (by kernel_rfl) ⟨_, hs, by first | (simp; done) | exact fun e he => List.mem_append_right _ he⟩ (Z.Yd.elem rfl rfl Try.underlying78 Try.sizeOf62 (fun hG => ⟨(by first | omega | (have hG' := Z.gh rfl hG; simp at hG'; omega)), (by first | omega | (have hG' := Z.gh rfl hG; simp at hG'; omega))⟩)) ?_
              refine Z.t 2 rfl rfl rfl (by rfl) (by kernel_rfl) ⟨_, hs, by first | (simp; done) | exact fun e he => List.mem_append_right _ he⟩ (Z.Yd.load rfl Try.isAgg62 (fun _ => Z.cellR (by first | ((repeat (first | exact List.mem_cons_self | refine List.mem_cons_of_mem _ ?_ | refine List.mem_append_right _ ?_)); done) | fail) rfl)) ?_
              refine Z.t 3 rfl rfl rfl (by rfl) (by kernel_rfl) ⟨_, hs, by first | (simp; done) | exact fun e he => List.mem_append_right _ he⟩ (Z.Yd.convI rfl ⟨_, Try.underlying62⟩ Try.underlying3 (fun hG => Z.wi64 (by first | omega | (have hG' := Z.gh rfl hG; simp at hG'; omega)))) ?_
              refine Z.tb [4] (by kernel_rfl) rfl ⟨_, hs, by first | (simp; done) | exact fun e he => List.mem_append_right _ he⟩ rfl ?_
              refine Z.t 5 rfl rfl rfl (by rfl) (by kernel_rfl) ⟨_, hs, by first | (simp; done) | exact fun e he => List.mem_append_right _ he⟩ (Z.Yd.elem rfl rfl Try.underlying78 Try.sizeOf62 (fun hG => ⟨(by first | omega | (have hG' := Z.gh rfl hG; simp at hG'; omega)), (by first | omega | (have hG' := Z.gh rfl hG; simp at hG'; omega))⟩)) ?_
              refine Z.t 6 rfl rfl rfl (by rfl) (by kernel_rfl) ⟨_, hs, by first | (simp; done) | exact fun e he => List.mem_append_right _ he⟩ (Z.Yd.load rfl Try.isAgg62 (fun _ => Z.cellR (by first | ((repeat (first | exact List.mem_cons_self | refine List.mem_cons_of_mem _ ?_ | refine List.mem_append_right _ ?_)); done) | fail) rfl)) ?_
              refine Z.tb [7] (by kernel_rfl) rfl ⟨_, hs, by first | (simp; done) | exact fun e he => List.mem_append_right _ he⟩ rfl ?_
              refine Z.t 8 rfl rfl rfl (by rfl) (by kernel_rfl) ⟨_, hs, by first | (simp; done) | exact fun e he => List.mem_append_right _ he⟩ (Z.Yd.buildL [(0, 1), (1, 1), (2, 1), (3, 1)] [.int .i64 0, .bool false, .int .i64 0, .int .i64 0] rfl rfl (by intro w; kernel_rfl)) ?_
              refine Z.tn 9 rfl rfl (by kernel_rfl) rfl trivial ?_
              refine Z.ZO.alloc rfl rfl (by rfl) Try.zeroValue45 rfl hs ?_
              clear hs; intro g12 w12 hs
              refine Z.tk (Dn := fun j => j != 10) (i := 9) (fun _ => ⟨_, hs, by first | (simp; done) | exact fun e he => List.mem_append_right _ he⟩) ?_
              refine Z.tn 10 rfl rfl (by kernel_rfl) rfl trivial ?_
              first | refine Z.ZO.storeA rfl rfl hs rfl rfl (by kernel_rfl) (by first | (simp [Value.oneCell']; done) | (refine Z.all_one ?_; assumption)) (by first | exact SX.at0 | exact SX.at1 | exact SX.at2 | exact SX.at3 | exact SX.at4 | exact SX.at5 | exact Z.at6 | exact Z.at7 | exact Z.at8 | exact Z.at9 | exact Z.at10 | exact Z.at11 | exact Z.at12) (by rfl) ?_ | refine Z.ZO.storeP rfl rfl hs rfl rfl (by kernel_rfl) (by first | (simp [Value.oneCell']; done) | (refine Z.all_one ?_; assumption)) (by first | exact SX.at0 | exact SX.at1 | exact SX.at2 | exact SX.at3 | exact SX.at4 | exact SX.at5 | exact Z.at6 | exact Z.at7 | exact Z.at8 | exact Z.at9 | exact Z.at10 | exact Z.at11 | exact Z.at12) (by first | decide | (simp; done) | (simp; omega)) ?_ | refine Z.ZO.storePR rfl rfl hs rfl rfl (by kernel_rfl) (by first | (simp [Value.oneCell']; done) | (refine Z.all_one ?_; assumption)) (by first | exact SX.at0 | exact SX.at1 | exact SX.at2 | exact SX.at3 | exact SX.at4 | exact SX.at5 | exact Z.at6 | exact Z.at7 | exact Z.at8 | exact Z.at9 | exact Z.at10 | exact Z.at11 | exact Z.at12) (by first | decide | (simp; done) | (simp; omega)) ?_
              clear hs; intro ws hs
              simp only [Nat.zero_add, Nat.add_zero, Nat.reduceAdd, Int.reduceToNat, Nat.reduceMul, List.set_cons_zero, List.set_cons_succ, List.setIfInBounds_toArray] at hs
              try simp only [Z.putL, Nat.zero_add] at hs
              refine Z.tk (Dn := fun j => j != 10) (i := 10) (fun h => absurd h (by decide)) ?_
              refine Z.td (by rfl) (by kernel_rfl) ?_
              refine Z.only [2, 4, 7, 9, 10, 12] rfl ?_
              refine Z.nthen ?_
              refine Z.seq ?_
              refine Z.seq ?_
              refine Z.region ?_
              refine Z.l rfl rfl (by rfl) (Z.keepS hs) (Z.Yd.fieldA (m := 1) rfl (by kernel_rfl)) ?_
              refine Z.l rfl rfl (by rfl) (Z.keepS hs) (by first | exact Z.Yd.load rfl Try.isAgg4 (fun _ => Z.cellB (by first | ((repeat (first | exact List.mem_cons_self | refine List.mem_cons_of_mem _ ?_ | refine List.mem_append_right _ ?_)); done) | fail) rfl) | exact Z.Yd.load rfl Try.isAgg4 (fun _ => Z.cellO (by assumption) (by simp) (by assumption)) | fail "load 14.1") ?_
              refine Z.lnil ?_
              refine Z.only [2, 4, 7, 9, 10, 12, 65] rfl ?_
              refine Z.nthen ?_
              refine Z.cutt (ι := Nat) [2, 4, 7, 9, 10, 12] rfl (fun _ => []) (fun _ wr => nkE l a = 0 ∧ SX.St w [] wr [SX.Ent.blk g12 45 (nkAt l a).cells.toArray, SX.Ent.blk g9 87 #[.slice B mb d, .int .i64 (nkA l a : Int)], SX.Ent.row (.slice (some ⟨gso, 0, none⟩) 3 cso) 62 1 3 (ints .u64 [u0, u1, u2]), SX.Ent.row (.slice Aa acc.length ca) 45 4 acc.length (acc.flatMap NkV.cells), SX.Ent.blk g7 24 #[.int .i64 v1, .slice Aa acc.length ca], SX.Ent.blk g4 87 #[.slice B mb d, .int .i64 (a : Int)], SX.Ent.row (.slice B mb d) 5 1 mb (ints .u8 (bits (unb l))), SX.Ent.blk g2 24 #[.int .i64 0, .slice none 0 0]]) ?_ ?_
              · skip
                refine Z.cond rfl (fun hc14 => ?_) (fun hc14 => ?_)
                · first
                    | (exfalso; simp at hc14 <;> omega)
                    | (
                      (try simp at hc14)
                      have hu : u2 = 1 := by assumption
                      have hp : partAt l a = true := by rw [hpa, hu]; rfl
                      obtain ⟨u3, hu3⟩ : ∃ v, v = gv l (a + 12) 15 := ⟨_, rfl⟩
                      obtain ⟨u4, hu4⟩ : ∃ v, v = gv l (a + 27) 15 := ⟨_, rfl⟩
                      have eN : (nkAt l a).cells.toArray = #[.int .i64 u0, .bool (u2 == 1), .int .i64 u3, .int .i64 u4] := by unfold nkAt NkV.cells; simp only [hp, if_true]; rw [hu0, hu3, hu4, hu]; rfl
                      have eA : nkA l a = a + 42 := by unfold nkA nkSz nkAt; simp [hp]
                      rw [← hu3] at b3
                      rw [← hu4] at b4
                      refine Z.seq ?_
                      refine Z.region ?_
                      refine Z.l rfl rfl (by rfl) (Z.keepS hs) (by first | exact Z.Yd.loadA _ rfl Try.isAgg87 (fun _ => Z.cellsB (by first | ((repeat (first | exact List.mem_cons_self | refine List.mem_cons_of_mem _ ?_ | refine List.mem_append_right _ ?_)); done) | fail)) (by exact Try.sizeOf87) | fail "load 15.0") ?_
                      refine Z.le rfl trivial ?_
                      refine Z.ZO.litL (T' := 3) [(0, 1), (1, 1)] [.int .i64 0, .int .i64 0] rfl rfl (by rfl) rfl rfl (by intro W; kernel_rfl) hs ?_
                      clear hs; intro g68 w68 hs
                      refine Z.le rfl trivial ?_
                      refine Z.ZO.call rfl rfl (by rfl) rfl rfl Try.call46 rfl (refgetall B mb d l (a + 12) _ _ _ [15, 15] _ (hs.slm (by first | ((repeat (first | exact List.mem_cons_self | refine List.mem_cons_of_mem _ ?_ | refine List.mem_append_right _ ?_)); done) | fail)) (by omega) hmd (by omega) h12 (by have h0 := hs.blkSl (List.mem_cons_self); exact h0) rfl (by decide)) ?_
                      rintro v15_2 w15_2 ⟨so2, rfl, hy⟩
                      replace hs := hs.call hy
                      clear hy
                      try simp only [List.cons_append, List.nil_append, List.append_nil] at hs
                      refine Z.lb 4 rfl ?_
                      refine Z.le rfl trivial ?_
                      refine Z.ZO.alloc rfl rfl (by rfl) Try.zeroValue87 rfl hs ?_
                      clear hs; intro g13 w13 hs
                      refine Z.le rfl trivial ?_
                      first | refine Z.ZO.storeA rfl rfl hs rfl rfl (by kernel_rfl) (by first | (simp [Value.oneCell']; done) | (refine Z.all_one ?_; assumption)) (by first | exact SX.at0 | exact SX.at1 | exact SX.at2 | exact SX.at3 | exact SX.at4 | exact SX.at5 | exact Z.at6 | exact Z.at7 | exact Z.at8 | exact Z.at9 | exact Z.at10 | exact Z.at11 | exact Z.at12) (by rfl) ?_ | refine Z.ZO.storeP rfl rfl hs rfl rfl (by kernel_rfl) (by first | (simp [Value.oneCell']; done) | (refine Z.all_one ?_; assumption)) (by first | exact SX.at0 | exact SX.at1 | exact SX.at2 | exact SX.at3 | exact SX.at4 | exact SX.at5 | exact Z.at6 | exact Z.at7 | exact Z.at8 | exact Z.at9 | exact Z.at10 | exact Z.at11 | exact Z.at12) (by first | decide | (simp; done) | (simp; omega)) ?_ | refine Z.ZO.storePR rfl rfl hs rfl rfl (by kernel_rfl) (by first | (simp [Value.oneCell']; done) | (refine Z.all_one ?_; assumption)) (by first | exact SX.at0 | exact SX.at1 | exact SX.at2 | exact SX.at3 | exact SX.at4 | exact SX.at5 | exact Z.at6 | exact Z.at7 | exact Z.at8 | exact Z.at9 | exact Z.at10 | exact Z.at11 | exact Z.at12) (by first | decide | (simp; done) | (simp; omega)) ?_
                      clear hs; intro ws hs
                      simp only [Nat.zero_add, Nat.add_zero, Nat.reduceAdd, Int.reduceToNat, Nat.reduceMul, List.set_cons_zero, List.set_cons_succ, List.setIfInBounds_toArray] at hs
                      try simp only [Z.putL, Nat.zero_add] at hs
                      refine Z.lb 2 rfl ?_
                      refine Z.lnil ?_
                      refine Z.only [2, 4, 7, 9, 10, 12, 13, 14, 15] rfl ?_
                      refine Z.nthen ?_
                      refine Z.seq ?_
                      refine Z.seq ?_
                      refine Z.region ?_
                      refine Z.lb 2 rfl ?_
                      refine Z.lnil ?_
                      refine Z.only [2, 4, 7, 9, 10, 12, 13, 14, 74] rfl ?_
                      refine Z.nthen ?_
                      refine Z.cond rfl (fun hc16 => ?_) (fun hc16 => ?_)
                      · first
                          | (exfalso; simp at hc16 <;> omega)
                          | (
                            (try simp at hc16)
                            have hE : nkE l a ≠ 0 := by
                              intro hE
                              have h42 : a + 42 ≤ 8 * l.length := by unfold nkE at hE; rw [if_pos h12, if_pos hp] at hE; split at hE <;> omega
                              exact absurd (show gsE l (a + 12) [15, 15] = 0 from (gs_ok (l := l) [15, 15] (a + 12) (by simp) (by simp; omega)).1) (by assumption)
                            rw [if_pos hE] at hgo
                            subst hgo
                            refine Z.seq ?_
                            refine Z.region ?_
                            refine Z.l rfl rfl (by rfl) (Z.keepS hs) (Z.Yd.buildL [(0, 1), (1, 1)] [.int .i64 0, .slice none 0 0] rfl rfl (by intro w; kernel_rfl)) ?_
                            refine Z.le rfl trivial ?_
                            first | refine Z.ZO.storeA rfl rfl hs rfl rfl (by kernel_rfl) (by first | (simp [Value.oneCell']; done) | (refine Z.all_one ?_; assumption)) (by first | exact SX.at0 | exact SX.at1 | exact SX.at2 | exact SX.at3 | exact SX.at4 | exact SX.at5 | exact Z.at6 | exact Z.at7 | exact Z.at8 | exact Z.at9 | exact Z.at10 | exact Z.at11 | exact Z.at12) (by rfl) ?_ | refine Z.ZO.storeP rfl rfl hs rfl rfl (by kernel_rfl) (by first | (simp [Value.oneCell']; done) | (refine Z.all_one ?_; assumption)) (by first | exact SX.at0 | exact SX.at1 | exact SX.at2 | exact SX.at3 | exact SX.at4 | exact SX.at5 | exact Z.at6 | exact Z.at7 | exact Z.at8 | exact Z.at9 | exact Z.at10 | exact Z.at11 | exact Z.at12) (by first | decide | (simp; done) | (simp; omega)) ?_ | refine Z.ZO.storePR rfl rfl hs rfl rfl (by kernel_rfl) (by first | (simp [Value.oneCell']; done) | (refine Z.all_one ?_; assumption)) (by first | exact SX.at0 | exact SX.at1 | exact SX.at2 | exact SX.at3 | exact SX.at4 | exact SX.at5 | exact Z.at6 | exact Z.at7 | exact Z.at8 | exact Z.at9 | exact Z.at10 | exact Z.at11 | exact Z.at12) (by first | decide | (simp; done) | (simp; omega)) ?_
                            clear hs; intro ws hs
                            simp only [Nat.zero_add, Nat.add_zero, Nat.reduceAdd, Int.reduceToNat, Nat.reduceMul, List.set_cons_zero, List.set_cons_succ, List.setIfInBounds_toArray] at hs
                            try simp only [Z.putL, Nat.zero_add] at hs
                            refine Z.lb 1 rfl ?_
                            refine Z.lnil ?_
                            refine Z.only [2, 3] rfl ?_
                            refine Z.nthen ?_
                            refine Z.ret ?_
                            repeat (first | refine Z.rthen ?_ | refine Z.rblock ?_ | refine Z.rscope ?_)
                            -- ret#1
                            refine Z.out2 (by exact ⟨⟨_, rfl, Z.rvcA hs Try.isAgg24 (by first | ((repeat (first | exact List.mem_cons_self | refine List.mem_cons_of_mem _ ?_ | refine List.mem_append_right _ ?_)); done) | fail) (by exact Try.sizeOf24)⟩, rfl, trivial⟩) ?_
                            first
                            | exact ⟨_, rfl, Dec.zero (hs.sub (List.nil_sublist _))⟩
                            | exact ⟨_, rfl, Aa, ca, ca, rfl, hs.sel [0] (by decide)⟩
                            )
                      · first
                          | (exfalso; simp at hc16 <;> omega)
                          | (
                            (try simp at hc16)
                            have h42 : a + 42 ≤ 8 * l.length := by
                              rcases Nat.lt_or_ge (8 * l.length) (a + 42) with hlt | hge
                              · have h1 : gsE l (a + 12) [15, 15] = 5 := gs_bad (l := l) [15, 15] (a + 12) (by simp) h12 (by simp; omega)
                                rw [show gsE l (a + 12) [15, 15] = 0 from by assumption] at h1
                                cases h1
                              · exact hge
                            have hE : nkE l a = 0 := by unfold nkE; rw [if_pos h12, if_pos hp, if_pos h42]
                            obtain ⟨r1, r2, r3⟩ := gs_ok (l := l) [15, 15] (a + 12) (by simp) (by simp; omega)
                            have r1' : gsE l (a + 12) [15, 15] = 0 := r1
                            have r2' : gsA l (a + 12) [15, 15] = a + 42 := r2
                            have r3' : gsV l (a + 12) [15, 15] = [u3, u4] := by rw [hu3, hu4]; exact r3
                            rw [if_pos r1', if_pos r1', if_pos r1', r2', r3'] at hs
                            obtain ⟨gst, cst, rfl, -, -⟩ := row_form (j := 1) hs rfl (by omega)
                            refine Z.skip ?_
                            refine Z.nthen ?_
                            refine Z.seq ?_
                            refine Z.region ?_
                            refine Z.l rfl rfl (by rfl) (Z.keepS hs) (by first | exact Z.Yd.loadA _ rfl Try.isAgg87 (fun _ => Z.cellsB (by first | ((repeat (first | exact List.mem_cons_self | refine List.mem_cons_of_mem _ ?_ | refine List.mem_append_right _ ?_)); done) | fail)) (by exact Try.sizeOf87) | fail "load 18.0") ?_
                            refine Z.le rfl trivial ?_
                            first | refine Z.ZO.storeA rfl rfl hs rfl rfl (by kernel_rfl) (by first | (simp [Value.oneCell']; done) | (refine Z.all_one ?_; assumption)) (by first | exact SX.at0 | exact SX.at1 | exact SX.at2 | exact SX.at3 | exact SX.at4 | exact SX.at5 | exact Z.at6 | exact Z.at7 | exact Z.at8 | exact Z.at9 | exact Z.at10 | exact Z.at11 | exact Z.at12) (by rfl) ?_ | refine Z.ZO.storeP rfl rfl hs rfl rfl (by kernel_rfl) (by first | (simp [Value.oneCell']; done) | (refine Z.all_one ?_; assumption)) (by first | exact SX.at0 | exact SX.at1 | exact SX.at2 | exact SX.at3 | exact SX.at4 | exact SX.at5 | exact Z.at6 | exact Z.at7 | exact Z.at8 | exact Z.at9 | exact Z.at10 | exact Z.at11 | exact Z.at12) (by first | decide | (simp; done) | (simp; omega)) ?_ | refine Z.ZO.storePR rfl rfl hs rfl rfl (by kernel_rfl) (by first | (simp [Value.oneCell']; done) | (refine Z.all_one ?_; assumption)) (by first | exact SX.at0 | exact SX.at1 | exact SX.at2 | exact SX.at3 | exact SX.at4 | exact SX.at5 | exact Z.at6 | exact Z.at7 | exact Z.at8 | exact Z.at9 | exact Z.at10 | exact Z.at11 | exact Z.at12) (by first | decide | (simp; done) | (simp; omega)) ?_
                            clear hs; intro ws hs
                            simp only [Nat.zero_add, Nat.add_zero, Nat.reduceAdd, Int.reduceToNat, Nat.reduceMul, List.set_cons_zero, List.set_cons_succ, List.setIfInBounds_toArray] at hs
                            try simp only [Z.putL, Nat.zero_add] at hs
                            refine Z.lnil ?_
                            refine Z.only [2, 4, 7, 9, 10, 12, 14] rfl ?_
                            refine Z.nthen ?_
                            refine Z.drawL [SX.Ent.row (.slice (some ⟨gst, 0, none⟩) 2 cst) 62 1 2 (ints .u64 [u3, u4])] (fun j => j != 11) mixed hs ?_
                            clear hs; intro wd19 hs
                            refine Z.tb [0] (by kernel_rfl) rfl ⟨_, hs, by first | (simp; done) | exact fun e he => List.mem_append_right _ he⟩ rfl ?_
                            refine Z.t 1 rfl rfl rfl (by rfl) (by kernel_rfl) ⟨_, hs, by first | (simp; done) | exact fun e he => List.mem_append_right _ he⟩ (Z.Yd.elem rfl rfl Try.underlying78 Try.sizeOf62 (fun hG => ⟨(by first | omega | (have hG' := Z.gh rfl hG; simp at hG'; omega)), (by first | omega | (have hG' := Z.gh rfl hG; simp at hG'; omega))⟩)) ?_
                            refine Z.t 2 rfl rfl rfl (by rfl) (by kernel_rfl) ⟨_, hs, by first | (simp; done) | exact fun e he => List.mem_append_right _ he⟩ (Z.Yd.load rfl Try.isAgg62 (fun _ => Z.cellR (by first | ((repeat (first | exact List.mem_cons_self | refine List.mem_cons_of_mem _ ?_ | refine List.mem_append_right _ ?_)); done) | fail) rfl)) ?_
                            refine Z.t 3 rfl rfl rfl (by rfl) (by kernel_rfl) ⟨_, hs, by first | (simp; done) | exact fun e he => List.mem_append_right _ he⟩ (Z.Yd.convI rfl ⟨_, Try.underlying62⟩ Try.underlying3 (fun hG => Z.wi64 (by first | omega | (have hG' := Z.gh rfl hG; simp at hG'; omega)))) ?_
                            refine Z.tb [4] (by kernel_rfl) rfl ⟨_, hs, by first | (simp; done) | exact fun e he => List.mem_append_right _ he⟩ rfl ?_
                            refine Z.t 5 rfl rfl rfl (by rfl) (by kernel_rfl) ⟨_, hs, by first | (simp; done) | exact fun e he => List.mem_append_right _ he⟩ (Z.Yd.elem rfl rfl Try.underlying78 Try.sizeOf62 (fun hG => ⟨(by first | omega | (have hG' := Z.gh rfl hG; simp at hG'; omega)), (by first | omega | (have hG' := Z.gh rfl hG; simp at hG'; omega))⟩)) ?_
                            refine Z.t 6 rfl rfl rfl (by rfl) (by kernel_rfl) ⟨_, hs, by first | (simp; done) | exact fun e he => List.mem_append_right _ he⟩ (Z.Yd.load rfl Try.isAgg62 (fun _ => Z.cellR (by first | ((repeat (first | exact List.mem_cons_self | refine List.mem_cons_of_mem _ ?_ | refine List.mem_append_right _ ?_)); done) | fail) rfl)) ?_
                            refine Z.t 7 rfl rfl rfl (by rfl) (by kernel_rfl) ⟨_, hs, by first | (simp; done) | exact fun e he => List.mem_append_right _ he⟩ (Z.Yd.convI rfl ⟨_, Try.underlying62⟩ Try.underlying3 (fun hG => Z.wi64 (by first | omega | (have hG' := Z.gh rfl hG; simp at hG'; omega)))) ?_
                            refine Z.t 8 rfl rfl rfl (by rfl) (by kernel_rfl) ⟨_, hs, by first | (simp; done) | exact fun e he => List.mem_append_right _ he⟩ (Z.Yd.fieldA (m := 2) rfl (by kernel_rfl)) ?_
                            refine Z.tn 9 rfl rfl (by kernel_rfl) rfl trivial ?_
                            first | refine Z.ZO.store rfl rfl hs Try.sizeOf3 rfl rfl rfl (by first | exact SX.at0 | exact SX.at1 | exact SX.at2 | exact SX.at3 | exact SX.at4 | exact SX.at5 | exact Z.at6 | exact Z.at7 | exact Z.at8 | exact Z.at9 | exact Z.at10 | exact Z.at11 | exact Z.at12) (by first | (simp; done) | (simp; omega)) ?_ | refine Z.ZO.storeR rfl rfl hs Try.sizeOf3 rfl rfl rfl (by first | exact SX.at0 | exact SX.at1 | exact SX.at2 | exact SX.at3 | exact SX.at4 | exact SX.at5 | exact Z.at6 | exact Z.at7 | exact Z.at8 | exact Z.at9 | exact Z.at10 | exact Z.at11 | exact Z.at12) (by first | omega | (simp [ints_length]; done) | (simp [ints_length]; omega)) ?_
                            clear hs; intro ws hs
                            simp only [Nat.zero_add, Nat.add_zero, Nat.reduceAdd, Int.reduceToNat, Nat.reduceMul, List.set_cons_zero, List.set_cons_succ, List.setIfInBounds_toArray] at hs
                            refine Z.tk (Dn := fun j => j != 11) (i := 9) (fun _ => ⟨_, hs, by first | (simp; done) | exact fun e he => List.mem_append_right _ he⟩) ?_
                            refine Z.t 10 rfl rfl rfl (by rfl) (by kernel_rfl) ⟨_, hs, by first | (simp; done) | exact fun e he => List.mem_append_right _ he⟩ (Z.Yd.fieldA (m := 3) rfl (by kernel_rfl)) ?_
                            refine Z.tn 11 rfl rfl (by kernel_rfl) rfl trivial ?_
                            first | refine Z.ZO.store rfl rfl hs Try.sizeOf3 rfl rfl rfl (by first | exact SX.at0 | exact SX.at1 | exact SX.at2 | exact SX.at3 | exact SX.at4 | exact SX.at5 | exact Z.at6 | exact Z.at7 | exact Z.at8 | exact Z.at9 | exact Z.at10 | exact Z.at11 | exact Z.at12) (by first | (simp; done) | (simp; omega)) ?_ | refine Z.ZO.storeR rfl rfl hs Try.sizeOf3 rfl rfl rfl (by first | exact SX.at0 | exact SX.at1 | exact SX.at2 | exact SX.at3 | exact SX.at4 | exact SX.at5 | exact Z.at6 | exact Z.at7 | exact Z.at8 | exact Z.at9 | exact Z.at10 | exact Z.at11 | exact Z.at12) (by first | omega | (simp [ints_length]; done) | (simp [ints_length]; omega)) ?_
                            clear hs; intro ws hs
                            simp only [Nat.zero_add, Nat.add_zero, Nat.reduceAdd, Int.reduceToNat, Nat.reduceMul, List.set_cons_zero, List.set_cons_succ, List.setIfInBounds_toArray] at hs
                            refine Z.tk (Dn := fun j => j != 11) (i := 11) (fun h => absurd h (by decide)) ?_
                            refine Z.td (by rfl) (by kernel_rfl) ?_
                            refine Z.only [2, 4, 7, 9, 10, 12] rfl ?_
                            refine Z.nthen ?_
                            first | exact Z.meet 0 (by refine ⟨?_, ?_, ?_, ?_, ?_, ?_, trivial⟩ <;> (first | rfl | (refine Z.lookv rfl ?_; simp; done) | (refine Z.lookv rfl ?_; simp; omega))) ⟨hE, by rw [eN, eA]; exact hs.sel [3, 4, 5, 7, 8, 9, 10, 11] (by decide)⟩ | exact Z.meet 0 (by refine ⟨?_, ?_, ?_, ?_, ?_, ?_, trivial⟩ <;> (first | rfl | (refine Z.lookv rfl ?_; simp; done) | (refine Z.lookv rfl ?_; simp; omega))) ⟨hE, by rw [eN, eA]; exact hs.sel [0, 1, 2, 4, 5, 6, 7, 8] (by decide)⟩
                            )
                      )
                · first
                    | (exfalso; simp at hc14 <;> omega)
                    | (
                      (try simp at hc14)
                      have hp : partAt l a = false := by rw [hpa]; simpa using (by assumption : ¬ u2 = 1)
                      have eN : (nkAt l a).cells.toArray = #[.int .i64 u0, .bool (u2 == 1), .int .i64 0, .int .i64 0] := by unfold nkAt NkV.cells; simp only [hp]; rw [hu0, ← hpa, hp]; rfl
                      have eA : nkA l a = a + 12 := by unfold nkA nkSz nkAt; simp [hp]
                      have hE : nkE l a = 0 := by unfold nkE; rw [if_pos h12, if_neg (by simp [hp])]
                      refine Z.skip ?_
                      refine Z.nthen ?_
                      first | exact Z.meet 0 (by refine ⟨?_, ?_, ?_, ?_, ?_, ?_, trivial⟩ <;> (first | rfl | (refine Z.lookv rfl ?_; simp; done) | (refine Z.lookv rfl ?_; simp; omega))) ⟨hE, by rw [eN, eA]; exact hs.sel [3, 4, 5, 7, 8, 9, 10, 11] (by decide)⟩ | exact Z.meet 0 (by refine ⟨?_, ?_, ?_, ?_, ?_, ?_, trivial⟩ <;> (first | rfl | (refine Z.lookv rfl ?_; simp; done) | (refine Z.lookv rfl ?_; simp; omega))) ⟨hE, by rw [eN, eA]; exact hs.sel [0, 1, 2, 4, 5, 6, 7, 8] (by decide)⟩
                      )
              · clear hs
                rintro _ w14 ⟨hE, hs⟩
                refine Z.only [2, 4, 7, 9, 10, 12] rfl ?_
                have hA := nkA_ok hE
                have hone := nk_one (nkAt l a)
                rw [if_neg (by simpa using hE)] at hgo
                refine Z.seq ?_
                refine Z.region ?_
                refine Z.l rfl rfl (by rfl) (Z.keepS hs) (by first | exact Z.Yd.loadA _ rfl Try.isAgg87 (fun _ => Z.cellsB (by first | ((repeat (first | exact List.mem_cons_self | refine List.mem_cons_of_mem _ ?_ | refine List.mem_append_right _ ?_)); done) | fail)) (by exact Try.sizeOf87) | fail "load 20.0") ?_
                refine Z.le rfl trivial ?_
                first | refine Z.ZO.storeA rfl rfl hs rfl rfl (by kernel_rfl) (by first | (simp [Value.oneCell']; done) | (refine Z.all_one ?_; assumption)) (by first | exact SX.at0 | exact SX.at1 | exact SX.at2 | exact SX.at3 | exact SX.at4 | exact SX.at5 | exact Z.at6 | exact Z.at7 | exact Z.at8 | exact Z.at9 | exact Z.at10 | exact Z.at11 | exact Z.at12) (by rfl) ?_ | refine Z.ZO.storeP rfl rfl hs rfl rfl (by kernel_rfl) (by first | (simp [Value.oneCell']; done) | (refine Z.all_one ?_; assumption)) (by first | exact SX.at0 | exact SX.at1 | exact SX.at2 | exact SX.at3 | exact SX.at4 | exact SX.at5 | exact Z.at6 | exact Z.at7 | exact Z.at8 | exact Z.at9 | exact Z.at10 | exact Z.at11 | exact Z.at12) (by first | decide | (simp; done) | (simp; omega)) ?_ | refine Z.ZO.storePR rfl rfl hs rfl rfl (by kernel_rfl) (by first | (simp [Value.oneCell']; done) | (refine Z.all_one ?_; assumption)) (by first | exact SX.at0 | exact SX.at1 | exact SX.at2 | exact SX.at3 | exact SX.at4 | exact SX.at5 | exact Z.at6 | exact Z.at7 | exact Z.at8 | exact Z.at9 | exact Z.at10 | exact Z.at11 | exact Z.at12) (by first | decide | (simp; done) | (simp; omega)) ?_
                clear hs; intro ws hs
                simp only [Nat.zero_add, Nat.add_zero, Nat.reduceAdd, Int.reduceToNat, Nat.reduceMul, List.set_cons_zero, List.set_cons_succ, List.setIfInBounds_toArray] at hs
                try simp only [Z.putL, Nat.zero_add] at hs
                refine Z.lnil ?_
                refine Z.only [2, 4, 7, 10, 12] rfl ?_
                refine Z.nthen ?_
                refine Z.seq ?_
                refine Z.region ?_
                refine Z.lb 1 rfl ?_
                refine Z.l rfl rfl (by rfl) (Z.keepS hs) (Z.Yd.elem rfl rfl Try.underlying78 Try.sizeOf62 (fun hG => ⟨(by first | omega | (have hG' := Z.gh rfl hG; simp at hG'; omega)), (by first | omega | (have hG' := Z.gh rfl hG; simp at hG'; omega))⟩)) ?_
                refine Z.l rfl rfl (by rfl) (Z.keepS hs) (Z.Yd.load rfl Try.isAgg62 (fun _ => Z.cellR (by first | ((repeat (first | exact List.mem_cons_self | refine List.mem_cons_of_mem _ ?_ | refine List.mem_append_right _ ?_)); done) | fail) rfl)) ?_
                refine Z.lb 2 rfl ?_
                refine Z.lnil ?_
                refine Z.only [2, 4, 7, 8, 12] rfl ?_
                refine Z.nthen ?_
                refine Z.seq ?_
                refine Z.region ?_
                refine Z.l rfl rfl (by rfl) (Z.keepS hs) (Z.Yd.fieldA (m := 1) rfl (by kernel_rfl)) ?_
                refine Z.l rfl rfl (by rfl) (Z.keepS hs) (by first | exact Z.Yd.load rfl Try.isAgg22 (fun _ => Z.cellB (by first | ((repeat (first | exact List.mem_cons_self | refine List.mem_cons_of_mem _ ?_ | refine List.mem_append_right _ ?_)); done) | fail) rfl) | exact Z.Yd.load rfl Try.isAgg22 (fun _ => Z.cellO (by assumption) (by simp) (by assumption)) | fail "load 22.1") ?_
                refine Z.l rfl rfl (by rfl) (Z.keepS hs) (Z.Yd.loadA _ rfl Try.isAgg45 (fun _ => Z.cellsB (cs := (nkAt l a).cells) (by first | ((repeat (first | exact List.mem_cons_self | refine List.mem_cons_of_mem _ ?_ | refine List.mem_append_right _ ?_)); done) | fail)) (by exact Try.sizeOf45)) ?_
                refine Z.le rfl trivial ?_
                refine Z.ZO.litL (T' := 45) [(0, 4)] [.int .i64 0, .bool false, .int .i64 0, .int .i64 0] rfl rfl (by rfl) rfl rfl (by intro W; kernel_rfl) hs ?_
                clear hs; intro g95 w95 hs
                refine Z.le rfl trivial ?_
                refine Z.ZO.append (i0 := Try.t45) (size := 4) (bytes := 32) rfl rfl (by rfl) hs Try.underlying22 (by kernel_rfl) rfl rfl rfl rfl (by decide) rfl rfl (by first | exact SX.at0 | exact SX.at1 | exact SX.at2 | exact SX.at3 | exact SX.at4 | exact SX.at5 | exact Z.at6 | exact Z.at7 | exact Z.at8 | exact Z.at9 | exact Z.at10 | exact Z.at11 | exact Z.at12) (by first | exact SX.at0 | exact SX.at1 | exact SX.at2 | exact SX.at3 | exact SX.at4 | exact SX.at5 | exact Z.at6 | exact Z.at7 | exact Z.at8 | exact Z.at9 | exact Z.at10 | exact Z.at11 | exact Z.at12) (by first | rfl | simp) (by simp [Value.oneCell']) (by decide) (by unfold maxLen; omega) (by omega) ?_
                clear hs; intro g96 cap96 w96 hs
                simp only [List.set_cons_zero, List.set_cons_succ, List.eraseIdx_cons_zero, List.eraseIdx_cons_succ] at hs
                refine Z.l rfl rfl (by rfl) (Z.keepS hs) (Z.Yd.fieldA (m := 1) rfl (by kernel_rfl)) ?_
                refine Z.le rfl trivial ?_
                first | refine Z.ZO.store rfl rfl hs Try.sizeOf22 rfl rfl rfl (by first | exact SX.at0 | exact SX.at1 | exact SX.at2 | exact SX.at3 | exact SX.at4 | exact SX.at5 | exact Z.at6 | exact Z.at7 | exact Z.at8 | exact Z.at9 | exact Z.at10 | exact Z.at11 | exact Z.at12) (by first | (simp; done) | (simp; omega)) ?_ | refine Z.ZO.storeR rfl rfl hs Try.sizeOf22 rfl rfl rfl (by first | exact SX.at0 | exact SX.at1 | exact SX.at2 | exact SX.at3 | exact SX.at4 | exact SX.at5 | exact Z.at6 | exact Z.at7 | exact Z.at8 | exact Z.at9 | exact Z.at10 | exact Z.at11 | exact Z.at12) (by first | omega | (simp [ints_length]; done) | (simp [ints_length]; omega)) ?_
                clear hs; intro ws hs
                simp only [Nat.zero_add, Nat.add_zero, Nat.reduceAdd, Int.reduceToNat, Nat.reduceMul, List.set_cons_zero, List.set_cons_succ, List.setIfInBounds_toArray] at hs
                refine Z.lnil ?_
                refine Z.only [2, 4, 7, 8, 12] rfl ?_
                have el : (acc ++ [nkAt l a]).length = acc.length + 1 := by simp
                have ef : (acc ++ [nkAt l a]).flatMap NkV.cells = acc.flatMap NkV.cells ++ (nkAt l a).cells := by simp
                replace hs := rowEq (hs.sel [3, 4, 5, 6, 7, 0] (by decide)) el.symm ef.symm
                have hsx0 : (nkAt l a).sn = u0 := by rw [hu0]; rfl
                have hsx : 0 ≤ (nkAt l a).sn ∧ (nkAt l a).sn ≤ 1023 := by omega
                refine Z.nthen ?_
                refine Z.seq ?_
                refine Z.region ?_
                refine Z.l rfl rfl (by rfl) (Z.keepS hs) (Z.Yd.fieldA (m := 1) rfl (by kernel_rfl)) ?_
                refine Z.l rfl rfl (by rfl) (Z.keepS hs) (by first | exact Z.Yd.load rfl Try.isAgg22 (fun _ => Z.cellB (by first | ((repeat (first | exact List.mem_cons_self | refine List.mem_cons_of_mem _ ?_ | refine List.mem_append_right _ ?_)); done) | fail) rfl) | exact Z.Yd.load rfl Try.isAgg22 (fun _ => Z.cellO (by assumption) (by simp) (by assumption)) | fail "load 23.1") ?_
                refine Z.l rfl rfl (by rfl) (Z.keepS hs) (Z.Yd.lenS rfl Try.underlying22) ?_
                refine Z.lb 1 rfl ?_
                refine Z.lnil ?_
                refine Z.only [2, 4, 7, 8, 12, 16] rfl ?_
                refine Z.nthen ?_
                refine Z.seq ?_
                refine Z.drawK (fun _ => true) mixed hs ?_
                clear hs; intro wd24 hs
                refine Z.tb [0, 1, 2] (by kernel_rfl) rfl ⟨_, hs, by first | (simp; done) | exact fun e he => List.mem_append_right _ he⟩ rfl ?_
                refine Z.split (s := 103) rfl (fun hsp103 => ?_) (fun hsp103 => ?_)
                · first
                    | (exfalso; simp at hsp103 <;> omega)
                    | (
                      refine Z.yes (s := 103) (b := true) rfl hsp103 rfl ?_
                      (try simp at hsp103)
                      refine Z.t 3 rfl rfl rfl (by rfl) (by kernel_rfl) ⟨_, hs, by first | (simp; done) | exact fun e he => List.mem_append_right _ he⟩ (Z.Yd.off (v := undef) 103 false rfl (by first | (simp; done) | (simp_all; done)) (by intro c h; cases h)) ?_
                      refine Z.t 4 rfl rfl rfl (by rfl) (by kernel_rfl) ⟨_, hs, by first | (simp; done) | exact fun e he => List.mem_append_right _ he⟩ (Z.Yd.off (v := undef) 103 false rfl (by first | (simp; done) | (simp_all; done)) (by intro c h; cases h)) ?_
                      refine Z.t 5 rfl rfl rfl (by rfl) (by kernel_rfl) ⟨_, hs, by first | (simp; done) | exact fun e he => List.mem_append_right _ he⟩ (Z.Yd.off (v := undef) 103 false rfl (by first | (simp; done) | (simp_all; done)) (by intro c h; cases h)) ?_
                      refine Z.yes (s := 103) (b := true) rfl rfl rfl ?_
                      refine Z.tnS 103 false 6 rfl rfl (by kernel_rfl) rfl rfl (by simp) rfl (by rfl) (fun _ => ⟨_, hs, by first | (simp; done) | exact fun e he => List.mem_append_right _ he⟩) ?_
                      refine Z.t 7 rfl rfl rfl (by rfl) (by kernel_rfl) ⟨_, hs, by first | (simp; done) | exact fun e he => List.mem_append_right _ he⟩ (Z.Yd.off (v := undef) 103 false rfl (by first | (simp; done) | (simp_all; done)) (by intro c h; cases h)) ?_
                      refine Z.yes (s := 103) (b := true) rfl rfl rfl ?_
                      refine Z.t 8 rfl rfl rfl (by rfl) (by kernel_rfl) ⟨_, hs, by first | (simp; done) | exact fun e he => List.mem_append_right _ he⟩ (Z.Yd.pickT rfl rfl) ?_
                      refine Z.tb [9] (by kernel_rfl) rfl ⟨_, hs, by first | (simp; done) | exact fun e he => List.mem_append_right _ he⟩ rfl ?_
                      refine Z.split (s := 110) rfl (fun hsp110 => ?_) (fun hsp110 => ?_)
                      · first
                          | (exfalso; simp at hsp110 <;> omega)
                          | (
                            refine Z.yes (s := 110) (b := true) rfl hsp110 rfl ?_
                            (try simp at hsp110)
                            refine Z.yes (s := 103) (b := true) rfl rfl rfl ?_
                            refine Z.t 10 rfl rfl rfl (by rfl) (by kernel_rfl) ⟨_, hs, by first | (simp; done) | exact fun e he => List.mem_append_right _ he⟩ (Z.Yd.off (v := undef) 110 false rfl (by first | (simp; done) | (simp_all; done)) (by intro c h; cases h)) ?_
                            refine Z.t 11 rfl rfl rfl (by rfl) (by kernel_rfl) ⟨_, hs, by first | (simp; done) | exact fun e he => List.mem_append_right _ he⟩ (Z.Yd.off (v := undef) 110 false rfl (by first | (simp; done) | (simp_all; done)) (by intro c h; cases h)) ?_
                            refine Z.t 12 rfl rfl rfl (by rfl) (by kernel_rfl) ⟨_, hs, by first | (simp; done) | exact fun e he => List.mem_append_right _ he⟩ (Z.Yd.off (v := undef) 110 false rfl (by first | (simp; done) | (simp_all; done)) (by intro c h; cases h)) ?_
                            refine Z.t 13 rfl rfl rfl (by rfl) (by kernel_rfl) ⟨_, hs, by first | (simp; done) | exact fun e he => List.mem_append_right _ he⟩ (Z.Yd.off (v := undef) 110 false rfl (by first | (simp; done) | (simp_all; done)) (by intro c h; cases h)) ?_
                            refine Z.t 14 rfl rfl rfl (by rfl) (by kernel_rfl) ⟨_, hs, by first | (simp; done) | exact fun e he => List.mem_append_right _ he⟩ (Z.Yd.off (v := undef) 110 false rfl (by first | (simp; done) | (simp_all; done)) (by intro c h; cases h)) ?_
                            refine Z.t 15 rfl rfl rfl (by rfl) (by kernel_rfl) ⟨_, hs, by first | (simp; done) | exact fun e he => List.mem_append_right _ he⟩ (Z.Yd.off (v := undef) 110 false rfl (by first | (simp; done) | (simp_all; done)) (by intro c h; cases h)) ?_
                            refine Z.t 16 rfl rfl rfl (by rfl) (by kernel_rfl) ⟨_, hs, by first | (simp; done) | exact fun e he => List.mem_append_right _ he⟩ (Z.Yd.off (v := undef) 110 false rfl (by first | (simp; done) | (simp_all; done)) (by intro c h; cases h)) ?_
                            refine Z.t 17 rfl rfl rfl (by rfl) (by kernel_rfl) ⟨_, hs, by first | (simp; done) | exact fun e he => List.mem_append_right _ he⟩ (Z.Yd.off (v := undef) 110 false rfl (by first | (simp; done) | (simp_all; done)) (by intro c h; cases h)) ?_
                            refine Z.t 18 rfl rfl rfl (by rfl) (by kernel_rfl) ⟨_, hs, by first | (simp; done) | exact fun e he => List.mem_append_right _ he⟩ (Z.Yd.off (v := undef) 110 false rfl (by first | (simp; done) | (simp_all; done)) (by intro c h; cases h)) ?_
                            refine Z.t 19 rfl rfl rfl (by rfl) (by kernel_rfl) ⟨_, hs, by first | (simp; done) | exact fun e he => List.mem_append_right _ he⟩ (Z.Yd.off (v := undef) 110 false rfl (by first | (simp; done) | (simp_all; done)) (by intro c h; cases h)) ?_
                            refine Z.t 20 rfl rfl rfl (by rfl) (by kernel_rfl) ⟨_, hs, by first | (simp; done) | exact fun e he => List.mem_append_right _ he⟩ (Z.Yd.off (v := undef) 110 false rfl (by first | (simp; done) | (simp_all; done)) (by intro c h; cases h)) ?_
                            refine Z.t 21 rfl rfl rfl (by rfl) (by kernel_rfl) ⟨_, hs, by first | (simp; done) | exact fun e he => List.mem_append_right _ he⟩ (Z.Yd.off (v := undef) 110 false rfl (by first | (simp; done) | (simp_all; done)) (by intro c h; cases h)) ?_
                            refine Z.yes (s := 103) (b := true) rfl rfl rfl ?_
                            refine Z.yes (s := 110) (b := true) rfl rfl rfl ?_
                            refine Z.tnS 110 false 22 rfl rfl (by kernel_rfl) rfl rfl (by simp) rfl (by rfl) (fun _ => ⟨_, hs, by first | (simp; done) | exact fun e he => List.mem_append_right _ he⟩) ?_
                            refine Z.t 23 rfl rfl rfl (by rfl) (by kernel_rfl) ⟨_, hs, by first | (simp; done) | exact fun e he => List.mem_append_right _ he⟩ (Z.Yd.off (v := undef) 110 false rfl (by first | (simp; done) | (simp_all; done)) (by intro c h; cases h)) ?_
                            refine Z.t 24 rfl rfl rfl (by rfl) (by kernel_rfl) ⟨_, hs, by first | (simp; done) | exact fun e he => List.mem_append_right _ he⟩ (Z.Yd.off (v := undef) 110 false rfl (by first | (simp; done) | (simp_all; done)) (by intro c h; cases h)) ?_
                            refine Z.yes (s := 103) (b := true) rfl rfl rfl ?_
                            refine Z.yes (s := 110) (b := true) rfl rfl rfl ?_
                            refine Z.t 25 rfl rfl rfl (by rfl) (by kernel_rfl) ⟨_, hs, by first | (simp; done) | exact fun e he => List.mem_append_right _ he⟩ (Z.Yd.pickT rfl rfl) ?_
                            refine Z.td (by rfl) (by kernel_rfl) ?_
                            refine Z.only [2, 4, 7, 8, 126] rfl ?_
                            refine Z.nthen ?_
                            refine Z.cond rfl (fun hc24 => ?_) (fun hc24 => ?_)
                            · first
                                | (exfalso; simp at hc24 <;> omega)
                                | (
                                  (try simp at hc24)
                                  have hok : okNext v1 acc (nkAt l a) = false := by
                                    first
                                    | exact okF1 (by omega)
                                    | exact okF2 (by first | assumption | simpa using hsp110 | simpa using hc24)
                                    | exact okF3 hne hp (by first | assumption | simpa using hc24)
                                  rw [if_neg (by rw [hok]; decide)] at hgo
                                  subst hgo
                                  refine Z.seq ?_
                                  refine Z.region ?_
                                  refine Z.l rfl rfl (by rfl) (Z.keepS hs) (Z.Yd.buildL [(0, 1), (1, 1)] [.int .i64 0, .slice none 0 0] rfl rfl (by intro w; kernel_rfl)) ?_
                                  refine Z.le rfl trivial ?_
                                  first | refine Z.ZO.storeA rfl rfl hs rfl rfl (by kernel_rfl) (by first | (simp [Value.oneCell']; done) | (refine Z.all_one ?_; assumption)) (by first | exact SX.at0 | exact SX.at1 | exact SX.at2 | exact SX.at3 | exact SX.at4 | exact SX.at5 | exact Z.at6 | exact Z.at7 | exact Z.at8 | exact Z.at9 | exact Z.at10 | exact Z.at11 | exact Z.at12) (by rfl) ?_ | refine Z.ZO.storeP rfl rfl hs rfl rfl (by kernel_rfl) (by first | (simp [Value.oneCell']; done) | (refine Z.all_one ?_; assumption)) (by first | exact SX.at0 | exact SX.at1 | exact SX.at2 | exact SX.at3 | exact SX.at4 | exact SX.at5 | exact Z.at6 | exact Z.at7 | exact Z.at8 | exact Z.at9 | exact Z.at10 | exact Z.at11 | exact Z.at12) (by first | decide | (simp; done) | (simp; omega)) ?_ | refine Z.ZO.storePR rfl rfl hs rfl rfl (by kernel_rfl) (by first | (simp [Value.oneCell']; done) | (refine Z.all_one ?_; assumption)) (by first | exact SX.at0 | exact SX.at1 | exact SX.at2 | exact SX.at3 | exact SX.at4 | exact SX.at5 | exact Z.at6 | exact Z.at7 | exact Z.at8 | exact Z.at9 | exact Z.at10 | exact Z.at11 | exact Z.at12) (by first | decide | (simp; done) | (simp; omega)) ?_
                                  clear hs; intro ws hs
                                  simp only [Nat.zero_add, Nat.add_zero, Nat.reduceAdd, Int.reduceToNat, Nat.reduceMul, List.set_cons_zero, List.set_cons_succ, List.setIfInBounds_toArray] at hs
                                  try simp only [Z.putL, Nat.zero_add] at hs
                                  refine Z.lb 1 rfl ?_
                                  refine Z.lnil ?_
                                  refine Z.only [2, 3] rfl ?_
                                  refine Z.nthen ?_
                                  refine Z.ret ?_
                                  repeat (first | refine Z.rthen ?_ | refine Z.rblock ?_ | refine Z.rscope ?_)
                                  -- ret#2
                                  refine Z.out2 (by exact ⟨⟨_, rfl, Z.rvcA hs Try.isAgg24 (by first | ((repeat (first | exact List.mem_cons_self | refine List.mem_cons_of_mem _ ?_ | refine List.mem_append_right _ ?_)); done) | fail) (by exact Try.sizeOf24)⟩, rfl, trivial⟩) ?_
                                  first
                                  | exact ⟨_, rfl, Dec.zero (hs.sub (List.nil_sublist _))⟩
                                  | exact ⟨_, rfl, Aa, ca, ca, rfl, hs.sel [0] (by decide)⟩
                                  )
                            · first
                                | (exfalso; simp at hc24 <;> omega)
                                | (
                                  (try simp at hc24)
                                  have h5 : acc.length < 512 := by omega
                                  have hal : alone v1 (nkAt l a) := by first | assumption | simpa using hsp110
                                  have hok : okNext v1 acc (nkAt l a) = true := by
                                    first
                                    | exact okT2 h5 hal hne hp (by first | assumption | simpa using hc24)
                                    | exact okT1 h5 hal (by first | omega | simpa using hsp113)
                                  rw [if_pos hok] at hgo
                                  refine Z.skip ?_
                                  refine Z.nblock ?_
                                  refine Z.nthen ?_
                                  have hi1 : (if moreAt l a = true then 1 else 0) ≤ 1 := by split <;> omega
                                  have hsn2 : ∀ n ∈ acc ++ [nkAt l a], 0 ≤ n.sn ∧ n.sn ≤ 1023 := by
                                    intro n hn
                                    rcases List.mem_append.1 hn with hn | hn
                                    · exact hsn n hn
                                    · obtain rfl : n = nkAt l a := by simpa using hn
                                      exact hsx
                                  rw [← eM]
                                  exact Z.again (nkA l a, acc ++ [nkAt l a], _, moreAt l a) (by refine ⟨?_, ?_, ?_, ?_, trivial⟩ <;> (first | rfl | (refine Z.lookv rfl ?_; simp; done) | (refine Z.lookv rfl ?_; simp; omega))) ⟨⟨by simp only; omega, by simp only; omega, hsn2, f, by simp only; omega, hgo⟩, hs.sel [0, 1, 2, 3, 4] (by decide)⟩ (by simp only; omega)
                                  )
                            )
                      · first
                          | (exfalso; simp at hsp110 <;> omega)
                          | (
                            refine Z.yes (s := 110) (b := false) rfl hsp110 rfl ?_
                            (try simp at hsp110)
                            refine Z.yes (s := 103) (b := true) rfl rfl rfl ?_
                            refine Z.tb [10, 11, 12] (by kernel_rfl) rfl ⟨_, hs, by first | (simp; done) | exact fun e he => List.mem_append_right _ he⟩ rfl ?_
                            refine Z.yes (s := 103) (b := true) rfl rfl rfl ?_
                            refine Z.yes (s := 110) (b := false) rfl rfl rfl ?_
                            refine Z.split (s := 113) rfl (fun hsp113 => ?_) (fun hsp113 => ?_)
                            · first
                                | (exfalso; simp at hsp113 <;> omega)
                                | (
                                  refine Z.yes (s := 113) (b := true) rfl hsp113 rfl ?_
                                  (try simp at hsp113)
                                  have hne : acc.length ≠ 0 := by first | omega | exact fun h0 => absurd (List.length_eq_zero_iff.1 h0) (by assumption)
                                  obtain ⟨p, hp⟩ := last_at hne
                                  have hpm := hsn p (List.mem_of_getElem? hp)
                                  have hp2 := (okNext_snoc (x := nkAt l a) hne).trans hp
                                  have hk1 : ((acc.length : Int) + 1 - 2) = ((acc.length - 1 : Nat) : Int) := by omega
                                  refine Z.yes (s := 103) (b := true) rfl rfl rfl ?_
                                  refine Z.yes (s := 110) (b := false) rfl rfl rfl ?_
                                  refine Z.t 13 rfl rfl rfl (by rfl) (by kernel_rfl) ⟨_, hs, by first | (simp; done) | exact fun e he => List.mem_append_right _ he⟩ (Z.Yd.fieldA (m := 0) rfl (by kernel_rfl)) ?_
                                  refine Z.t 14 rfl rfl rfl (by rfl) (by kernel_rfl) ⟨_, hs, by first | (simp; done) | exact fun e he => List.mem_append_right _ he⟩ (by first | exact Z.Yd.load rfl Try.isAgg3 (fun _ => Z.cellB (by first | ((repeat (first | exact List.mem_cons_self | refine List.mem_cons_of_mem _ ?_ | refine List.mem_append_right _ ?_)); done) | fail) rfl) | exact Z.Yd.load rfl Try.isAgg3 (fun _ => Z.cellO (by assumption) (by simp) (by assumption)) | fail "load 24.14") ?_
                                  refine Z.t 15 rfl rfl rfl (by rfl) (by kernel_rfl) ⟨_, hs, by first | (simp; done) | exact fun e he => List.mem_append_right _ he⟩ (Z.Yd.fieldA (m := 1) rfl (by kernel_rfl)) ?_
                                  refine Z.t 16 rfl rfl rfl (by rfl) (by kernel_rfl) ⟨_, hs, by first | (simp; done) | exact fun e he => List.mem_append_right _ he⟩ (by first | exact Z.Yd.load rfl Try.isAgg22 (fun _ => Z.cellB (by first | ((repeat (first | exact List.mem_cons_self | refine List.mem_cons_of_mem _ ?_ | refine List.mem_append_right _ ?_)); done) | fail) rfl) | exact Z.Yd.load rfl Try.isAgg22 (fun _ => Z.cellO (by assumption) (by simp) (by assumption)) | fail "load 24.16") ?_
                                  refine Z.tb [17] (by kernel_rfl) rfl ⟨_, hs, by first | (simp; done) | exact fun e he => List.mem_append_right _ he⟩ rfl ?_
                                  refine Z.t 18 rfl rfl rfl (by rfl) (by kernel_rfl) ⟨_, hs, by first | (simp; done) | exact fun e he => List.mem_append_right _ he⟩ (Z.Yd.sub rfl rfl (fun hG => Z.wi64 (by first | omega | (have hG' := Z.gh rfl hG; simp at hG'; omega)))) ?_
                                  refine Z.t 19 rfl rfl rfl (by rfl) (by kernel_rfl) ⟨_, hs, by first | (simp; done) | exact fun e he => List.mem_append_right _ he⟩ (Z.Yd.elem rfl rfl Try.underlying22 Try.sizeOf45 (fun hG => ⟨(by first | omega | (have hG' := Z.gh rfl hG; simp at hG'; omega)), (by first | omega | (have hG' := Z.gh rfl hG; simp at hG'; omega))⟩)) ?_
                                  refine Z.t 20 rfl rfl rfl (by rfl) (by kernel_rfl) ⟨_, hs, by first | (simp; done) | exact fun e he => List.mem_append_right _ he⟩ (Z.Yd.loadA _ rfl Try.isAgg45 (fun _ => hk1 ▸ Z.cellsRf (by first | ((repeat (first | exact List.mem_cons_self | refine List.mem_cons_of_mem _ ?_ | refine List.mem_append_right _ ?_)); done) | fail) nk_len hp2 rfl) (by exact Try.sizeOf45)) ?_
                                  refine Z.t 21 rfl rfl rfl (by rfl) (by kernel_rfl) ⟨_, hs, by first | (simp; done) | exact fun e he => List.mem_append_right _ he⟩ (Z.Yd.loadA _ rfl Try.isAgg45 (fun _ => Z.cellsB (cs := (nkAt l a).cells) (by first | ((repeat (first | exact List.mem_cons_self | refine List.mem_cons_of_mem _ ?_ | refine List.mem_append_right _ ?_)); done) | fail)) (by exact Try.sizeOf45)) ?_
                                  refine Z.yes (s := 103) (b := true) rfl rfl rfl ?_
                                  refine Z.yes (s := 110) (b := false) rfl rfl rfl ?_
                                  refine Z.yes (s := 113) (b := true) rfl rfl rfl ?_
                                  refine Z.tn 22 rfl rfl (by kernel_rfl) rfl (by exact ⟨rfl, trivial⟩) ?_
                                  refine Z.ZO.call rfl rfl (by rfl) rfl rfl Try.call36 rfl (rfollows_any v1 p (nkAt l a) _ (by omega) hpm hsx) ?_
                                  rintro v24_22 w24_22 ⟨rfl, hy⟩
                                  replace hs := hs.call hy
                                  clear hy
                                  try simp only [List.cons_append, List.nil_append, List.append_nil] at hs
                                  refine Z.tk (Dn := fun _ => true) (i := 22) (fun _ => ⟨_, hs, by first | (simp; done) | exact fun e he => List.mem_append_right _ he⟩) ?_
                                  refine Z.tb [23] (by kernel_rfl) rfl ⟨_, hs, by first | (simp; done) | exact fun e he => List.mem_append_right _ he⟩ rfl ?_
                                  refine Z.yes (s := 103) (b := true) rfl rfl rfl ?_
                                  refine Z.yes (s := 110) (b := false) rfl rfl rfl ?_
                                  refine Z.yes (s := 113) (b := true) rfl rfl rfl ?_
                                  refine Z.t 24 rfl rfl rfl (by rfl) (by kernel_rfl) ⟨_, hs, by first | (simp; done) | exact fun e he => List.mem_append_right _ he⟩ (Z.Yd.pickT rfl rfl) ?_
                                  refine Z.yes (s := 103) (b := true) rfl rfl rfl ?_
                                  refine Z.yes (s := 110) (b := false) rfl rfl rfl ?_
                                  refine Z.yes (s := 113) (b := true) rfl rfl rfl ?_
                                  refine Z.t 25 rfl rfl rfl (by rfl) (by kernel_rfl) ⟨_, hs, by first | (simp; done) | exact fun e he => List.mem_append_right _ he⟩ (Z.Yd.pickF rfl rfl) ?_
                                  refine Z.td (by rfl) (by kernel_rfl) ?_
                                  refine Z.only [2, 4, 7, 8, 126] rfl ?_
                                  refine Z.nthen ?_
                                  refine Z.cond rfl (fun hc24 => ?_) (fun hc24 => ?_)
                                  · first
                                      | (exfalso; simp at hc24 <;> omega)
                                      | (
                                        (try simp at hc24)
                                        have hok : okNext v1 acc (nkAt l a) = false := by
                                          first
                                          | exact okF1 (by omega)
                                          | exact okF2 (by first | assumption | simpa using hsp110 | simpa using hc24)
                                          | exact okF3 hne hp (by first | assumption | simpa using hc24)
                                        rw [if_neg (by rw [hok]; decide)] at hgo
                                        subst hgo
                                        refine Z.seq ?_
                                        refine Z.region ?_
                                        refine Z.l rfl rfl (by rfl) (Z.keepS hs) (Z.Yd.buildL [(0, 1), (1, 1)] [.int .i64 0, .slice none 0 0] rfl rfl (by intro w; kernel_rfl)) ?_
                                        refine Z.le rfl trivial ?_
                                        first | refine Z.ZO.storeA rfl rfl hs rfl rfl (by kernel_rfl) (by first | (simp [Value.oneCell']; done) | (refine Z.all_one ?_; assumption)) (by first | exact SX.at0 | exact SX.at1 | exact SX.at2 | exact SX.at3 | exact SX.at4 | exact SX.at5 | exact Z.at6 | exact Z.at7 | exact Z.at8 | exact Z.at9 | exact Z.at10 | exact Z.at11 | exact Z.at12) (by rfl) ?_ | refine Z.ZO.storeP rfl rfl hs rfl rfl (by kernel_rfl) (by first | (simp [Value.oneCell']; done) | (refine Z.all_one ?_; assumption)) (by first | exact SX.at0 | exact SX.at1 | exact SX.at2 | exact SX.at3 | exact SX.at4 | exact SX.at5 | exact Z.at6 | exact Z.at7 | exact Z.at8 | exact Z.at9 | exact Z.at10 | exact Z.at11 | exact Z.at12) (by first | decide | (simp; done) | (simp; omega)) ?_ | refine Z.ZO.storePR rfl rfl hs rfl rfl (by kernel_rfl) (by first | (simp [Value.oneCell']; done) | (refine Z.all_one ?_; assumption)) (by first | exact SX.at0 | exact SX.at1 | exact SX.at2 | exact SX.at3 | exact SX.at4 | exact SX.at5 | exact Z.at6 | exact Z.at7 | exact Z.at8 | exact Z.at9 | exact Z.at10 | exact Z.at11 | exact Z.at12) (by first | decide | (simp; done) | (simp; omega)) ?_
                                        clear hs; intro ws hs
                                        simp only [Nat.zero_add, Nat.add_zero, Nat.reduceAdd, Int.reduceToNat, Nat.reduceMul, List.set_cons_zero, List.set_cons_succ, List.setIfInBounds_toArray] at hs
                                        try simp only [Z.putL, Nat.zero_add] at hs
                                        refine Z.lb 1 rfl ?_
                                        refine Z.lnil ?_
                                        refine Z.only [2, 3] rfl ?_
                                        refine Z.nthen ?_
                                        refine Z.ret ?_
                                        repeat (first | refine Z.rthen ?_ | refine Z.rblock ?_ | refine Z.rscope ?_)
                                        -- ret#3
                                        refine Z.out2 (by exact ⟨⟨_, rfl, Z.rvcA hs Try.isAgg24 (by first | ((repeat (first | exact List.mem_cons_self | refine List.mem_cons_of_mem _ ?_ | refine List.mem_append_right _ ?_)); done) | fail) (by exact Try.sizeOf24)⟩, rfl, trivial⟩) ?_
                                        first
                                        | exact ⟨_, rfl, Dec.zero (hs.sub (List.nil_sublist _))⟩
                                        | exact ⟨_, rfl, Aa, ca, ca, rfl, hs.sel [0] (by decide)⟩
                                        )
                                  · first
                                      | (exfalso; simp at hc24 <;> omega)
                                      | (
                                        (try simp at hc24)
                                        have h5 : acc.length < 512 := by omega
                                        have hal : alone v1 (nkAt l a) := by first | assumption | simpa using hsp110
                                        have hok : okNext v1 acc (nkAt l a) = true := by
                                          first
                                          | exact okT2 h5 hal hne hp (by first | assumption | simpa using hc24)
                                          | exact okT1 h5 hal (by first | omega | simpa using hsp113)
                                        rw [if_pos hok] at hgo
                                        refine Z.skip ?_
                                        refine Z.nblock ?_
                                        refine Z.nthen ?_
                                        have hi1 : (if moreAt l a = true then 1 else 0) ≤ 1 := by split <;> omega
                                        have hsn2 : ∀ n ∈ acc ++ [nkAt l a], 0 ≤ n.sn ∧ n.sn ≤ 1023 := by
                                          intro n hn
                                          rcases List.mem_append.1 hn with hn | hn
                                          · exact hsn n hn
                                          · obtain rfl : n = nkAt l a := by simpa using hn
                                            exact hsx
                                        rw [← eM]
                                        exact Z.again (nkA l a, acc ++ [nkAt l a], _, moreAt l a) (by refine ⟨?_, ?_, ?_, ?_, trivial⟩ <;> (first | rfl | (refine Z.lookv rfl ?_; simp; done) | (refine Z.lookv rfl ?_; simp; omega))) ⟨⟨by simp only; omega, by simp only; omega, hsn2, f, by simp only; omega, hgo⟩, hs.sel [0, 1, 2, 3, 4] (by decide)⟩ (by simp only; omega)
                                        )
                                  )
                            · first
                                | (exfalso; simp at hsp113 <;> omega)
                                | (
                                  refine Z.yes (s := 113) (b := false) rfl hsp113 rfl ?_
                                  (try simp at hsp113)
                                  refine Z.yes (s := 103) (b := true) rfl rfl rfl ?_
                                  refine Z.yes (s := 110) (b := false) rfl rfl rfl ?_
                                  refine Z.t 13 rfl rfl rfl (by rfl) (by kernel_rfl) ⟨_, hs, by first | (simp; done) | exact fun e he => List.mem_append_right _ he⟩ (Z.Yd.off (v := undef) 113 true rfl (by first | (simp; done) | (simp_all; done)) (by intro c h; cases h)) ?_
                                  refine Z.t 14 rfl rfl rfl (by rfl) (by kernel_rfl) ⟨_, hs, by first | (simp; done) | exact fun e he => List.mem_append_right _ he⟩ (Z.Yd.off (v := undef) 113 true rfl (by first | (simp; done) | (simp_all; done)) (by intro c h; cases h)) ?_
                                  refine Z.t 15 rfl rfl rfl (by rfl) (by kernel_rfl) ⟨_, hs, by first | (simp; done) | exact fun e he => List.mem_append_right _ he⟩ (Z.Yd.off (v := undef) 113 true rfl (by first | (simp; done) | (simp_all; done)) (by intro c h; cases h)) ?_
                                  refine Z.t 16 rfl rfl rfl (by rfl) (by kernel_rfl) ⟨_, hs, by first | (simp; done) | exact fun e he => List.mem_append_right _ he⟩ (Z.Yd.off (v := undef) 113 true rfl (by first | (simp; done) | (simp_all; done)) (by intro c h; cases h)) ?_
                                  refine Z.t 17 rfl rfl rfl (by rfl) (by kernel_rfl) ⟨_, hs, by first | (simp; done) | exact fun e he => List.mem_append_right _ he⟩ (Z.Yd.off (v := undef) 113 true rfl (by first | (simp; done) | (simp_all; done)) (by intro c h; cases h)) ?_
                                  refine Z.t 18 rfl rfl rfl (by rfl) (by kernel_rfl) ⟨_, hs, by first | (simp; done) | exact fun e he => List.mem_append_right _ he⟩ (Z.Yd.off (v := undef) 113 true rfl (by first | (simp; done) | (simp_all; done)) (by intro c h; cases h)) ?_
                                  refine Z.t 19 rfl rfl rfl (by rfl) (by kernel_rfl) ⟨_, hs, by first | (simp; done) | exact fun e he => List.mem_append_right _ he⟩ (Z.Yd.off (v := undef) 113 true rfl (by first | (simp; done) | (simp_all; done)) (by intro c h; cases h)) ?_
                                  refine Z.t 20 rfl rfl rfl (by rfl) (by kernel_rfl) ⟨_, hs, by first | (simp; done) | exact fun e he => List.mem_append_right _ he⟩ (Z.Yd.off (v := undef) 113 true rfl (by first | (simp; done) | (simp_all; done)) (by intro c h; cases h)) ?_
                                  refine Z.t 21 rfl rfl rfl (by rfl) (by kernel_rfl) ⟨_, hs, by first | (simp; done) | exact fun e he => List.mem_append_right _ he⟩ (Z.Yd.off (v := undef) 113 true rfl (by first | (simp; done) | (simp_all; done)) (by intro c h; cases h)) ?_
                                  refine Z.yes (s := 103) (b := true) rfl rfl rfl ?_
                                  refine Z.yes (s := 110) (b := false) rfl rfl rfl ?_
                                  refine Z.yes (s := 113) (b := false) rfl rfl rfl ?_
                                  refine Z.tnS 113 true 22 rfl rfl (by kernel_rfl) rfl rfl (by simp) rfl (by rfl) (fun _ => ⟨_, hs, by first | (simp; done) | exact fun e he => List.mem_append_right _ he⟩) ?_
                                  refine Z.t 23 rfl rfl rfl (by rfl) (by kernel_rfl) ⟨_, hs, by first | (simp; done) | exact fun e he => List.mem_append_right _ he⟩ (Z.Yd.off (v := undef) 113 true rfl (by first | (simp; done) | (simp_all; done)) (by intro c h; cases h)) ?_
                                  refine Z.yes (s := 103) (b := true) rfl rfl rfl ?_
                                  refine Z.yes (s := 110) (b := false) rfl rfl rfl ?_
                                  refine Z.yes (s := 113) (b := false) rfl rfl rfl ?_
                                  refine Z.t 24 rfl rfl rfl (by rfl) (by kernel_rfl) ⟨_, hs, by first | (simp; done) | exact fun e he => List.mem_append_right _ he⟩ (Z.Yd.pickF rfl rfl) ?_
                                  refine Z.yes (s := 103) (b := true) rfl rfl rfl ?_
                                  refine Z.yes (s := 110) (b := false) rfl rfl rfl ?_
                                  refine Z.yes (s := 113) (b := false) rfl rfl rfl ?_
                                  refine Z.t 25 rfl rfl rfl (by rfl) (by kernel_rfl) ⟨_, hs, by first | (simp; done) | exact fun e he => List.mem_append_right _ he⟩ (Z.Yd.pickF rfl rfl) ?_
                                  refine Z.td (by rfl) (by kernel_rfl) ?_
                                  refine Z.only [2, 4, 7, 8, 126] rfl ?_
                                  refine Z.nthen ?_
                                  refine Z.cond rfl (fun hc24 => ?_) (fun hc24 => ?_)
                                  · first
                                      | (exfalso; simp at hc24 <;> omega)
                                      | (
                                        (try simp at hc24)
                                        have hok : okNext v1 acc (nkAt l a) = false := by
                                          first
                                          | exact okF1 (by omega)
                                          | exact okF2 (by first | assumption | simpa using hsp110 | simpa using hc24)
                                          | exact okF3 hne hp (by first | assumption | simpa using hc24)
                                        rw [if_neg (by rw [hok]; decide)] at hgo
                                        subst hgo
                                        refine Z.seq ?_
                                        refine Z.region ?_
                                        refine Z.l rfl rfl (by rfl) (Z.keepS hs) (Z.Yd.buildL [(0, 1), (1, 1)] [.int .i64 0, .slice none 0 0] rfl rfl (by intro w; kernel_rfl)) ?_
                                        refine Z.le rfl trivial ?_
                                        first | refine Z.ZO.storeA rfl rfl hs rfl rfl (by kernel_rfl) (by first | (simp [Value.oneCell']; done) | (refine Z.all_one ?_; assumption)) (by first | exact SX.at0 | exact SX.at1 | exact SX.at2 | exact SX.at3 | exact SX.at4 | exact SX.at5 | exact Z.at6 | exact Z.at7 | exact Z.at8 | exact Z.at9 | exact Z.at10 | exact Z.at11 | exact Z.at12) (by rfl) ?_ | refine Z.ZO.storeP rfl rfl hs rfl rfl (by kernel_rfl) (by first | (simp [Value.oneCell']; done) | (refine Z.all_one ?_; assumption)) (by first | exact SX.at0 | exact SX.at1 | exact SX.at2 | exact SX.at3 | exact SX.at4 | exact SX.at5 | exact Z.at6 | exact Z.at7 | exact Z.at8 | exact Z.at9 | exact Z.at10 | exact Z.at11 | exact Z.at12) (by first | decide | (simp; done) | (simp; omega)) ?_ | refine Z.ZO.storePR rfl rfl hs rfl rfl (by kernel_rfl) (by first | (simp [Value.oneCell']; done) | (refine Z.all_one ?_; assumption)) (by first | exact SX.at0 | exact SX.at1 | exact SX.at2 | exact SX.at3 | exact SX.at4 | exact SX.at5 | exact Z.at6 | exact Z.at7 | exact Z.at8 | exact Z.at9 | exact Z.at10 | exact Z.at11 | exact Z.at12) (by first | decide | (simp; done) | (simp; omega)) ?_
                                        clear hs; intro ws hs
                                        simp only [Nat.zero_add, Nat.add_zero, Nat.reduceAdd, Int.reduceToNat, Nat.reduceMul, List.set_cons_zero, List.set_cons_succ, List.setIfInBounds_toArray] at hs
                                        try simp only [Z.putL, Nat.zero_add] at hs
                                        refine Z.lb 1 rfl ?_
                                        refine Z.lnil ?_
                                        refine Z.only [2, 3] rfl ?_
                                        refine Z.nthen ?_
                                        refine Z.ret ?_
                                        repeat (first | refine Z.rthen ?_ | refine Z.rblock ?_ | refine Z.rscope ?_)
                                        -- ret#4
                                        refine Z.out2 (by exact ⟨⟨_, rfl, Z.rvcA hs Try.isAgg24 (by first | ((repeat (first | exact List.mem_cons_self | refine List.mem_cons_of_mem _ ?_ | refine List.mem_append_right _ ?_)); done) | fail) (by exact Try.sizeOf24)⟩, rfl, trivial⟩) ?_
                                        first
                                        | exact ⟨_, rfl, Dec.zero (hs.sub (List.nil_sublist _))⟩
                                        | exact ⟨_, rfl, Aa, ca, ca, rfl, hs.sel [0] (by decide)⟩
                                        )
                                  · first
                                      | (exfalso; simp at hc24 <;> omega)
                                      | (
                                        (try simp at hc24)
                                        have h5 : acc.length < 512 := by omega
                                        have hal : alone v1 (nkAt l a) := by first | assumption | simpa using hsp110
                                        have hok : okNext v1 acc (nkAt l a) = true := by
                                          first
                                          | exact okT2 h5 hal hne hp (by first | assumption | simpa using hc24)
                                          | exact okT1 h5 hal (by first | omega | simpa using hsp113)
                                        rw [if_pos hok] at hgo
                                        refine Z.skip ?_
                                        refine Z.nblock ?_
                                        refine Z.nthen ?_
                                        have hi1 : (if moreAt l a = true then 1 else 0) ≤ 1 := by split <;> omega
                                        have hsn2 : ∀ n ∈ acc ++ [nkAt l a], 0 ≤ n.sn ∧ n.sn ≤ 1023 := by
                                          intro n hn
                                          rcases List.mem_append.1 hn with hn | hn
                                          · exact hsn n hn
                                          · obtain rfl : n = nkAt l a := by simpa using hn
                                            exact hsx
                                        rw [← eM]
                                        exact Z.again (nkA l a, acc ++ [nkAt l a], _, moreAt l a) (by refine ⟨?_, ?_, ?_, ?_, trivial⟩ <;> (first | rfl | (refine Z.lookv rfl ?_; simp; done) | (refine Z.lookv rfl ?_; simp; omega))) ⟨⟨by simp only; omega, by simp only; omega, hsn2, f, by simp only; omega, hgo⟩, hs.sel [0, 1, 2, 3, 4] (by decide)⟩ (by simp only; omega)
                                        )
                                  )
                            )
                      )
                · first
                    | (exfalso; simp at hsp103 <;> omega)
                    | (
                      refine Z.yes (s := 103) (b := false) rfl hsp103 rfl ?_
                      (try simp at hsp103)
                      refine Z.t 3 rfl rfl rfl (by rfl) (by kernel_rfl) ⟨_, hs, by first | (simp; done) | exact fun e he => List.mem_append_right _ he⟩ (Z.Yd.fieldA (m := 0) rfl (by kernel_rfl)) ?_
                      refine Z.t 4 rfl rfl rfl (by rfl) (by kernel_rfl) ⟨_, hs, by first | (simp; done) | exact fun e he => List.mem_append_right _ he⟩ (by first | exact Z.Yd.load rfl Try.isAgg3 (fun _ => Z.cellB (by first | ((repeat (first | exact List.mem_cons_self | refine List.mem_cons_of_mem _ ?_ | refine List.mem_append_right _ ?_)); done) | fail) rfl) | exact Z.Yd.load rfl Try.isAgg3 (fun _ => Z.cellO (by assumption) (by simp) (by assumption)) | fail "load 24.4") ?_
                      refine Z.t 5 rfl rfl rfl (by rfl) (by kernel_rfl) ⟨_, hs, by first | (simp; done) | exact fun e he => List.mem_append_right _ he⟩ (Z.Yd.loadA _ rfl Try.isAgg45 (fun _ => Z.cellsB (cs := (nkAt l a).cells) (by first | ((repeat (first | exact List.mem_cons_self | refine List.mem_cons_of_mem _ ?_ | refine List.mem_append_right _ ?_)); done) | fail)) (by exact Try.sizeOf45)) ?_
                      refine Z.yes (s := 103) (b := false) rfl rfl rfl ?_
                      refine Z.tn 6 rfl rfl (by kernel_rfl) rfl (by exact ⟨rfl, trivial⟩) ?_
                      refine Z.ZO.call rfl rfl (by rfl) rfl rfl Try.call35 rfl (ralone_any v1 (nkAt l a) _ (by omega)) ?_
                      rintro v24_6 w24_6 ⟨rfl, hy⟩
                      replace hs := hs.call hy
                      clear hy
                      try simp only [List.cons_append, List.nil_append, List.append_nil] at hs
                      refine Z.tk (Dn := fun _ => true) (i := 6) (fun _ => ⟨_, hs, by first | (simp; done) | exact fun e he => List.mem_append_right _ he⟩) ?_
                      refine Z.tb [7] (by kernel_rfl) rfl ⟨_, hs, by first | (simp; done) | exact fun e he => List.mem_append_right _ he⟩ rfl ?_
                      refine Z.yes (s := 103) (b := false) rfl rfl rfl ?_
                      refine Z.t 8 rfl rfl rfl (by rfl) (by kernel_rfl) ⟨_, hs, by first | (simp; done) | exact fun e he => List.mem_append_right _ he⟩ (Z.Yd.pickF rfl rfl) ?_
                      refine Z.tb [9] (by kernel_rfl) rfl ⟨_, hs, by first | (simp; done) | exact fun e he => List.mem_append_right _ he⟩ rfl ?_
                      refine Z.split (s := 110) rfl (fun hsp110 => ?_) (fun hsp110 => ?_)
                      · first
                          | (exfalso; simp at hsp110 <;> omega)
                          | (
                            refine Z.yes (s := 110) (b := true) rfl hsp110 rfl ?_
                            (try simp at hsp110)
                            refine Z.yes (s := 103) (b := false) rfl rfl rfl ?_
                            refine Z.t 10 rfl rfl rfl (by rfl) (by kernel_rfl) ⟨_, hs, by first | (simp; done) | exact fun e he => List.mem_append_right _ he⟩ (Z.Yd.off (v := undef) 110 false rfl (by first | (simp; done) | (simp_all; done)) (by intro c h; cases h)) ?_
                            refine Z.t 11 rfl rfl rfl (by rfl) (by kernel_rfl) ⟨_, hs, by first | (simp; done) | exact fun e he => List.mem_append_right _ he⟩ (Z.Yd.off (v := undef) 110 false rfl (by first | (simp; done) | (simp_all; done)) (by intro c h; cases h)) ?_
                            refine Z.t 12 rfl rfl rfl (by rfl) (by kernel_rfl) ⟨_, hs, by first | (simp; done) | exact fun e he => List.mem_append_right _ he⟩ (Z.Yd.off (v := undef) 110 false rfl (by first | (simp; done) | (simp_all; done)) (by intro c h; cases h)) ?_
                            refine Z.t 13 rfl rfl rfl (by rfl) (by kernel_rfl) ⟨_, hs, by first | (simp; done) | exact fun e he => List.mem_append_right _ he⟩ (Z.Yd.off (v := undef) 110 false rfl (by first | (simp; done) | (simp_all; done)) (by intro c h; cases h)) ?_
                            refine Z.t 14 rfl rfl rfl (by rfl) (by kernel_rfl) ⟨_, hs, by first | (simp; done) | exact fun e he => List.mem_append_right _ he⟩ (Z.Yd.off (v := undef) 110 false rfl (by first | (simp; done) | (simp_all; done)) (by intro c h; cases h)) ?_
                            refine Z.t 15 rfl rfl rfl (by rfl) (by kernel_rfl) ⟨_, hs, by first | (simp; done) | exact fun e he => List.mem_append_right _ he⟩ (Z.Yd.off (v := undef) 110 false rfl (by first | (simp; done) | (simp_all; done)) (by intro c h; cases h)) ?_
                            refine Z.t 16 rfl rfl rfl (by rfl) (by kernel_rfl) ⟨_, hs, by first | (simp; done) | exact fun e he => List.mem_append_right _ he⟩ (Z.Yd.off (v := undef) 110 false rfl (by first | (simp; done) | (simp_all; done)) (by intro c h; cases h)) ?_
                            refine Z.t 17 rfl rfl rfl (by rfl) (by kernel_rfl) ⟨_, hs, by first | (simp; done) | exact fun e he => List.mem_append_right _ he⟩ (Z.Yd.off (v := undef) 110 false rfl (by first | (simp; done) | (simp_all; done)) (by intro c h; cases h)) ?_
                            refine Z.t 18 rfl rfl rfl (by rfl) (by kernel_rfl) ⟨_, hs, by first | (simp; done) | exact fun e he => List.mem_append_right _ he⟩ (Z.Yd.off (v := undef) 110 false rfl (by first | (simp; done) | (simp_all; done)) (by intro c h; cases h)) ?_
                            refine Z.t 19 rfl rfl rfl (by rfl) (by kernel_rfl) ⟨_, hs, by first | (simp; done) | exact fun e he => List.mem_append_right _ he⟩ (Z.Yd.off (v := undef) 110 false rfl (by first | (simp; done) | (simp_all; done)) (by intro c h; cases h)) ?_
                            refine Z.t 20 rfl rfl rfl (by rfl) (by kernel_rfl) ⟨_, hs, by first | (simp; done) | exact fun e he => List.mem_append_right _ he⟩ (Z.Yd.off (v := undef) 110 false rfl (by first | (simp; done) | (simp_all; done)) (by intro c h; cases h)) ?_
                            refine Z.t 21 rfl rfl rfl (by rfl) (by kernel_rfl) ⟨_, hs, by first | (simp; done) | exact fun e he => List.mem_append_right _ he⟩ (Z.Yd.off (v := undef) 110 false rfl (by first | (simp; done) | (simp_all; done)) (by intro c h; cases h)) ?_
                            refine Z.yes (s := 103) (b := false) rfl rfl rfl ?_
                            refine Z.yes (s := 110) (b := true) rfl rfl rfl ?_
                            refine Z.tnS 110 false 22 rfl rfl (by kernel_rfl) rfl rfl (by simp) rfl (by rfl) (fun _ => ⟨_, hs, by first | (simp; done) | exact fun e he => List.mem_append_right _ he⟩) ?_
                            refine Z.t 23 rfl rfl rfl (by rfl) (by kernel_rfl) ⟨_, hs, by first | (simp; done) | exact fun e he => List.mem_append_right _ he⟩ (Z.Yd.off (v := undef) 110 false rfl (by first | (simp; done) | (simp_all; done)) (by intro c h; cases h)) ?_
                            refine Z.t 24 rfl rfl rfl (by rfl) (by kernel_rfl) ⟨_, hs, by first | (simp; done) | exact fun e he => List.mem_append_right _ he⟩ (Z.Yd.off (v := undef) 110 false rfl (by first | (simp; done) | (simp_all; done)) (by intro c h; cases h)) ?_
                            refine Z.yes (s := 103) (b := false) rfl rfl rfl ?_
                            refine Z.yes (s := 110) (b := true) rfl rfl rfl ?_
                            refine Z.t 25 rfl rfl rfl (by rfl) (by kernel_rfl) ⟨_, hs, by first | (simp; done) | exact fun e he => List.mem_append_right _ he⟩ (Z.Yd.pickT rfl rfl) ?_
                            refine Z.td (by rfl) (by kernel_rfl) ?_
                            refine Z.only [2, 4, 7, 8, 126] rfl ?_
                            refine Z.nthen ?_
                            refine Z.cond rfl (fun hc24 => ?_) (fun hc24 => ?_)
                            · first
                                | (exfalso; simp at hc24 <;> omega)
                                | (
                                  (try simp at hc24)
                                  have hok : okNext v1 acc (nkAt l a) = false := by
                                    first
                                    | exact okF1 (by omega)
                                    | exact okF2 (by first | assumption | simpa using hsp110 | simpa using hc24)
                                    | exact okF3 hne hp (by first | assumption | simpa using hc24)
                                  rw [if_neg (by rw [hok]; decide)] at hgo
                                  subst hgo
                                  refine Z.seq ?_
                                  refine Z.region ?_
                                  refine Z.l rfl rfl (by rfl) (Z.keepS hs) (Z.Yd.buildL [(0, 1), (1, 1)] [.int .i64 0, .slice none 0 0] rfl rfl (by intro w; kernel_rfl)) ?_
                                  refine Z.le rfl trivial ?_
                                  first | refine Z.ZO.storeA rfl rfl hs rfl rfl (by kernel_rfl) (by first | (simp [Value.oneCell']; done) | (refine Z.all_one ?_; assumption)) (by first | exact SX.at0 | exact SX.at1 | exact SX.at2 | exact SX.at3 | exact SX.at4 | exact SX.at5 | exact Z.at6 | exact Z.at7 | exact Z.at8 | exact Z.at9 | exact Z.at10 | exact Z.at11 | exact Z.at12) (by rfl) ?_ | refine Z.ZO.storeP rfl rfl hs rfl rfl (by kernel_rfl) (by first | (simp [Value.oneCell']; done) | (refine Z.all_one ?_; assumption)) (by first | exact SX.at0 | exact SX.at1 | exact SX.at2 | exact SX.at3 | exact SX.at4 | exact SX.at5 | exact Z.at6 | exact Z.at7 | exact Z.at8 | exact Z.at9 | exact Z.at10 | exact Z.at11 | exact Z.at12) (by first | decide | (simp; done) | (simp; omega)) ?_ | refine Z.ZO.storePR rfl rfl hs rfl rfl (by kernel_rfl) (by first | (simp [Value.oneCell']; done) | (refine Z.all_one ?_; assumption)) (by first | exact SX.at0 | exact SX.at1 | exact SX.at2 | exact SX.at3 | exact SX.at4 | exact SX.at5 | exact Z.at6 | exact Z.at7 | exact Z.at8 | exact Z.at9 | exact Z.at10 | exact Z.at11 | exact Z.at12) (by first | decide | (simp; done) | (simp; omega)) ?_
                                  clear hs; intro ws hs
                                  simp only [Nat.zero_add, Nat.add_zero, Nat.reduceAdd, Int.reduceToNat, Nat.reduceMul, List.set_cons_zero, List.set_cons_succ, List.setIfInBounds_toArray] at hs
                                  try simp only [Z.putL, Nat.zero_add] at hs
                                  refine Z.lb 1 rfl ?_
                                  refine Z.lnil ?_
                                  refine Z.only [2, 3] rfl ?_
                                  refine Z.nthen ?_
                                  refine Z.ret ?_
                                  repeat (first | refine Z.rthen ?_ | refine Z.rblock ?_ | refine Z.rscope ?_)
                                  -- ret#5
                                  refine Z.out2 (by exact ⟨⟨_, rfl, Z.rvcA hs Try.isAgg24 (by first | ((repeat (first | exact List.mem_cons_self | refine List.mem_cons_of_mem _ ?_ | refine List.mem_append_right _ ?_)); done) | fail) (by exact Try.sizeOf24)⟩, rfl, trivial⟩) ?_
                                  first
                                  | exact ⟨_, rfl, Dec.zero (hs.sub (List.nil_sublist _))⟩
                                  | exact ⟨_, rfl, Aa, ca, ca, rfl, hs.sel [0] (by decide)⟩
                                  )
                            · first
                                | (exfalso; simp at hc24 <;> omega)
                                | (
                                  (try simp at hc24)
                                  have h5 : acc.length < 512 := by omega
                                  have hal : alone v1 (nkAt l a) := by first | assumption | simpa using hsp110
                                  have hok : okNext v1 acc (nkAt l a) = true := by
                                    first
                                    | exact okT2 h5 hal hne hp (by first | assumption | simpa using hc24)
                                    | exact okT1 h5 hal (by first | omega | simpa using hsp113)
                                  rw [if_pos hok] at hgo
                                  refine Z.skip ?_
                                  refine Z.nblock ?_
                                  refine Z.nthen ?_
                                  have hi1 : (if moreAt l a = true then 1 else 0) ≤ 1 := by split <;> omega
                                  have hsn2 : ∀ n ∈ acc ++ [nkAt l a], 0 ≤ n.sn ∧ n.sn ≤ 1023 := by
                                    intro n hn
                                    rcases List.mem_append.1 hn with hn | hn
                                    · exact hsn n hn
                                    · obtain rfl : n = nkAt l a := by simpa using hn
                                      exact hsx
                                  rw [← eM]
                                  exact Z.again (nkA l a, acc ++ [nkAt l a], _, moreAt l a) (by refine ⟨?_, ?_, ?_, ?_, trivial⟩ <;> (first | rfl | (refine Z.lookv rfl ?_; simp; done) | (refine Z.lookv rfl ?_; simp; omega))) ⟨⟨by simp only; omega, by simp only; omega, hsn2, f, by simp only; omega, hgo⟩, hs.sel [0, 1, 2, 3, 4] (by decide)⟩ (by simp only; omega)
                                  )
                            )
                      · first
                          | (exfalso; simp at hsp110 <;> omega)
                          | (
                            refine Z.yes (s := 110) (b := false) rfl hsp110 rfl ?_
                            (try simp at hsp110)
                            refine Z.yes (s := 103) (b := false) rfl rfl rfl ?_
                            refine Z.tb [10, 11, 12] (by kernel_rfl) rfl ⟨_, hs, by first | (simp; done) | exact fun e he => List.mem_append_right _ he⟩ rfl ?_
                            refine Z.yes (s := 103) (b := false) rfl rfl rfl ?_
                            refine Z.yes (s := 110) (b := false) rfl rfl rfl ?_
                            refine Z.split (s := 113) rfl (fun hsp113 => ?_) (fun hsp113 => ?_)
                            · first
                                | (exfalso; simp at hsp113 <;> omega)
                                | (
                                  refine Z.yes (s := 113) (b := true) rfl hsp113 rfl ?_
                                  (try simp at hsp113)
                                  have hne : acc.length ≠ 0 := by first | omega | exact fun h0 => absurd (List.length_eq_zero_iff.1 h0) (by assumption)
                                  obtain ⟨p, hp⟩ := last_at hne
                                  have hpm := hsn p (List.mem_of_getElem? hp)
                                  have hp2 := (okNext_snoc (x := nkAt l a) hne).trans hp
                                  have hk1 : ((acc.length : Int) + 1 - 2) = ((acc.length - 1 : Nat) : Int) := by omega
                                  refine Z.yes (s := 103) (b := false) rfl rfl rfl ?_
                                  refine Z.yes (s := 110) (b := false) rfl rfl rfl ?_
                                  refine Z.t 13 rfl rfl rfl (by rfl) (by kernel_rfl) ⟨_, hs, by first | (simp; done) | exact fun e he => List.mem_append_right _ he⟩ (Z.Yd.fieldA (m := 0) rfl (by kernel_rfl)) ?_
                                  refine Z.t 14 rfl rfl rfl (by rfl) (by kernel_rfl) ⟨_, hs, by first | (simp; done) | exact fun e he => List.mem_append_right _ he⟩ (by first | exact Z.Yd.load rfl Try.isAgg3 (fun _ => Z.cellB (by first | ((repeat (first | exact List.mem_cons_self | refine List.mem_cons_of_mem _ ?_ | refine List.mem_append_right _ ?_)); done) | fail) rfl) | exact Z.Yd.load rfl Try.isAgg3 (fun _ => Z.cellO (by assumption) (by simp) (by assumption)) | fail "load 24.14") ?_
                                  refine Z.t 15 rfl rfl rfl (by rfl) (by kernel_rfl) ⟨_, hs, by first | (simp; done) | exact fun e he => List.mem_append_right _ he⟩ (Z.Yd.fieldA (m := 1) rfl (by kernel_rfl)) ?_
                                  refine Z.t 16 rfl rfl rfl (by rfl) (by kernel_rfl) ⟨_, hs, by first | (simp; done) | exact fun e he => List.mem_append_right _ he⟩ (by first | exact Z.Yd.load rfl Try.isAgg22 (fun _ => Z.cellB (by first | ((repeat (first | exact List.mem_cons_self | refine List.mem_cons_of_mem _ ?_ | refine List.mem_append_right _ ?_)); done) | fail) rfl) | exact Z.Yd.load rfl Try.isAgg22 (fun _ => Z.cellO (by assumption) (by simp) (by assumption)) | fail "load 24.16") ?_
                                  refine Z.tb [17] (by kernel_rfl) rfl ⟨_, hs, by first | (simp; done) | exact fun e he => List.mem_append_right _ he⟩ rfl ?_
                                  refine Z.t 18 rfl rfl rfl (by rfl) (by kernel_rfl) ⟨_, hs, by first | (simp; done) | exact fun e he => List.mem_append_right _ he⟩ (Z.Yd.sub rfl rfl (fun hG => Z.wi64 (by first | omega | (have hG' := Z.gh rfl hG; simp at hG'; omega)))) ?_
                                  refine Z.t 19 rfl rfl rfl (by rfl) (by kernel_rfl) ⟨_, hs, by first | (simp; done) | exact fun e he => List.mem_append_right _ he⟩ (Z.Yd.elem rfl rfl Try.underlying22 Try.sizeOf45 (fun hG => ⟨(by first | omega | (have hG' := Z.gh rfl hG; simp at hG'; omega)), (by first | omega | (have hG' := Z.gh rfl hG; simp at hG'; omega))⟩)) ?_
                                  refine Z.t 20 rfl rfl rfl (by rfl) (by kernel_rfl) ⟨_, hs, by first | (simp; done) | exact fun e he => List.mem_append_right _ he⟩ (Z.Yd.loadA _ rfl Try.isAgg45 (fun _ => hk1 ▸ Z.cellsRf (by first | ((repeat (first | exact List.mem_cons_self | refine List.mem_cons_of_mem _ ?_ | refine List.mem_append_right _ ?_)); done) | fail) nk_len hp2 rfl) (by exact Try.sizeOf45)) ?_
                                  refine Z.t 21 rfl rfl rfl (by rfl) (by kernel_rfl) ⟨_, hs, by first | (simp; done) | exact fun e he => List.mem_append_right _ he⟩ (Z.Yd.loadA _ rfl Try.isAgg45 (fun _ => Z.cellsB (cs := (nkAt l a).cells) (by first | ((repeat (first | exact List.mem_cons_self | refine List.mem_cons_of_mem _ ?_ | refine List.mem_append_right _ ?_)); done) | fail)) (by exact Try.sizeOf45)) ?_
                                  refine Z.yes (s := 103) (b := false) rfl rfl rfl ?_
                                  refine Z.yes (s := 110) (b := false) rfl rfl rfl ?_
                                  refine Z.yes (s := 113) (b := true) rfl rfl rfl ?_
                                  refine Z.tn 22 rfl rfl (by kernel_rfl) rfl (by exact ⟨rfl, trivial⟩) ?_
                                  refine Z.ZO.call rfl rfl (by rfl) rfl rfl Try.call36 rfl (rfollows_any v1 p (nkAt l a) _ (by omega) hpm hsx) ?_
                                  rintro v24_22 w24_22 ⟨rfl, hy⟩
                                  replace hs := hs.call hy
                                  clear hy
                                  try simp only [List.cons_append, List.nil_append, List.append_nil] at hs
                                  refine Z.tk (Dn := fun _ => true) (i := 22) (fun _ => ⟨_, hs, by first | (simp; done) | exact fun e he => List.mem_append_right _ he⟩) ?_
                                  refine Z.tb [23] (by kernel_rfl) rfl ⟨_, hs, by first | (simp; done) | exact fun e he => List.mem_append_right _ he⟩ rfl ?_
                                  refine Z.yes (s := 103) (b := false) rfl rfl rfl ?_
                                  refine Z.yes (s := 110) (b := false) rfl rfl rfl ?_
                                  refine Z.yes (s := 113) (b := true) rfl rfl rfl ?_
                                  refine Z.t 24 rfl rfl rfl (by rfl) (by kernel_rfl) ⟨_, hs, by first | (simp; done) | exact fun e he => List.mem_append_right _ he⟩ (Z.Yd.pickT rfl rfl) ?_
                                  refine Z.yes (s := 103) (b := false) rfl rfl rfl ?_
                                  refine Z.yes (s := 110) (b := false) rfl rfl rfl ?_
                                  refine Z.yes (s := 113) (b := true) rfl rfl rfl ?_
                                  refine Z.t 25 rfl rfl rfl (by rfl) (by kernel_rfl) ⟨_, hs, by first | (simp; done) | exact fun e he => List.mem_append_right _ he⟩ (Z.Yd.pickF rfl rfl) ?_
                                  refine Z.td (by rfl) (by kernel_rfl) ?_
                                  refine Z.only [2, 4, 7, 8, 126] rfl ?_
                                  refine Z.nthen ?_
                                  refine Z.cond rfl (fun hc24 => ?_) (fun hc24 => ?_)
                                  · first
                                      | (exfalso; simp at hc24 <;> omega)
                                      | (
                                        (try simp at hc24)
                                        have hok : okNext v1 acc (nkAt l a) = false := by
                                          first
                                          | exact okF1 (by omega)
                                          | exact okF2 (by first | assumption | simpa using hsp110 | simpa using hc24)
                                          | exact okF3 hne hp (by first | assumption | simpa using hc24)
                                        rw [if_neg (by rw [hok]; decide)] at hgo
                                        subst hgo
                                        refine Z.seq ?_
                                        refine Z.region ?_
                                        refine Z.l rfl rfl (by rfl) (Z.keepS hs) (Z.Yd.buildL [(0, 1), (1, 1)] [.int .i64 0, .slice none 0 0] rfl rfl (by intro w; kernel_rfl)) ?_
                                        refine Z.le rfl trivial ?_
                                        first | refine Z.ZO.storeA rfl rfl hs rfl rfl (by kernel_rfl) (by first | (simp [Value.oneCell']; done) | (refine Z.all_one ?_; assumption)) (by first | exact SX.at0 | exact SX.at1 | exact SX.at2 | exact SX.at3 | exact SX.at4 | exact SX.at5 | exact Z.at6 | exact Z.at7 | exact Z.at8 | exact Z.at9 | exact Z.at10 | exact Z.at11 | exact Z.at12) (by rfl) ?_ | refine Z.ZO.storeP rfl rfl hs rfl rfl (by kernel_rfl) (by first | (simp [Value.oneCell']; done) | (refine Z.all_one ?_; assumption)) (by first | exact SX.at0 | exact SX.at1 | exact SX.at2 | exact SX.at3 | exact SX.at4 | exact SX.at5 | exact Z.at6 | exact Z.at7 | exact Z.at8 | exact Z.at9 | exact Z.at10 | exact Z.at11 | exact Z.at12) (by first | decide | (simp; done) | (simp; omega)) ?_ | refine Z.ZO.storePR rfl rfl hs rfl rfl (by kernel_rfl) (by first | (simp [Value.oneCell']; done) | (refine Z.all_one ?_; assumption)) (by first | exact SX.at0 | exact SX.at1 | exact SX.at2 | exact SX.at3 | exact SX.at4 | exact SX.at5 | exact Z.at6 | exact Z.at7 | exact Z.at8 | exact Z.at9 | exact Z.at10 | exact Z.at11 | exact Z.at12) (by first | decide | (simp; done) | (simp; omega)) ?_
                                        clear hs; intro ws hs
                                        simp only [Nat.zero_add, Nat.add_zero, Nat.reduceAdd, Int.reduceToNat, Nat.reduceMul, List.set_cons_zero, List.set_cons_succ, List.setIfInBounds_toArray] at hs
                                        try simp only [Z.putL, Nat.zero_add] at hs
                                        refine Z.lb 1 rfl ?_
                                        refine Z.lnil ?_
                                        refine Z.only [2, 3] rfl ?_
                                        refine Z.nthen ?_
                                        refine Z.ret ?_
                                        repeat (first | refine Z.rthen ?_ | refine Z.rblock ?_ | refine Z.rscope ?_)
                                        -- ret#6
                                        refine Z.out2 (by exact ⟨⟨_, rfl, Z.rvcA hs Try.isAgg24 (by first | ((repeat (first | exact List.mem_cons_self | refine List.mem_cons_of_mem _ ?_ | refine List.mem_append_right _ ?_)); done) | fail) (by exact Try.sizeOf24)⟩, rfl, trivial⟩) ?_
                                        first
                                        | exact ⟨_, rfl, Dec.zero (hs.sub (List.nil_sublist _))⟩
                                        | exact ⟨_, rfl, Aa, ca, ca, rfl, hs.sel [0] (by decide)⟩
                                        )
                                  · first
                                      | (exfalso; simp at hc24 <;> omega)
                                      | (
                                        (try simp at hc24)
                                        have h5 : acc.length < 512 := by omega
                                        have hal : alone v1 (nkAt l a) := by first | assumption | simpa using hsp110
                                        have hok : okNext v1 acc (nkAt l a) = true := by
                                          first
                                          | exact okT2 h5 hal hne hp (by first | assumption | simpa using hc24)
                                          | exact okT1 h5 hal (by first | omega | simpa using hsp113)
                                        rw [if_pos hok] at hgo
                                        refine Z.skip ?_
                                        refine Z.nblock ?_
                                        refine Z.nthen ?_
                                        have hi1 : (if moreAt l a = true then 1 else 0) ≤ 1 := by split <;> omega
                                        have hsn2 : ∀ n ∈ acc ++ [nkAt l a], 0 ≤ n.sn ∧ n.sn ≤ 1023 := by
                                          intro n hn
                                          rcases List.mem_append.1 hn with hn | hn
                                          · exact hsn n hn
                                          · obtain rfl : n = nkAt l a := by simpa using hn
                                            exact hsx
                                        rw [← eM]
                                        exact Z.again (nkA l a, acc ++ [nkAt l a], _, moreAt l a) (by refine ⟨?_, ?_, ?_, ?_, trivial⟩ <;> (first | rfl | (refine Z.lookv rfl ?_; simp; done) | (refine Z.lookv rfl ?_; simp; omega))) ⟨⟨by simp only; omega, by simp only; omega, hsn2, f, by simp only; omega, hgo⟩, hs.sel [0, 1, 2, 3, 4] (by decide)⟩ (by simp only; omega)
                                        )
                                  )
                            · first
                                | (exfalso; simp at hsp113 <;> omega)
                                | (
                                  refine Z.yes (s := 113) (b := false) rfl hsp113 rfl ?_
                                  (try simp at hsp113)
                                  refine Z.yes (s := 103) (b := false) rfl rfl rfl ?_
                                  refine Z.yes (s := 110) (b := false) rfl rfl rfl ?_
                                  refine Z.t 13 rfl rfl rfl (by rfl) (by kernel_rfl) ⟨_, hs, by first | (simp; done) | exact fun e he => List.mem_append_right _ he⟩ (Z.Yd.off (v := undef) 113 true rfl (by first | (simp; done) | (simp_all; done)) (by intro c h; cases h)) ?_
                                  refine Z.t 14 rfl rfl rfl (by rfl) (by kernel_rfl) ⟨_, hs, by first | (simp; done) | exact fun e he => List.mem_append_right _ he⟩ (Z.Yd.off (v := undef) 113 true rfl (by first | (simp; done) | (simp_all; done)) (by intro c h; cases h)) ?_
                                  refine Z.t 15 rfl rfl rfl (by rfl) (by kernel_rfl) ⟨_, hs, by first | (simp; done) | exact fun e he => List.mem_append_right _ he⟩ (Z.Yd.off (v := undef) 113 true rfl (by first | (simp; done) | (simp_all; done)) (by intro c h; cases h)) ?_
                                  refine Z.t 16 rfl rfl rfl (by rfl) (by kernel_rfl) ⟨_, hs, by first | (simp; done) | exact fun e he => List.mem_append_right _ he⟩ (Z.Yd.off (v := undef) 113 true rfl (by first | (simp; done) | (simp_all; done)) (by intro c h; cases h)) ?_
                                  refine Z.t 17 rfl rfl rfl (by rfl) (by kernel_rfl) ⟨_, hs, by first | (simp; done) | exact fun e he => List.mem_append_right _ he⟩ (Z.Yd.off (v := undef) 113 true rfl (by first | (simp; done) | (simp_all; done)) (by intro c h; cases h)) ?_
                                  refine Z.t 18 rfl rfl rfl (by rfl) (by kernel_rfl) ⟨_, hs, by first | (simp; done) | exact fun e he => List.mem_append_right _ he⟩ (Z.Yd.off (v := undef) 113 true rfl (by first | (simp; done) | (simp_all; done)) (by intro c h; cases h)) ?_
                                  refine Z.t 19 rfl rfl rfl (by rfl) (by kernel_rfl) ⟨_, hs, by first | (simp; done) | exact fun e he => List.mem_append_right _ he⟩ (Z.Yd.off (v := undef) 113 true rfl (by first | (simp; done) | (simp_all; done)) (by intro c h; cases h)) ?_
                                  refine Z.t 20 rfl rfl rfl (by rfl) (by kernel_rfl) ⟨_, hs, by first | (simp; done) | exact fun e he => List.mem_append_right _ he⟩ (Z.Yd.off (v := undef) 113 true rfl (by first | (simp; done) | (simp_all; done)) (by intro c h; cases h)) ?_
                                  refine Z.t 21 rfl rfl rfl (by rfl) (by kernel_rfl) ⟨_, hs, by first | (simp; done) | exact fun e he => List.mem_append_right _ he⟩ (Z.Yd.off (v := undef) 113 true rfl (by first | (simp; done) | (simp_all; done)) (by intro c h; cases h)) ?_
                                  refine Z.yes (s := 103) (b := false) rfl rfl rfl ?_
                                  refine Z.yes (s := 110) (b := false) rfl rfl rfl ?_
                                  refine Z.yes (s := 113) (b := false) rfl rfl rfl ?_
                                  refine Z.tnS 113 true 22 rfl rfl (by kernel_rfl) rfl rfl (by simp) rfl (by rfl) (fun _ => ⟨_, hs, by first | (simp; done) | exact fun e he => List.mem_append_right _ he⟩) ?_
                                  refine Z.t 23 rfl rfl rfl (by rfl) (by kernel_rfl) ⟨_, hs, by first | (simp; done) | exact fun e he => List.mem_append_right _ he⟩ (Z.Yd.off (v := undef) 113 true rfl (by first | (simp; done) | (simp_all; done)) (by intro c h; cases h)) ?_
                                  refine Z.yes (s := 103) (b := false) rfl rfl rfl ?_
                                  refine Z.yes (s := 110) (b := false) rfl rfl rfl ?_
                                  refine Z.yes (s := 113) (b := false) rfl rfl rfl ?_
                                  refine Z.t 24 rfl rfl rfl (by rfl) (by kernel_rfl) ⟨_, hs, by first | (simp; done) | exact fun e he => List.mem_append_right _ he⟩ (Z.Yd.pickF rfl rfl) ?_
                                  refine Z.yes (s := 103) (b := false) rfl rfl rfl ?_
                                  refine Z.yes (s := 110) (b := false) rfl rfl rfl ?_
                                  refine Z.yes (s := 113) (b := false) rfl rfl rfl ?_
                                  refine Z.t 25 rfl rfl rfl (by rfl) (by kernel_rfl) ⟨_, hs, by first | (simp; done) | exact fun e he => List.mem_append_right _ he⟩ (Z.Yd.pickF rfl rfl) ?_
                                  refine Z.td (by rfl) (by kernel_rfl) ?_
                                  refine Z.only [2, 4, 7, 8, 126] rfl ?_
                                  refine Z.nthen ?_
                                  refine Z.cond rfl (fun hc24 => ?_) (fun hc24 => ?_)
                                  · first
                                      | (exfalso; simp at hc24 <;> omega)
                                      | (
                                        (try simp at hc24)
                                        have hok : okNext v1 acc (nkAt l a) = false := by
                                          first
                                          | exact okF1 (by omega)
                                          | exact okF2 (by first | assumption | simpa using hsp110 | simpa using hc24)
                                          | exact okF3 hne hp (by first | assumption | simpa using hc24)
                                        rw [if_neg (by rw [hok]; decide)] at hgo
                                        subst hgo
                                        refine Z.seq ?_
                                        refine Z.region ?_
                                        refine Z.l rfl rfl (by rfl) (Z.keepS hs) (Z.Yd.buildL [(0, 1), (1, 1)] [.int .i64 0, .slice none 0 0] rfl rfl (by intro w; kernel_rfl)) ?_
                                        refine Z.le rfl trivial ?_
                                        first | refine Z.ZO.storeA rfl rfl hs rfl rfl (by kernel_rfl) (by first | (simp [Value.oneCell']; done) | (refine Z.all_one ?_; assumption)) (by first | exact SX.at0 | exact SX.at1 | exact SX.at2 | exact SX.at3 | exact SX.at4 | exact SX.at5 | exact Z.at6 | exact Z.at7 | exact Z.at8 | exact Z.at9 | exact Z.at10 | exact Z.at11 | exact Z.at12) (by rfl) ?_ | refine Z.ZO.storeP rfl rfl hs rfl rfl (by kernel_rfl) (by first | (simp [Value.oneCell']; done) | (refine Z.all_one ?_; assumption)) (by first | exact SX.at0 | exact SX.at1 | exact SX.at2 | exact SX.at3 | exact SX.at4 | exact SX.at5 | exact Z.at6 | exact Z.at7 | exact Z.at8 | exact Z.at9 | exact Z.at10 | exact Z.at11 | exact Z.at12) (by first | decide | (simp; done) | (simp; omega)) ?_ | refine Z.ZO.storePR rfl rfl hs rfl rfl (by kernel_rfl) (by first | (simp [Value.oneCell']; done) | (refine Z.all_one ?_; assumption)) (by first | exact SX.at0 | exact SX.at1 | exact SX.at2 | exact SX.at3 | exact SX.at4 | exact SX.at5 | exact Z.at6 | exact Z.at7 | exact Z.at8 | exact Z.at9 | exact Z.at10 | exact Z.at11 | exact Z.at12) (by first | decide | (simp; done) | (simp; omega)) ?_
                                        clear hs; intro ws hs
                                        simp only [Nat.zero_add, Nat.add_zero, Nat.reduceAdd, Int.reduceToNat, Nat.reduceMul, List.set_cons_zero, List.set_cons_succ, List.setIfInBounds_toArray] at hs
                                        try simp only [Z.putL, Nat.zero_add] at hs
                                        refine Z.lb 1 rfl ?_
                                        refine Z.lnil ?_
                                        refine Z.only [2, 3] rfl ?_
                                        refine Z.nthen ?_
                                        refine Z.ret ?_
                                        repeat (first | refine Z.rthen ?_ | refine Z.rblock ?_ | refine Z.rscope ?_)
                                        -- ret#7
                                        refine Z.out2 (by exact ⟨⟨_, rfl, Z.rvcA hs Try.isAgg24 (by first | ((repeat (first | exact List.mem_cons_self | refine List.mem_cons_of_mem _ ?_ | refine List.mem_append_right _ ?_)); done) | fail) (by exact Try.sizeOf24)⟩, rfl, trivial⟩) ?_
                                        first
                                        | exact ⟨_, rfl, Dec.zero (hs.sub (List.nil_sublist _))⟩
                                        | exact ⟨_, rfl, Aa, ca, ca, rfl, hs.sel [0] (by decide)⟩
                                        )
                                  · first
                                      | (exfalso; simp at hc24 <;> omega)
                                      | (
                                        (try simp at hc24)
                                        have h5 : acc.length < 512 := by omega
                                        have hal : alone v1 (nkAt l a) := by first | assumption | simpa using hsp110
                                        have hok : okNext v1 acc (nkAt l a) = true := by
                                          first
                                          | exact okT2 h5 hal hne hp (by first | assumption | simpa using hc24)
                                          | exact okT1 h5 hal (by first | omega | simpa using hsp113)
                                        rw [if_pos hok] at hgo
                                        refine Z.skip ?_
                                        refine Z.nblock ?_
                                        refine Z.nthen ?_
                                        have hi1 : (if moreAt l a = true then 1 else 0) ≤ 1 := by split <;> omega
                                        have hsn2 : ∀ n ∈ acc ++ [nkAt l a], 0 ≤ n.sn ∧ n.sn ≤ 1023 := by
                                          intro n hn
                                          rcases List.mem_append.1 hn with hn | hn
                                          · exact hsn n hn
                                          · obtain rfl : n = nkAt l a := by simpa using hn
                                            exact hsx
                                        rw [← eM]
                                        exact Z.again (nkA l a, acc ++ [nkAt l a], _, moreAt l a) (by refine ⟨?_, ?_, ?_, ?_, trivial⟩ <;> (first | rfl | (refine Z.lookv rfl ?_; simp; done) | (refine Z.lookv rfl ?_; simp; omega))) ⟨⟨by simp only; omega, by simp only; omega, hsn2, f, by simp only; omega, hgo⟩, hs.sel [0, 1, 2, 3, 4] (by decide)⟩ (by simp only; omega)
                                        )
                                  )
                            )
                      )
              )
        )
  · first
      | (exfalso; simp at hc9 <;> omega)
      | (
        (try simp at hc9)
        refine Z.exit ?_
        refine Z.xthen ?_
        refine Z.xthen ?_
        refine Z.xblock ?_
        refine Z.nthen ?_
        refine Z.seq ?_
        refine Z.seq ?_
        refine Z.region ?_
        obtain ⟨Aa, ca, rfl, -, -, -⟩ := SX.row_slv hs (j := 0) rfl
        obtain ⟨f, rfl⟩ : ∃ f', f = f' + 1 := ⟨f - 1, by omega⟩
        unfold decGo at hgo
        rw [if_pos (by assumption)] at hgo
        refine Z.l rfl rfl (by rfl) (Z.keepS hs) (by first | exact Z.Yd.loadA _ rfl Try.isAgg87 (fun _ => Z.cellsB (by first | ((repeat (first | exact List.mem_cons_self | refine List.mem_cons_of_mem _ ?_ | refine List.mem_append_right _ ?_)); done) | fail)) (by exact Try.sizeOf87) | fail "load 26.0") ?_
        refine Z.le rfl trivial ?_
        refine Z.ZO.call rfl rfl (by rfl) rfl rfl Try.call47 rfl (refend B mb d l a _ (hs.slm (by first | ((repeat (first | exact List.mem_cons_self | refine List.mem_cons_of_mem _ ?_ | refine List.mem_append_right _ ?_)); done) | fail)) (by omega) hmd (by omega) ha) ?_
        rintro v26_1 w26_1 ⟨rfl, hy⟩
        replace hs := hs.call hy
        clear hy
        try simp only [List.cons_append, List.nil_append, List.append_nil] at hs
        refine Z.lb 1 rfl ?_
        refine Z.lnil ?_
        refine Z.only [2, 7, 130] rfl ?_
        refine Z.nthen ?_
        refine Z.cond rfl (fun hc26 => ?_) (fun hc26 => ?_)
        · first
            | (exfalso; simp at hc26 <;> omega)
            | (
              (try simp at hc26)
              rw [if_neg (by assumption)] at hgo
              subst hgo
              refine Z.seq ?_
              refine Z.region ?_
              refine Z.l rfl rfl (by rfl) (Z.keepS hs) (Z.Yd.buildL [(0, 1), (1, 1)] [.int .i64 0, .slice none 0 0] rfl rfl (by intro w; kernel_rfl)) ?_
              refine Z.le rfl trivial ?_
              first | refine Z.ZO.storeA rfl rfl hs rfl rfl (by kernel_rfl) (by first | (simp [Value.oneCell']; done) | (refine Z.all_one ?_; assumption)) (by first | exact SX.at0 | exact SX.at1 | exact SX.at2 | exact SX.at3 | exact SX.at4 | exact SX.at5 | exact Z.at6 | exact Z.at7 | exact Z.at8 | exact Z.at9 | exact Z.at10 | exact Z.at11 | exact Z.at12) (by rfl) ?_ | refine Z.ZO.storeP rfl rfl hs rfl rfl (by kernel_rfl) (by first | (simp [Value.oneCell']; done) | (refine Z.all_one ?_; assumption)) (by first | exact SX.at0 | exact SX.at1 | exact SX.at2 | exact SX.at3 | exact SX.at4 | exact SX.at5 | exact Z.at6 | exact Z.at7 | exact Z.at8 | exact Z.at9 | exact Z.at10 | exact Z.at11 | exact Z.at12) (by first | decide | (simp; done) | (simp; omega)) ?_ | refine Z.ZO.storePR rfl rfl hs rfl rfl (by kernel_rfl) (by first | (simp [Value.oneCell']; done) | (refine Z.all_one ?_; assumption)) (by first | exact SX.at0 | exact SX.at1 | exact SX.at2 | exact SX.at3 | exact SX.at4 | exact SX.at5 | exact Z.at6 | exact Z.at7 | exact Z.at8 | exact Z.at9 | exact Z.at10 | exact Z.at11 | exact Z.at12) (by first | decide | (simp; done) | (simp; omega)) ?_
              clear hs; intro ws hs
              simp only [Nat.zero_add, Nat.add_zero, Nat.reduceAdd, Int.reduceToNat, Nat.reduceMul, List.set_cons_zero, List.set_cons_succ, List.setIfInBounds_toArray] at hs
              try simp only [Z.putL, Nat.zero_add] at hs
              refine Z.lb 1 rfl ?_
              refine Z.lnil ?_
              refine Z.only [2, 3] rfl ?_
              refine Z.nthen ?_
              refine Z.ret ?_
              repeat (first | refine Z.rthen ?_ | refine Z.rblock ?_ | refine Z.rscope ?_)
              -- ret#8
              refine Z.out2 (by exact ⟨⟨_, rfl, Z.rvcA hs Try.isAgg24 (by first | ((repeat (first | exact List.mem_cons_self | refine List.mem_cons_of_mem _ ?_ | refine List.mem_append_right _ ?_)); done) | fail) (by exact Try.sizeOf24)⟩, rfl, trivial⟩) ?_
              first
              | exact ⟨_, rfl, Dec.zero (hs.sub (List.nil_sublist _))⟩
              | exact ⟨_, rfl, Aa, ca, ca, rfl, hs.sel [0] (by decide)⟩
              )
        · first
            | (exfalso; simp at hc26 <;> omega)
            | (
              (try simp at hc26)
              rw [if_pos (by assumption)] at hgo
              subst hgo
              refine Z.skip ?_
              refine Z.nthen ?_
              refine Z.seq ?_
              refine Z.region ?_
              refine Z.l rfl rfl (by rfl) (Z.keepS hs) (by first | exact Z.Yd.loadA _ rfl Try.isAgg24 (fun _ => Z.cellsB (by first | ((repeat (first | exact List.mem_cons_self | refine List.mem_cons_of_mem _ ?_ | refine List.mem_append_right _ ?_)); done) | fail)) (by exact Try.sizeOf24) | fail "load 28.0") ?_
              refine Z.le rfl trivial ?_
              first | refine Z.ZO.storeA rfl rfl hs rfl rfl (by kernel_rfl) (by first | (simp [Value.oneCell']; done) | (refine Z.all_one ?_; assumption)) (by first | exact SX.at0 | exact SX.at1 | exact SX.at2 | exact SX.at3 | exact SX.at4 | exact SX.at5 | exact Z.at6 | exact Z.at7 | exact Z.at8 | exact Z.at9 | exact Z.at10 | exact Z.at11 | exact Z.at12) (by rfl) ?_ | refine Z.ZO.storeP rfl rfl hs rfl rfl (by kernel_rfl) (by first | (simp [Value.oneCell']; done) | (refine Z.all_one ?_; assumption)) (by first | exact SX.at0 | exact SX.at1 | exact SX.at2 | exact SX.at3 | exact SX.at4 | exact SX.at5 | exact Z.at6 | exact Z.at7 | exact Z.at8 | exact Z.at9 | exact Z.at10 | exact Z.at11 | exact Z.at12) (by first | decide | (simp; done) | (simp; omega)) ?_ | refine Z.ZO.storePR rfl rfl hs rfl rfl (by kernel_rfl) (by first | (simp [Value.oneCell']; done) | (refine Z.all_one ?_; assumption)) (by first | exact SX.at0 | exact SX.at1 | exact SX.at2 | exact SX.at3 | exact SX.at4 | exact SX.at5 | exact Z.at6 | exact Z.at7 | exact Z.at8 | exact Z.at9 | exact Z.at10 | exact Z.at11 | exact Z.at12) (by first | decide | (simp; done) | (simp; omega)) ?_
              clear hs; intro ws hs
              simp only [Nat.zero_add, Nat.add_zero, Nat.reduceAdd, Int.reduceToNat, Nat.reduceMul, List.set_cons_zero, List.set_cons_succ, List.setIfInBounds_toArray] at hs
              try simp only [Z.putL, Nat.zero_add] at hs
              refine Z.lb 1 rfl ?_
              refine Z.lnil ?_
              refine Z.only [2, 3] rfl ?_
              refine Z.nthen ?_
              refine Z.ret ?_
              -- ret#9
              refine Z.out2 (by exact ⟨⟨_, rfl, Z.rvcA hs Try.isAgg24 (by first | ((repeat (first | exact List.mem_cons_self | refine List.mem_cons_of_mem _ ?_ | refine List.mem_append_right _ ?_)); done) | fail) (by exact Try.sizeOf24)⟩, rfl, trivial⟩) ?_
              first
              | exact ⟨_, rfl, Dec.zero (hs.sub (List.nil_sublist _))⟩
              | exact ⟨_, rfl, Aa, ca, ca, rfl, hs.sel [0] (by decide)⟩
              )
        )
end Go.Proofs.Ytcieclifabbkjaa

/- Status reports shortened. -/
namespace Go.Proofs.Ytcieclifabbkjaa
open Go.RowKit
set_option linter.unusedSimpArgs false
set_option linter.unusedVariables false
--newlaws

theorem Sl.zero {w : World} {A : Option Addr} {xs : List Value} (h : Sl w A xs) (hA : A = none) : xs.length = 0 := by
  subst hA
  rcases Nat.eq_zero_or_pos xs.length with h0 | h0
  · exact h0
  · obtain ⟨b, off, e, -⟩ := h h0
    cases e
theorem nk_flat (l : List NkV) : (l.flatMap NkV.cells).length = l.length * 4 := Z.flat_length (s := 4) nk_len
theorem cloneN (A : Option Addr) (n c : Nat) (l : List NkV) (w : World) (hx : Sl w A (l.flatMap NkV.cells)) (hl : l.length = n) (hn : n ≤ 1000000) :
    Calls Try.prog 48 #[.slice A n c] w (SX.Ret fun v w' => SX.St w [] w' [SX.Ent.row v 45 4 n (l.flatMap NkV.cells)]) := by
  have hs := SX.St.start w
  cases A with
  | none =>
    have hf := Sl.zero hx rfl
    rw [nk_flat] at hf
    obtain rfl : n = 0 := by omega
    have hl0 : l = [] := List.eq_nil_of_length_eq_zero hl
    subst hl0
    refine Z.enter Try.func48 rfl Try.ntmps48 rfl rfl ?_
    refine Z.seq ?_
    refine Z.region ?_
    refine Z.lb 1 rfl ?_
    refine Z.lnil ?_
    refine Z.only [0] rfl ?_
    refine Z.nthen ?_
    refine Z.seq ?_
    refine Z.seq ?_
    refine Z.region ?_
    refine Z.lb 1 rfl ?_
    refine Z.l rfl rfl (by rfl) (Z.keepS hs) (Z.Yd.sliceNil rfl rfl Try.underlying22) ?_
    refine Z.lnil ?_
    refine Z.only [0, 4] rfl ?_
    refine Z.nthen ?_
    refine Z.cond rfl (fun hc1 => ?_) (fun h => absurd h (by simp))
    refine Z.seq ?_
    refine Z.region ?_
    refine Z.lb 1 rfl ?_
    refine Z.lnil ?_
    refine Z.only [2] rfl ?_
    refine Z.nthen ?_
    refine Z.ret ?_
    repeat (first | refine Z.rthen ?_ | refine Z.rblock ?_ | refine Z.rscope ?_)
    -- ret#0
    refine Z.out1 (by exact ⟨rfl, trivial⟩) ?_
    exact ⟨_, rfl, hs.nil _ _⟩
  | some ad =>
    have hf : (l.flatMap NkV.cells).length = n * 4 := by rw [nk_flat, hl]
    have hone : ∀ u ∈ l.flatMap NkV.cells, u.oneCell' = true := fun u hu => by
      obtain ⟨x, -, hx⟩ := List.mem_flatMap.1 hu
      exact nk_one x u hx
    refine Z.enter Try.func48 rfl Try.ntmps48 rfl rfl ?_
    refine Z.seq ?_
    refine Z.region ?_
    refine Z.lb 1 rfl ?_
    refine Z.lnil ?_
    refine Z.only [0] rfl ?_
    refine Z.nthen ?_
    refine Z.seq ?_
    refine Z.seq ?_
    refine Z.region ?_
    refine Z.lb 1 rfl ?_
    refine Z.l rfl rfl (by rfl) (Z.keepS hs) (Z.Yd.sliceNil rfl rfl Try.underlying22) ?_
    refine Z.lnil ?_
    refine Z.only [0, 4] rfl ?_
    refine Z.nthen ?_
    refine Z.cond rfl (fun h => absurd h (by simp)) (fun hc1 => ?_)
    refine Z.skip ?_
    refine Z.nthen ?_
    refine Z.seq ?_
    refine Z.region ?_
    refine Z.le rfl trivial ?_
    refine Z.ZO.empty rfl rfl (by rfl) Try.underlying22 Try.sizeOf45 hs ?_
    clear hs; intro g5 w5 hs
    refine Z.lb 1 rfl ?_
    refine Z.le rfl trivial ?_
    refine Z.ZO.appendG (i0 := Try.t45) (size := 4) (bytes := 32) rfl rfl (by rfl) hs Try.underlying22 (by kernel_rfl) rfl rfl rfl rfl (by decide) rfl rfl (by first | exact SX.at0 | exact SX.at1 | exact SX.at2 | exact SX.at3 | exact SX.at4 | exact SX.at5 | exact Z.at6 | exact Z.at7 | exact Z.at8 | exact Z.at9 | exact Z.at10 | exact Z.at11 | exact Z.at12) (hx.st hs) (by first | rfl | assumption | (simp [ints_length]; done) | (simp [ints_length]; omega)) (by first | exact Z.ints_one | assumption | simp [Value.oneCell']) (by unfold maxLen; omega) (by omega) ?_
    clear hs; intro v7 w7 hs
    simp only [List.set_cons_zero, List.set_cons_succ] at hs
    refine Z.lb 1 rfl ?_
    refine Z.lnil ?_
    refine Z.only [2] rfl ?_
    refine Z.nthen ?_
    refine Z.ret ?_
    -- ret#0
    refine Z.out1 (by exact ⟨rfl, trivial⟩) ?_
    exact ⟨_, rfl, by simpa using hs⟩
/-- what a report is shortened to: the last SN and how many entries stay -/
def szK (l : List NkV) (k : Nat) : Int := (((sizeN (l.take k) + 7) / 8 : Nat) : Int)
def snK (l : List NkV) (k : Nat) : Int := match l[k]? with
  | some x => x.sn
  | none => 0
def fitR (l : List NkV) (n : Int) : Nat → Int × Nat
  | 0 => (snK l 0, 0)
  | k + 1 => if szK l (k + 1) ≤ n ∧ snK l (k + 1) ≠ snK l k then (snK l (k + 1), k + 1) else fitR l n k
def fitK (l : List NkV) (ack n : Int) : Int × Nat := if szK l l.length ≤ n then (ack, l.length) else fitR l n (l.length - 1)
def fitE (l : List NkV) (ack n : Int) : Int := if vldB ack l = true ∧ 0 ≤ n then (if n < 2 then 5 else 0) else 2
theorem fitR_le (l : List NkV) (n : Int) : ∀ k, (fitR l n k).2 ≤ k
  | 0 => Nat.le_refl _
  | k + 1 => by
    unfold fitR
    split
    · exact Nat.le_refl _
    · exact Nat.le_succ_of_le (fitR_le l n k)
theorem szK0 (l : List NkV) : szK l 0 = 2 := by simp [szK, sizeN]
theorem szK_len (l : List NkV) : szK l l.length = (((sizeN l + 7) / 8 : Nat) : Int) := by unfold szK; rw [List.take_length]
theorem fitK_le (l : List NkV) (ack n : Int) : (fitK l ack n).2 ≤ l.length := by
  unfold fitK
  split
  · exact Nat.le_refl _
  · exact Nat.le_trans (fitR_le l n _) (by omega)
theorem fitStep1 {l : List NkV} {n : Int} {k : Nat} (hk : 0 < k) (h : snK l k = snK l (k - 1)) : fitR l n (k - 1) = fitR l n k := by
  obtain ⟨j, rfl⟩ : ∃ j, k = j + 1 := ⟨k - 1, by omega⟩
  rw [show j + 1 - 1 = j from rfl] at h ⊢
  rw [fitR, if_neg (fun hh => hh.2 h)]
theorem fitStep2 {l : List NkV} {n : Int} {k : Nat} (hn : 2 ≤ n) (h : k = 0 ∨ snK l k ≠ snK l (k - 1)) : (szK l k ≤ n ∧ (snK l k, k) = fitR l n k) ∨ (¬ szK l k ≤ n ∧ 1 ≤ k ∧ fitR l n (k - 1) = fitR l n k) := by
  by_cases hz : szK l k ≤ n
  · refine .inl ⟨hz, ?_⟩
    cases k with
    | zero => rfl
    | succ j => rw [fitR, if_pos ⟨hz, h.resolve_left (by omega)⟩]
  · cases k with
    | zero => rw [szK0] at hz; omega
    | succ j =>
      refine .inr ⟨hz, by omega, ?_⟩
      rw [fitR, if_neg (fun hh => hz hh.1)]
      rfl
theorem Sl.pre {w : World} {A : Option Addr} {xs ys : List Value} (h : Sl w A xs) (hp : ys <+: xs) : Sl w A ys := fun h0 => by
  obtain ⟨b, off, e, hb, hc⟩ := h (Nat.lt_of_lt_of_le h0 hp.length_le)
  refine ⟨b, off, e, hb, fun j u hu => hc j u ?_⟩
  obtain ⟨t, rfl⟩ := hp
  rw [List.getElem?_append_left (List.getElem?_eq_some_iff.1 hu).1]
  exact hu
theorem nk_pre (l : List NkV) (j : Nat) : (l.take j).flatMap NkV.cells <+: l.flatMap NkV.cells := ⟨(l.drop j).flatMap NkV.cells, by rw [← List.flatMap_append, List.take_append_drop]⟩
set_option maxHeartbeats 1000000 in
set_option maxRecDepth 100000 in
theorem fit_ok (ack n : Int) (A : Option Addr) (m c : Nat) (l : List NkV) (w : World) (hx : Sl w A (l.flatMap NkV.cells)) (hl : l.length = m) (hm : m ≤ 9223372036854775807) (hv : vldB ack l = true) (hn : 2 ≤ n) :
    Calls Try.prog 20 #[.agg #[.int .i64 ack, .slice A m c], .int .i64 n] w (SX.Ret fun v w' => ∃ B co cc, v = .tuple #[.agg #[.int .i64 (fitK l ack n).1, .slice B (fitK l ack n).2 cc], .int .i64 0] ∧ (fitK l ack n).2 ≤ cc ∧ SX.St w [] w' [SX.Ent.row (.slice B m co) 45 4 m (l.flatMap NkV.cells)]) := by
  have hs := SX.St.start w
  obtain ⟨hack, h512, hst⟩ := vldB_len hv
  have hf := nk_flat l
  refine Z.enter Try.func20 rfl Try.ntmps20 rfl rfl ?_
  refine Z.seq ?_
  refine Z.region ?_
  refine Z.le rfl trivial ?_
  refine Z.ZO.box rfl rfl (by rfl) rfl rfl hs ?_
  clear hs; intro g2 w2 hs
  refine Z.le rfl trivial ?_
  refine Z.ZO.alloc rfl rfl (by rfl) Try.zeroValue24 rfl hs ?_
  clear hs; intro g4 w4 hs
  refine Z.lb 1 rfl ?_
  refine Z.lnil ?_
  refine Z.only [1, 2, 4] rfl ?_
  refine Z.nthen ?_
  refine Z.seq ?_
  refine Z.block ?_
  refine Z.seq ?_
  refine Z.region ?_
  refine Z.l rfl rfl (by rfl) (Z.keepS hs) (by first | exact Z.Yd.loadA _ rfl Try.isAgg24 (fun _ => Z.cellsB (by first | ((repeat (first | exact List.mem_cons_self | refine List.mem_cons_of_mem _ ?_ | refine List.mem_append_right _ ?_)); done) | fail)) (by exact Try.sizeOf24) | fail "load 1.0") ?_
  refine Z.le rfl trivial ?_
  refine Z.ZO.call rfl rfl (by rfl) rfl rfl Try.call14 rfl (svalid_any ack A m c l _ (hx.st (hs.sub (List.nil_sublist _))) hl (by omega)) ?_
  rintro v1_1 w1_1 ⟨rfl, hy⟩
  replace hs := hs.call hy
  clear hy
  try simp only [List.cons_append, List.nil_append, List.append_nil] at hs
  refine Z.lb 2 rfl ?_
  refine Z.yes (s := 12) (b := false) rfl ((by simp [hv])) rfl ?_
  refine Z.lb 2 rfl ?_
  refine Z.yes (s := 12) (b := false) rfl rfl rfl ?_
  refine Z.l rfl rfl (by rfl) (Z.keepS hs) (Z.Yd.pickF rfl rfl) ?_
  refine Z.lb 1 rfl ?_
  refine Z.lnil ?_
  refine Z.only [1, 2, 4, 8] rfl ?_
  refine Z.nthen ?_
  refine Z.cond rfl (fun h => absurd h (by simp; omega)) (fun hc1 => ?_)
  refine Z.seq ?_
  refine Z.region ?_
  refine Z.lb 3 rfl ?_
  refine Z.lnil ?_
  refine Z.only [1, 2, 4, 17] rfl ?_
  refine Z.nthen ?_
  refine Z.cond rfl (fun h => absurd h (by simp; omega)) (fun hc3 => ?_)
  refine Z.skip ?_
  refine Z.nblock ?_
  refine Z.nthen ?_
  refine Z.seq ?_
  refine Z.cutt (ι := Nat × Option Addr × Nat) [1, 2, 4] rfl (fun x => [(6, [], .pointer (some ⟨x.1, 0, none⟩))]) (fun x wr => m ≤ x.2.2 ∧ SX.St w [] wr [SX.Ent.blk x.1 24 #[.int .i64 ack, .slice x.2.1 m x.2.2], SX.Ent.row (.slice x.2.1 m x.2.2) 45 4 m (l.flatMap NkV.cells), SX.Ent.blk g4 24 #[.int .i64 0, .slice none 0 0], SX.Ent.blk g2 24 #[.int .i64 ack, .slice A m c]]) ?_ ?_
  · skip
    refine Z.drawK (fun _ => true) mixed hs ?_
    clear hs; intro wd5 hs
    refine Z.t 0 rfl rfl rfl (by rfl) (by kernel_rfl) ⟨_, hs, by first | (simp; done) | exact fun e he => List.mem_append_right _ he⟩ (Z.Yd.fieldA (m := 0) rfl (by kernel_rfl)) ?_
    refine Z.t 1 rfl rfl rfl (by rfl) (by kernel_rfl) ⟨_, hs, by first | (simp; done) | exact fun e he => List.mem_append_right _ he⟩ (by first | exact Z.Yd.load rfl Try.isAgg3 (fun _ => Z.cellB (by first | ((repeat (first | exact List.mem_cons_self | refine List.mem_cons_of_mem _ ?_ | refine List.mem_append_right _ ?_)); done) | fail) rfl) | exact Z.Yd.load rfl Try.isAgg3 (fun _ => Z.cellO (by assumption) (by simp) (by assumption)) | fail "load 5.1") ?_
    refine Z.t 2 rfl rfl rfl (by rfl) (by kernel_rfl) ⟨_, hs, by first | (simp; done) | exact fun e he => List.mem_append_right _ he⟩ (Z.Yd.fieldA (m := 1) rfl (by kernel_rfl)) ?_
    refine Z.t 3 rfl rfl rfl (by rfl) (by kernel_rfl) ⟨_, hs, by first | (simp; done) | exact fun e he => List.mem_append_right _ he⟩ (by first | exact Z.Yd.load rfl Try.isAgg22 (fun _ => Z.cellB (by first | ((repeat (first | exact List.mem_cons_self | refine List.mem_cons_of_mem _ ?_ | refine List.mem_append_right _ ?_)); done) | fail) rfl) | exact Z.Yd.load rfl Try.isAgg22 (fun _ => Z.cellO (by assumption) (by simp) (by assumption)) | fail "load 5.3") ?_
    refine Z.fork2 4 6 rfl rfl rfl (by kernel_rfl) rfl rfl trivial trivial ?_ ?_
    · skip
      refine Z.ZO.call rfl rfl (by rfl) rfl rfl Try.call48 rfl (cloneN A m c l _ (hx.st (hs.sub (List.nil_sublist _))) hl (by omega)) ?_
      rintro v5_4 w5_4 hy
      replace hs := hs.call hy
      clear hy
      try simp only [List.cons_append, List.nil_append, List.append_nil] at hs
      obtain ⟨Bv, cv, rfl, hcv, -, -⟩ := SX.row_slv hs (j := 0) rfl
      refine Z.tk (Dn := fun _ => true) (i := 4) (fun _ => ⟨_, hs, by first | (simp; done) | exact fun e he => List.mem_append_right _ he⟩) ?_
      refine Z.t 5 rfl rfl rfl (by rfl) (by kernel_rfl) ⟨_, hs, by first | (simp; done) | exact fun e he => List.mem_append_right _ he⟩ (Z.Yd.buildL [(0, 1), (1, 1)] [.int .i64 0, .slice none 0 0] rfl rfl (by intro w; kernel_rfl)) ?_
      refine Z.tn 6 rfl rfl (by kernel_rfl) rfl trivial ?_
      refine Z.ZO.alloc rfl rfl (by rfl) Try.zeroValue24 rfl hs ?_
      clear hs; intro g6 w6 hs
      refine Z.tk (Dn := fun _ => true) (i := 6) (fun _ => ⟨_, hs, by first | (simp; done) | exact fun e he => List.mem_append_right _ he⟩) ?_
      refine Z.tn 7 rfl rfl (by kernel_rfl) rfl trivial ?_
      first | refine Z.ZO.storeA rfl rfl hs rfl rfl (by kernel_rfl) (by first | (simp [Value.oneCell']; done) | (refine Z.all_one ?_; assumption)) (by first | exact SX.at0 | exact SX.at1 | exact SX.at2 | exact SX.at3 | exact SX.at4 | exact SX.at5 | exact Z.at6 | exact Z.at7 | exact Z.at8 | exact Z.at9 | exact Z.at10 | exact Z.at11 | exact Z.at12) (by rfl) ?_ | refine Z.ZO.storeP rfl rfl hs rfl rfl (by kernel_rfl) (by first | (simp [Value.oneCell']; done) | (refine Z.all_one ?_; assumption)) (by first | exact SX.at0 | exact SX.at1 | exact SX.at2 | exact SX.at3 | exact SX.at4 | exact SX.at5 | exact Z.at6 | exact Z.at7 | exact Z.at8 | exact Z.at9 | exact Z.at10 | exact Z.at11 | exact Z.at12) (by first | decide | (simp; done) | (simp; omega)) ?_ | refine Z.ZO.storePR rfl rfl hs rfl rfl (by kernel_rfl) (by first | (simp [Value.oneCell']; done) | (refine Z.all_one ?_; assumption)) (by first | exact SX.at0 | exact SX.at1 | exact SX.at2 | exact SX.at3 | exact SX.at4 | exact SX.at5 | exact Z.at6 | exact Z.at7 | exact Z.at8 | exact Z.at9 | exact Z.at10 | exact Z.at11 | exact Z.at12) (by first | decide | (simp; done) | (simp; omega)) ?_
      clear hs; intro ws hs
      simp only [Nat.zero_add, Nat.add_zero, Nat.reduceAdd, Int.reduceToNat, Nat.reduceMul, List.set_cons_zero, List.set_cons_succ, List.setIfInBounds_toArray] at hs
      try simp only [Z.putL, Nat.zero_add] at hs
      refine Z.tk (Dn := fun _ => true) (i := 7) (fun _ => ⟨_, hs, by first | (simp; done) | exact fun e he => List.mem_append_right _ he⟩) ?_
      refine Z.td (by rfl) (by kernel_rfl) ?_
      refine Z.only [1, 2, 4, 6] rfl ?_
      refine Z.nthen ?_
      exact Z.meet (g6, _, _) (by refine ⟨?_, ?_, ?_, ?_, trivial⟩ <;> (first | rfl | (refine Z.lookv rfl ?_; simp; done) | (refine Z.lookv rfl ?_; simp; omega))) ⟨hcv, by first | exact hs | exact hs.sel [1, 0, 2, 3] (by decide)⟩
    · skip
      refine Z.ZO.alloc rfl rfl (by rfl) Try.zeroValue24 rfl hs ?_
      clear hs; intro g6 w6 hs
      refine Z.tk (Dn := fun _ => true) (i := 6) (fun _ => ⟨_, hs, by first | (simp; done) | exact fun e he => List.mem_append_right _ he⟩) ?_
      refine Z.tn 4 rfl rfl (by kernel_rfl) rfl trivial ?_
      refine Z.ZO.call rfl rfl (by rfl) rfl rfl Try.call48 rfl (cloneN A m c l _ (hx.st (hs.sub (List.nil_sublist _))) hl (by omega)) ?_
      rintro v5_4 w5_4 hy
      replace hs := hs.call hy
      clear hy
      try simp only [List.cons_append, List.nil_append, List.append_nil] at hs
      obtain ⟨Bv, cv, rfl, hcv, -, -⟩ := SX.row_slv hs (j := 0) rfl
      refine Z.tk (Dn := fun _ => true) (i := 4) (fun _ => ⟨_, hs, by first | (simp; done) | exact fun e he => List.mem_append_right _ he⟩) ?_
      refine Z.t 5 rfl rfl rfl (by rfl) (by kernel_rfl) ⟨_, hs, by first | (simp; done) | exact fun e he => List.mem_append_right _ he⟩ (Z.Yd.buildL [(0, 1), (1, 1)] [.int .i64 0, .slice none 0 0] rfl rfl (by intro w; kernel_rfl)) ?_
      refine Z.tn 7 rfl rfl (by kernel_rfl) rfl trivial ?_
      first | refine Z.ZO.storeA rfl rfl hs rfl rfl (by kernel_rfl) (by first | (simp [Value.oneCell']; done) | (refine Z.all_one ?_; assumption)) (by first | exact SX.at0 | exact SX.at1 | exact SX.at2 | exact SX.at3 | exact SX.at4 | exact SX.at5 | exact Z.at6 | exact Z.at7 | exact Z.at8 | exact Z.at9 | exact Z.at10 | exact Z.at11 | exact Z.at12) (by rfl) ?_ | refine Z.ZO.storeP rfl rfl hs rfl rfl (by kernel_rfl) (by first | (simp [Value.oneCell']; done) | (refine Z.all_one ?_; assumption)) (by first | exact SX.at0 | exact SX.at1 | exact SX.at2 | exact SX.at3 | exact SX.at4 | exact SX.at5 | exact Z.at6 | exact Z.at7 | exact Z.at8 | exact Z.at9 | exact Z.at10 | exact Z.at11 | exact Z.at12) (by first | decide | (simp; done) | (simp; omega)) ?_ | refine Z.ZO.storePR rfl rfl hs rfl rfl (by kernel_rfl) (by first | (simp [Value.oneCell']; done) | (refine Z.all_one ?_; assumption)) (by first | exact SX.at0 | exact SX.at1 | exact SX.at2 | exact SX.at3 | exact SX.at4 | exact SX.at5 | exact Z.at6 | exact Z.at7 | exact Z.at8 | exact Z.at9 | exact Z.at10 | exact Z.at11 | exact Z.at12) (by first | decide | (simp; done) | (simp; omega)) ?_
      clear hs; intro ws hs
      simp only [Nat.zero_add, Nat.add_zero, Nat.reduceAdd, Int.reduceToNat, Nat.reduceMul, List.set_cons_zero, List.set_cons_succ, List.setIfInBounds_toArray] at hs
      try simp only [Z.putL, Nat.zero_add] at hs
      refine Z.tk (Dn := fun _ => true) (i := 7) (fun _ => ⟨_, hs, by first | (simp; done) | exact fun e he => List.mem_append_right _ he⟩) ?_
      refine Z.td (by rfl) (by kernel_rfl) ?_
      refine Z.only [1, 2, 4, 6] rfl ?_
      refine Z.nthen ?_
      exact Z.meet (g6, _, _) (by refine ⟨?_, ?_, ?_, ?_, trivial⟩ <;> (first | rfl | (refine Z.lookv rfl ?_; simp; done) | (refine Z.lookv rfl ?_; simp; omega))) ⟨hcv, by first | exact hs | exact hs.sel [1, 0, 2, 3] (by decide)⟩
  · clear hs
    rintro ⟨g6, B, cb⟩ w5 ⟨hcb, hs⟩
    refine Z.only [1, 2, 4, 6] rfl ?_
    (try dsimp only at hs)
    refine Z.seq ?_
    refine Z.seq ?_
    refine Z.region ?_
    refine Z.l rfl rfl (by rfl) (Z.keepS hs) (Z.Yd.fieldA (m := 1) rfl (by kernel_rfl)) ?_
    refine Z.l rfl rfl (by rfl) (Z.keepS hs) (by first | exact Z.Yd.load rfl Try.isAgg22 (fun _ => Z.cellB (by first | ((repeat (first | exact List.mem_cons_self | refine List.mem_cons_of_mem _ ?_ | refine List.mem_append_right _ ?_)); done) | fail) rfl) | exact Z.Yd.load rfl Try.isAgg22 (fun _ => Z.cellO (by assumption) (by simp) (by assumption)) | fail "load 6.1") ?_
    refine Z.l rfl rfl (by rfl) (Z.keepS hs) (Z.Yd.lenS rfl Try.underlying22) ?_
    refine Z.l rfl rfl (by rfl) (Z.keepS hs) (Z.Yd.sub rfl rfl (fun hG => Z.wi64 (by first | omega | (have hG' := Z.gh rfl hG; simp at hG'; omega)))) ?_
    refine Z.lb 1 rfl ?_
    refine Z.lnil ?_
    refine Z.only [1, 2, 4, 6, 7] rfl ?_
    obtain ⟨R, hR⟩ : ∃ R, fitK l ack n = R := ⟨_, rfl⟩
    rw [hR]
    have hJ : (szK l m ≤ n ∧ (ack, m) = R) ∨ (¬ szK l m ≤ n ∧ 1 ≤ m ∧ m ≤ m ∧ fitR l n (m - 1) = R) := by
      rw [← hR, ← hl]
      unfold fitK
      by_cases hz : szK l l.length ≤ n
      · exact .inl ⟨hz, by rw [if_pos hz]⟩
      · refine .inr ⟨hz, ?_, Nat.le_refl _, by rw [if_neg hz]⟩
        rcases Nat.eq_zero_or_pos l.length with h0 | h0
        · rw [h0, szK0] at hz; omega
        · exact h0
    refine Z.nthen ?_
    refine Z.block ?_
    refine Z.loopk (ι := Int × Nat × Nat × Nat) [1, 2, 4, 6] rfl (fun x => [(7, [], .int .i64 ((x.2.2.2 : Int) - 1))]) (fun x wr => (x.2.1 ≤ m ∧ x.2.1 ≤ x.2.2.1 ∧ ((szK l x.2.1 ≤ n ∧ (x.1, x.2.1) = R) ∨ (¬ szK l x.2.1 ≤ n ∧ 1 ≤ x.2.2.2 ∧ x.2.2.2 ≤ x.2.1 ∧ fitR l n (x.2.2.2 - 1) = R))) ∧ SX.St w [] wr [SX.Ent.blk g6 24 #[.int .i64 x.1, .slice B x.2.1 x.2.2.1], SX.Ent.row (.slice B m cb) 45 4 m (l.flatMap NkV.cells), SX.Ent.blk g4 24 #[.int .i64 0, .slice none 0 0], SX.Ent.blk g2 24 #[.int .i64 ack, .slice A m c]]) (fun x => x.2.2.2) (ack, m, cb, m) (by refine ⟨?_, trivial⟩ <;> (first | rfl | (refine Z.lookv rfl ?_; simp; done) | (refine Z.lookv rfl ?_; simp; omega))) ⟨⟨Nat.le_refl _, hcb, hJ⟩, hs⟩ ?_
    clear hs
    rintro ⟨a1, j, cj, K⟩ w6 ⟨⟨hj, hjc, hJ⟩, hs⟩
    refine Z.only [1, 2, 4, 6, 7] rfl ?_
    (try dsimp only at hs)
    dsimp only at hj hjc hJ
    have hsz : szK l j = (((sizeN (l.take j) + 7) / 8 : Nat) : Int) := rfl
    refine Z.seq ?_
    refine Z.seq ?_
    refine Z.region ?_
    refine Z.l rfl rfl (by rfl) (Z.keepS hs) (Z.Yd.fieldA (m := 1) rfl (by kernel_rfl)) ?_
    refine Z.l rfl rfl (by rfl) (Z.keepS hs) (by first | exact Z.Yd.load rfl Try.isAgg22 (fun _ => Z.cellB (by first | ((repeat (first | exact List.mem_cons_self | refine List.mem_cons_of_mem _ ?_ | refine List.mem_append_right _ ?_)); done) | fail) rfl) | exact Z.Yd.load rfl Try.isAgg22 (fun _ => Z.cellO (by assumption) (by simp) (by assumption)) | fail "load 7.1") ?_
    refine Z.le rfl trivial ?_
    refine Z.ZO.call rfl rfl (by rfl) rfl rfl Try.call37 rfl (size_any B j cj (l.take j) _ (Sl.pre (hs.slm (by first | ((repeat (first | exact List.mem_cons_self | refine List.mem_cons_of_mem _ ?_ | refine List.mem_append_right _ ?_)); done) | fail)) (nk_pre l j)) (by simp; omega) (by omega)) ?_
    rintro v7_2 w7_2 ⟨rfl, hy⟩
    replace hs := hs.call hy
    clear hy
    try simp only [List.cons_append, List.nil_append, List.append_nil] at hs
    refine Z.lb 2 rfl ?_
    refine Z.lnil ?_
    refine Z.only [1, 2, 4, 6, 7, 35] rfl ?_
    refine Z.nthen ?_
    refine Z.cond rfl (fun hc7 => ?_) (fun hc7 => ?_)
    · first
        | (exfalso; simp at hc7 <;> omega)
        | (
          (try simp at hc7)
          have hbig : ¬ szK l j ≤ n := by rw [hsz]; omega
          have hJ2 := hJ.resolve_left fun h => hbig h.1
          obtain ⟨-, hK1, hK2, hfr⟩ := hJ2
          obtain ⟨k, rfl⟩ : ∃ k, K = k + 1 := ⟨K - 1, by omega⟩
          rw [show (((k + 1 : Nat) : Int) - 1) = (k : Int) from by omega]
          rw [show k + 1 - 1 = k from rfl] at hfr
          obtain ⟨b, off, rfl, hx2⟩ := hx.sx.some (by omega)
          obtain ⟨x, hxk⟩ : ∃ f, l[k]? = some f := ⟨_, List.getElem?_eq_getElem (by omega)⟩
          have hsk : snK l k = x.sn := by unfold snK; rw [hxk]
          refine Z.skip ?_
          refine Z.nthen ?_
          refine Z.seq ?_
          refine Z.block ?_
          refine Z.seq ?_
          refine Z.seq ?_
          refine Z.drawK (fun _ => true) mixed hs ?_
          clear hs; intro wd9 hs
          refine Z.tb [0, 1, 2] (by kernel_rfl) rfl ⟨_, hs, by first | (simp; done) | exact fun e he => List.mem_append_right _ he⟩ rfl ?_
          refine Z.split (s := 40) rfl (fun hsp40 => ?_) (fun hsp40 => ?_)
          · first
              | (exfalso; simp at hsp40 <;> omega)
              | (
                refine Z.yes (s := 40) (b := true) rfl hsp40 rfl ?_
                (try simp at hsp40)
                obtain ⟨p, hp⟩ : ∃ f, l[k - 1]? = some f := ⟨_, List.getElem?_eq_getElem (by omega)⟩
                have hsp : snK l (k - 1) = p.sn := by unfold snK; rw [hp]
                have hk1 : ((k : Int) - 1) = ((k - 1 : Nat) : Int) := by omega
                refine Z.t 3 rfl rfl rfl (by rfl) (by kernel_rfl) ⟨_, hs, by first | (simp; done) | exact fun e he => List.mem_append_right _ he⟩ (Z.Yd.fieldA (m := 1) rfl (by kernel_rfl)) ?_
                refine Z.t 4 rfl rfl rfl (by rfl) (by kernel_rfl) ⟨_, hs, by first | (simp; done) | exact fun e he => List.mem_append_right _ he⟩ (by first | exact Z.Yd.load rfl Try.isAgg22 (fun _ => Z.cellB (by first | ((repeat (first | exact List.mem_cons_self | refine List.mem_cons_of_mem _ ?_ | refine List.mem_append_right _ ?_)); done) | fail) rfl) | exact Z.Yd.load rfl Try.isAgg22 (fun _ => Z.cellO (by assumption) (by simp) (by assumption)) | fail "load 9.4") ?_
                refine Z.tb [5] (by kernel_rfl) rfl ⟨_, hs, by first | (simp; done) | exact fun e he => List.mem_append_right _ he⟩ rfl ?_
                refine Z.t 6 rfl rfl rfl (by rfl) (by kernel_rfl) ⟨_, hs, by first | (simp; done) | exact fun e he => List.mem_append_right _ he⟩ (Z.Yd.elem rfl rfl Try.underlying22 Try.sizeOf45 (fun hG => ⟨(by first | omega | (have hG' := Z.gh rfl hG; simp at hG'; omega)), (by first | omega | (have hG' := Z.gh rfl hG; simp at hG'; omega))⟩)) ?_
                refine Z.t 7 rfl rfl rfl (by rfl) (by kernel_rfl) ⟨_, hs, by first | (simp; done) | exact fun e he => List.mem_append_right _ he⟩ (Z.Yd.fieldA (m := 0) rfl (by kernel_rfl)) ?_
                refine Z.t 8 rfl rfl rfl (by rfl) (by kernel_rfl) ⟨_, hs, by first | (simp; done) | exact fun e he => List.mem_append_right _ he⟩ (Z.Yd.load rfl Try.isAgg3 (fun _ => Z.cellXf hx2 nk_len hxk rfl)) ?_
                refine Z.t 9 rfl rfl rfl (by rfl) (by kernel_rfl) ⟨_, hs, by first | (simp; done) | exact fun e he => List.mem_append_right _ he⟩ (Z.Yd.fieldA (m := 1) rfl (by kernel_rfl)) ?_
                refine Z.t 10 rfl rfl rfl (by rfl) (by kernel_rfl) ⟨_, hs, by first | (simp; done) | exact fun e he => List.mem_append_right _ he⟩ (by first | exact Z.Yd.load rfl Try.isAgg22 (fun _ => Z.cellB (by first | ((repeat (first | exact List.mem_cons_self | refine List.mem_cons_of_mem _ ?_ | refine List.mem_append_right _ ?_)); done) | fail) rfl) | exact Z.Yd.load rfl Try.isAgg22 (fun _ => Z.cellO (by assumption) (by simp) (by assumption)) | fail "load 9.10") ?_
                refine Z.tb [11] (by kernel_rfl) rfl ⟨_, hs, by first | (simp; done) | exact fun e he => List.mem_append_right _ he⟩ rfl ?_
                refine Z.t 12 rfl rfl rfl (by rfl) (by kernel_rfl) ⟨_, hs, by first | (simp; done) | exact fun e he => List.mem_append_right _ he⟩ (Z.Yd.sub rfl rfl (fun hG => Z.wi64 (by first | omega | (have hG' := Z.gh rfl hG; simp at hG'; omega)))) ?_
                refine Z.t 13 rfl rfl rfl (by rfl) (by kernel_rfl) ⟨_, hs, by first | (simp; done) | exact fun e he => List.mem_append_right _ he⟩ (Z.Yd.elem rfl rfl Try.underlying22 Try.sizeOf45 (fun hG => ⟨(by first | omega | (have hG' := Z.gh rfl hG; simp at hG'; omega)), (by first | omega | (have hG' := Z.gh rfl hG; simp at hG'; omega))⟩)) ?_
                refine Z.t 14 rfl rfl rfl (by rfl) (by kernel_rfl) ⟨_, hs, by first | (simp; done) | exact fun e he => List.mem_append_right _ he⟩ (Z.Yd.fieldA (m := 0) rfl (by kernel_rfl)) ?_
                refine Z.t 15 rfl rfl rfl (by rfl) (by kernel_rfl) ⟨_, hs, by first | (simp; done) | exact fun e he => List.mem_append_right _ he⟩ (Z.Yd.load rfl Try.isAgg3 (fun _ => hk1 ▸ Z.cellXf hx2 nk_len hp rfl)) ?_
                refine Z.tb [16] (by kernel_rfl) rfl ⟨_, hs, by first | (simp; done) | exact fun e he => List.mem_append_right _ he⟩ rfl ?_
                refine Z.yes (s := 40) (b := true) rfl rfl rfl ?_
                refine Z.t 17 rfl rfl rfl (by rfl) (by kernel_rfl) ⟨_, hs, by first | (simp; done) | exact fun e he => List.mem_append_right _ he⟩ (Z.Yd.pickT rfl rfl) ?_
                refine Z.td (by rfl) (by kernel_rfl) ?_
                refine Z.only [1, 2, 4, 6, 7, 55] rfl ?_
                refine Z.nthen ?_
                refine Z.cond rfl (fun hc9 => ?_) (fun hc9 => ?_)
                · first
                    | (exfalso; simp at hc9 <;> omega)
                    | (
                      (try simp at hc9)
                      refine Z.exit ?_
                      refine Z.xthen ?_
                      refine Z.xblock ?_
                      refine Z.nthen ?_
                      refine Z.region ?_
                      refine Z.lb 1 rfl ?_
                      refine Z.l rfl rfl (by rfl) (Z.keepS hs) (Z.Yd.sub rfl rfl (fun hG => Z.wi64 (by first | omega | (have hG' := Z.gh rfl hG; simp at hG'; omega)))) ?_
                      refine Z.lb 1 rfl ?_
                      refine Z.lnil ?_
                      refine Z.only [1, 2, 4, 6, 7] rfl ?_
                      refine Z.nthen ?_
                      first
                      | (have hst1 := fitStep1 (l := l) (n := n) (k := k) (by omega) (by rw [hsk, hsp]; assumption)
                         exact Z.again (a1, j, cj, k) (by refine ⟨?_, ?_, ?_, ?_, ?_, trivial⟩ <;> (first | rfl | (refine Z.lookv rfl ?_; simp; done) | (refine Z.lookv rfl ?_; simp; omega))) ⟨⟨hj, hjc, .inr ⟨hbig, by simp only; omega, by simp only; omega, hst1.trans hfr⟩⟩, hs⟩ (by simp only; omega))
                      | (have hne : k = 0 ∨ snK l k ≠ snK l (k - 1) := by
                           first
                           | exact .inr (by rw [hsk, hsp]; assumption)
                           | exact .inl (by omega)
                         have hst2 : (szK l k ≤ n ∧ (snK l k, k) = R) ∨ (¬ szK l k ≤ n ∧ 1 ≤ k ∧ k ≤ k ∧ fitR l n (k - 1) = R) := by
                           rcases fitStep2 (l := l) (n := n) (k := k) hn hne with ⟨h1, h2⟩ | ⟨h1, h2, h3⟩
                           · exact .inl ⟨h1, h2.trans hfr⟩
                           · exact .inr ⟨h1, h2, by omega, h3.trans hfr⟩
                         rw [hsk] at hst2
                         rw [slA_zero, Nat.sub_zero] at hs
                         exact Z.again (x.sn, k, k, k) (by refine ⟨?_, ?_, ?_, ?_, ?_, trivial⟩ <;> (first | rfl | (refine Z.lookv rfl ?_; simp; done) | (refine Z.lookv rfl ?_; simp; omega))) ⟨⟨by simp only; omega, Nat.le_refl _, hst2⟩, hs⟩ (by simp only; omega))
                      )
                · first
                    | (exfalso; simp at hc9 <;> omega)
                    | (
                      (try simp at hc9)
                      refine Z.skip ?_
                      refine Z.nthen ?_
                      refine Z.drawK (fun j => j != 12) mixed hs ?_
                      clear hs; intro wd10 hs
                      refine Z.t 0 rfl rfl rfl (by rfl) (by kernel_rfl) ⟨_, hs, by first | (simp; done) | exact fun e he => List.mem_append_right _ he⟩ (Z.Yd.fieldA (m := 1) rfl (by kernel_rfl)) ?_
                      refine Z.t 1 rfl rfl rfl (by rfl) (by kernel_rfl) ⟨_, hs, by first | (simp; done) | exact fun e he => List.mem_append_right _ he⟩ (by first | exact Z.Yd.load rfl Try.isAgg22 (fun _ => Z.cellB (by first | ((repeat (first | exact List.mem_cons_self | refine List.mem_cons_of_mem _ ?_ | refine List.mem_append_right _ ?_)); done) | fail) rfl) | exact Z.Yd.load rfl Try.isAgg22 (fun _ => Z.cellO (by assumption) (by simp) (by assumption)) | fail "load 10.1") ?_
                      refine Z.tb [2] (by kernel_rfl) rfl ⟨_, hs, by first | (simp; done) | exact fun e he => List.mem_append_right _ he⟩ rfl ?_
                      refine Z.t 3 rfl rfl rfl (by rfl) (by kernel_rfl) ⟨_, hs, by first | (simp; done) | exact fun e he => List.mem_append_right _ he⟩ (Z.Yd.elem rfl rfl Try.underlying22 Try.sizeOf45 (fun hG => ⟨(by first | omega | (have hG' := Z.gh rfl hG; simp at hG'; omega)), (by first | omega | (have hG' := Z.gh rfl hG; simp at hG'; omega))⟩)) ?_
                      refine Z.t 4 rfl rfl rfl (by rfl) (by kernel_rfl) ⟨_, hs, by first | (simp; done) | exact fun e he => List.mem_append_right _ he⟩ (Z.Yd.fieldA (m := 0) rfl (by kernel_rfl)) ?_
                      refine Z.t 5 rfl rfl rfl (by rfl) (by kernel_rfl) ⟨_, hs, by first | (simp; done) | exact fun e he => List.mem_append_right _ he⟩ (Z.Yd.load rfl Try.isAgg3 (fun _ => Z.cellXf hx2 nk_len hxk rfl)) ?_
                      refine Z.t 6 rfl rfl rfl (by rfl) (by kernel_rfl) ⟨_, hs, by first | (simp; done) | exact fun e he => List.mem_append_right _ he⟩ (Z.Yd.fieldA (m := 1) rfl (by kernel_rfl)) ?_
                      refine Z.t 7 rfl rfl rfl (by rfl) (by kernel_rfl) ⟨_, hs, by first | (simp; done) | exact fun e he => List.mem_append_right _ he⟩ (by first | exact Z.Yd.load rfl Try.isAgg22 (fun _ => Z.cellB (by first | ((repeat (first | exact List.mem_cons_self | refine List.mem_cons_of_mem _ ?_ | refine List.mem_append_right _ ?_)); done) | fail) rfl) | exact Z.Yd.load rfl Try.isAgg22 (fun _ => Z.cellO (by assumption) (by simp) (by assumption)) | fail "load 10.7") ?_
                      refine Z.tb [8, 9] (by kernel_rfl) rfl ⟨_, hs, by first | (simp; done) | exact fun e he => List.mem_append_right _ he⟩ rfl ?_
                      refine Z.t 10 rfl rfl rfl (by rfl) (by kernel_rfl) ⟨_, hs, by first | (simp; done) | exact fun e he => List.mem_append_right _ he⟩ (Z.Yd.cut3 0 k k rfl rfl rfl rfl Try.underlying22 Try.sizeOf45 (fun hG => ⟨(by first | omega | (have hG' := Z.gh rfl hG; simp at hG'; omega)), (by first | omega | (have hG' := Z.gh rfl hG; simp at hG'; omega)), (by first | omega | (have hG' := Z.gh rfl hG; simp at hG'; omega)), (by first | omega | (have hG' := Z.gh rfl hG; simp at hG'; omega)), (by first | omega | (have hG' := Z.gh rfl hG; simp at hG'; omega))⟩)) ?_
                      refine Z.t 11 rfl rfl rfl (by rfl) (by kernel_rfl) ⟨_, hs, by first | (simp; done) | exact fun e he => List.mem_append_right _ he⟩ (Z.Yd.buildL [(0, 1), (1, 1)] [.int .i64 0, .slice none 0 0] rfl rfl (by intro w; kernel_rfl)) ?_
                      refine Z.tn 12 rfl rfl (by kernel_rfl) rfl trivial ?_
                      first | refine Z.ZO.storeA rfl rfl hs rfl rfl (by kernel_rfl) (by first | (simp [Value.oneCell']; done) | (refine Z.all_one ?_; assumption)) (by first | exact SX.at0 | exact SX.at1 | exact SX.at2 | exact SX.at3 | exact SX.at4 | exact SX.at5 | exact Z.at6 | exact Z.at7 | exact Z.at8 | exact Z.at9 | exact Z.at10 | exact Z.at11 | exact Z.at12) (by rfl) ?_ | refine Z.ZO.storeP rfl rfl hs rfl rfl (by kernel_rfl) (by first | (simp [Value.oneCell']; done) | (refine Z.all_one ?_; assumption)) (by first | exact SX.at0 | exact SX.at1 | exact SX.at2 | exact SX.at3 | exact SX.at4 | exact SX.at5 | exact Z.at6 | exact Z.at7 | exact Z.at8 | exact Z.at9 | exact Z.at10 | exact Z.at11 | exact Z.at12) (by first | decide | (simp; done) | (simp; omega)) ?_ | refine Z.ZO.storePR rfl rfl hs rfl rfl (by kernel_rfl) (by first | (simp [Value.oneCell']; done) | (refine Z.all_one ?_; assumption)) (by first | exact SX.at0 | exact SX.at1 | exact SX.at2 | exact SX.at3 | exact SX.at4 | exact SX.at5 | exact Z.at6 | exact Z.at7 | exact Z.at8 | exact Z.at9 | exact Z.at10 | exact Z.at11 | exact Z.at12) (by first | decide | (simp; done) | (simp; omega)) ?_
                      clear hs; intro ws hs
                      simp only [Nat.zero_add, Nat.add_zero, Nat.reduceAdd, Int.reduceToNat, Nat.reduceMul, List.set_cons_zero, List.set_cons_succ, List.setIfInBounds_toArray] at hs
                      try simp only [Z.putL, Nat.zero_add] at hs
                      refine Z.tk (Dn := fun j => j != 12) (i := 12) (fun h => absurd h (by decide)) ?_
                      refine Z.td (by rfl) (by kernel_rfl) ?_
                      refine Z.only [1, 2, 4, 6, 7] rfl ?_
                      refine Z.nblock ?_
                      refine Z.nthen ?_
                      refine Z.region ?_
                      refine Z.lb 1 rfl ?_
                      refine Z.l rfl rfl (by rfl) (Z.keepS hs) (Z.Yd.sub rfl rfl (fun hG => Z.wi64 (by first | omega | (have hG' := Z.gh rfl hG; simp at hG'; omega)))) ?_
                      refine Z.lb 1 rfl ?_
                      refine Z.lnil ?_
                      refine Z.only [1, 2, 4, 6, 7] rfl ?_
                      refine Z.nthen ?_
                      first
                      | (have hst1 := fitStep1 (l := l) (n := n) (k := k) (by omega) (by rw [hsk, hsp]; assumption)
                         exact Z.again (a1, j, cj, k) (by refine ⟨?_, ?_, ?_, ?_, ?_, trivial⟩ <;> (first | rfl | (refine Z.lookv rfl ?_; simp; done) | (refine Z.lookv rfl ?_; simp; omega))) ⟨⟨hj, hjc, .inr ⟨hbig, by simp only; omega, by simp only; omega, hst1.trans hfr⟩⟩, hs⟩ (by simp only; omega))
                      | (have hne : k = 0 ∨ snK l k ≠ snK l (k - 1) := by
                           first
                           | exact .inr (by rw [hsk, hsp]; assumption)
                           | exact .inl (by omega)
                         have hst2 : (szK l k ≤ n ∧ (snK l k, k) = R) ∨ (¬ szK l k ≤ n ∧ 1 ≤ k ∧ k ≤ k ∧ fitR l n (k - 1) = R) := by
                           rcases fitStep2 (l := l) (n := n) (k := k) hn hne with ⟨h1, h2⟩ | ⟨h1, h2, h3⟩
                           · exact .inl ⟨h1, h2.trans hfr⟩
                           · exact .inr ⟨h1, h2, by omega, h3.trans hfr⟩
                         rw [hsk] at hst2
                         rw [slA_zero, Nat.sub_zero] at hs
                         exact Z.again (x.sn, k, k, k) (by refine ⟨?_, ?_, ?_, ?_, ?_, trivial⟩ <;> (first | rfl | (refine Z.lookv rfl ?_; simp; done) | (refine Z.lookv rfl ?_; simp; omega))) ⟨⟨by simp only; omega, Nat.le_refl _, hst2⟩, hs⟩ (by simp only; omega))
                      )
                )
          · first
              | (exfalso; simp at hsp40 <;> omega)
              | (
                refine Z.yes (s := 40) (b := false) rfl hsp40 rfl ?_
                (try simp at hsp40)
                refine Z.t 3 rfl rfl rfl (by rfl) (by kernel_rfl) ⟨_, hs, by first | (simp; done) | exact fun e he => List.mem_append_right _ he⟩ (Z.Yd.off (v := undef) 40 true rfl (by first | (simp; done) | (simp_all; done)) (by intro c h; cases h)) ?_
                refine Z.t 4 rfl rfl rfl (by rfl) (by kernel_rfl) ⟨_, hs, by first | (simp; done) | exact fun e he => List.mem_append_right _ he⟩ (Z.Yd.off (v := undef) 40 true rfl (by first | (simp; done) | (simp_all; done)) (by intro c h; cases h)) ?_
                refine Z.t 5 rfl rfl rfl (by rfl) (by kernel_rfl) ⟨_, hs, by first | (simp; done) | exact fun e he => List.mem_append_right _ he⟩ (Z.Yd.off (v := undef) 40 true rfl (by first | (simp; done) | (simp_all; done)) (by intro c h; cases h)) ?_
                refine Z.t 6 rfl rfl rfl (by rfl) (by kernel_rfl) ⟨_, hs, by first | (simp; done) | exact fun e he => List.mem_append_right _ he⟩ (Z.Yd.off (v := undef) 40 true rfl (by first | (simp; done) | (simp_all; done)) (by intro c h; cases h)) ?_
                refine Z.t 7 rfl rfl rfl (by rfl) (by kernel_rfl) ⟨_, hs, by first | (simp; done) | exact fun e he => List.mem_append_right _ he⟩ (Z.Yd.off (v := undef) 40 true rfl (by first | (simp; done) | (simp_all; done)) (by intro c h; cases h)) ?_
                refine Z.t 8 rfl rfl rfl (by rfl) (by kernel_rfl) ⟨_, hs, by first | (simp; done) | exact fun e he => List.mem_append_right _ he⟩ (Z.Yd.off (v := undef) 40 true rfl (by first | (simp; done) | (simp_all; done)) (by intro c h; cases h)) ?_
                refine Z.t 9 rfl rfl rfl (by rfl) (by kernel_rfl) ⟨_, hs, by first | (simp; done) | exact fun e he => List.mem_append_right _ he⟩ (Z.Yd.off (v := undef) 40 true rfl (by first | (simp; done) | (simp_all; done)) (by intro c h; cases h)) ?_
                refine Z.t 10 rfl rfl rfl (by rfl) (by kernel_rfl) ⟨_, hs, by first | (simp; done) | exact fun e he => List.mem_append_right _ he⟩ (Z.Yd.off (v := undef) 40 true rfl (by first | (simp; done) | (simp_all; done)) (by intro c h; cases h)) ?_
                refine Z.t 11 rfl rfl rfl (by rfl) (by kernel_rfl) ⟨_, hs, by first | (simp; done) | exact fun e he => List.mem_append_right _ he⟩ (Z.Yd.off (v := undef) 40 true rfl (by first | (simp; done) | (simp_all; done)) (by intro c h; cases h)) ?_
                refine Z.t 12 rfl rfl rfl (by rfl) (by kernel_rfl) ⟨_, hs, by first | (simp; done) | exact fun e he => List.mem_append_right _ he⟩ (Z.Yd.off (v := undef) 40 true rfl (by first | (simp; done) | (simp_all; done)) (by intro c h; cases h)) ?_
                refine Z.t 13 rfl rfl rfl (by rfl) (by kernel_rfl) ⟨_, hs, by first | (simp; done) | exact fun e he => List.mem_append_right _ he⟩ (Z.Yd.off (v := undef) 40 true rfl (by first | (simp; done) | (simp_all; done)) (by intro c h; cases h)) ?_
                refine Z.t 14 rfl rfl rfl (by rfl) (by kernel_rfl) ⟨_, hs, by first | (simp; done) | exact fun e he => List.mem_append_right _ he⟩ (Z.Yd.off (v := undef) 40 true rfl (by first | (simp; done) | (simp_all; done)) (by intro c h; cases h)) ?_
                refine Z.t 15 rfl rfl rfl (by rfl) (by kernel_rfl) ⟨_, hs, by first | (simp; done) | exact fun e he => List.mem_append_right _ he⟩ (Z.Yd.off (v := undef) 40 true rfl (by first | (simp; done) | (simp_all; done)) (by intro c h; cases h)) ?_
                refine Z.t 16 rfl rfl rfl (by rfl) (by kernel_rfl) ⟨_, hs, by first | (simp; done) | exact fun e he => List.mem_append_right _ he⟩ (Z.Yd.off (v := undef) 40 true rfl (by first | (simp; done) | (simp_all; done)) (by intro c h; cases h)) ?_
                refine Z.yes (s := 40) (b := false) rfl rfl rfl ?_
                refine Z.t 17 rfl rfl rfl (by rfl) (by kernel_rfl) ⟨_, hs, by first | (simp; done) | exact fun e he => List.mem_append_right _ he⟩ (Z.Yd.pickF rfl rfl) ?_
                refine Z.td (by rfl) (by kernel_rfl) ?_
                refine Z.only [1, 2, 4, 6, 7, 55] rfl ?_
                refine Z.nthen ?_
                refine Z.cond rfl (fun hc9 => ?_) (fun hc9 => ?_)
                · first
                    | (exfalso; simp at hc9 <;> omega)
                    | (
                      (try simp at hc9)
                      refine Z.exit ?_
                      refine Z.xthen ?_
                      refine Z.xblock ?_
                      refine Z.nthen ?_
                      refine Z.region ?_
                      refine Z.lb 1 rfl ?_
                      refine Z.l rfl rfl (by rfl) (Z.keepS hs) (Z.Yd.sub rfl rfl (fun hG => Z.wi64 (by first | omega | (have hG' := Z.gh rfl hG; simp at hG'; omega)))) ?_
                      refine Z.lb 1 rfl ?_
                      refine Z.lnil ?_
                      refine Z.only [1, 2, 4, 6, 7] rfl ?_
                      refine Z.nthen ?_
                      first
                      | (have hst1 := fitStep1 (l := l) (n := n) (k := k) (by omega) (by rw [hsk, hsp]; assumption)
                         exact Z.again (a1, j, cj, k) (by refine ⟨?_, ?_, ?_, ?_, ?_, trivial⟩ <;> (first | rfl | (refine Z.lookv rfl ?_; simp; done) | (refine Z.lookv rfl ?_; simp; omega))) ⟨⟨hj, hjc, .inr ⟨hbig, by simp only; omega, by simp only; omega, hst1.trans hfr⟩⟩, hs⟩ (by simp only; omega))
                      | (have hne : k = 0 ∨ snK l k ≠ snK l (k - 1) := by
                           first
                           | exact .inr (by rw [hsk, hsp]; assumption)
                           | exact .inl (by omega)
                         have hst2 : (szK l k ≤ n ∧ (snK l k, k) = R) ∨ (¬ szK l k ≤ n ∧ 1 ≤ k ∧ k ≤ k ∧ fitR l n (k - 1) = R) := by
                           rcases fitStep2 (l := l) (n := n) (k := k) hn hne with ⟨h1, h2⟩ | ⟨h1, h2, h3⟩
                           · exact .inl ⟨h1, h2.trans hfr⟩
                           · exact .inr ⟨h1, h2, by omega, h3.trans hfr⟩
                         rw [hsk] at hst2
                         rw [slA_zero, Nat.sub_zero] at hs
                         exact Z.again (x.sn, k, k, k) (by refine ⟨?_, ?_, ?_, ?_, ?_, trivial⟩ <;> (first | rfl | (refine Z.lookv rfl ?_; simp; done) | (refine Z.lookv rfl ?_; simp; omega))) ⟨⟨by simp only; omega, Nat.le_refl _, hst2⟩, hs⟩ (by simp only; omega))
                      )
                · first
                    | (exfalso; simp at hc9 <;> omega)
                    | (
                      (try simp at hc9)
                      refine Z.skip ?_
                      refine Z.nthen ?_
                      refine Z.drawK (fun j => j != 12) mixed hs ?_
                      clear hs; intro wd10 hs
                      refine Z.t 0 rfl rfl rfl (by rfl) (by kernel_rfl) ⟨_, hs, by first | (simp; done) | exact fun e he => List.mem_append_right _ he⟩ (Z.Yd.fieldA (m := 1) rfl (by kernel_rfl)) ?_
                      refine Z.t 1 rfl rfl rfl (by rfl) (by kernel_rfl) ⟨_, hs, by first | (simp; done) | exact fun e he => List.mem_append_right _ he⟩ (by first | exact Z.Yd.load rfl Try.isAgg22 (fun _ => Z.cellB (by first | ((repeat (first | exact List.mem_cons_self | refine List.mem_cons_of_mem _ ?_ | refine List.mem_append_right _ ?_)); done) | fail) rfl) | exact Z.Yd.load rfl Try.isAgg22 (fun _ => Z.cellO (by assumption) (by simp) (by assumption)) | fail "load 10.1") ?_
                      refine Z.tb [2] (by kernel_rfl) rfl ⟨_, hs, by first | (simp; done) | exact fun e he => List.mem_append_right _ he⟩ rfl ?_
                      refine Z.t 3 rfl rfl rfl (by rfl) (by kernel_rfl) ⟨_, hs, by first | (simp; done) | exact fun e he => List.mem_append_right _ he⟩ (Z.Yd.elem rfl rfl Try.underlying22 Try.sizeOf45 (fun hG => ⟨(by first | omega | (have hG' := Z.gh rfl hG; simp at hG'; omega)), (by first | omega | (have hG' := Z.gh rfl hG; simp at hG'; omega))⟩)) ?_
                      refine Z.t 4 rfl rfl rfl (by rfl) (by kernel_rfl) ⟨_, hs, by first | (simp; done) | exact fun e he => List.mem_append_right _ he⟩ (Z.Yd.fieldA (m := 0) rfl (by kernel_rfl)) ?_
                      refine Z.t 5 rfl rfl rfl (by rfl) (by kernel_rfl) ⟨_, hs, by first | (simp; done) | exact fun e he => List.mem_append_right _ he⟩ (Z.Yd.load rfl Try.isAgg3 (fun _ => Z.cellXf hx2 nk_len hxk rfl)) ?_
                      refine Z.t 6 rfl rfl rfl (by rfl) (by kernel_rfl) ⟨_, hs, by first | (simp; done) | exact fun e he => List.mem_append_right _ he⟩ (Z.Yd.fieldA (m := 1) rfl (by kernel_rfl)) ?_
                      refine Z.t 7 rfl rfl rfl (by rfl) (by kernel_rfl) ⟨_, hs, by first | (simp; done) | exact fun e he => List.mem_append_right _ he⟩ (by first | exact Z.Yd.load rfl Try.isAgg22 (fun _ => Z.cellB (by first | ((repeat (first | exact List.mem_cons_self | refine List.mem_cons_of_mem _ ?_ | refine List.mem_append_right _ ?_)); done) | fail) rfl) | exact Z.Yd.load rfl Try.isAgg22 (fun _ => Z.cellO (by assumption) (by simp) (by assumption)) | fail "load 10.7") ?_
                      refine Z.tb [8, 9] (by kernel_rfl) rfl ⟨_, hs, by first | (simp; done) | exact fun e he => List.mem_append_right _ he⟩ rfl ?_
                      refine Z.t 10 rfl rfl rfl (by rfl) (by kernel_rfl) ⟨_, hs, by first | (simp; done) | exact fun e he => List.mem_append_right _ he⟩ (Z.Yd.cut3 0 k k rfl rfl rfl rfl Try.underlying22 Try.sizeOf45 (fun hG => ⟨(by first | omega | (have hG' := Z.gh rfl hG; simp at hG'; omega)), (by first | omega | (have hG' := Z.gh rfl hG; simp at hG'; omega)), (by first | omega | (have hG' := Z.gh rfl hG; simp at hG'; omega)), (by first | omega | (have hG' := Z.gh rfl hG; simp at hG'; omega)), (by first | omega | (have hG' := Z.gh rfl hG; simp at hG'; omega))⟩)) ?_
                      refine Z.t 11 rfl rfl rfl (by rfl) (by kernel_rfl) ⟨_, hs, by first | (simp; done) | exact fun e he => List.mem_append_right _ he⟩ (Z.Yd.buildL [(0, 1), (1, 1)] [.int .i64 0, .slice none 0 0] rfl rfl (by intro w; kernel_rfl)) ?_
                      refine Z.tn 12 rfl rfl (by kernel_rfl) rfl trivial ?_
                      first | refine Z.ZO.storeA rfl rfl hs rfl rfl (by kernel_rfl) (by first | (simp [Value.oneCell']; done) | (refine Z.all_one ?_; assumption)) (by first | exact SX.at0 | exact SX.at1 | exact SX.at2 | exact SX.at3 | exact SX.at4 | exact SX.at5 | exact Z.at6 | exact Z.at7 | exact Z.at8 | exact Z.at9 | exact Z.at10 | exact Z.at11 | exact Z.at12) (by rfl) ?_ | refine Z.ZO.storeP rfl rfl hs rfl rfl (by kernel_rfl) (by first | (simp [Value.oneCell']; done) | (refine Z.all_one ?_; assumption)) (by first | exact SX.at0 | exact SX.at1 | exact SX.at2 | exact SX.at3 | exact SX.at4 | exact SX.at5 | exact Z.at6 | exact Z.at7 | exact Z.at8 | exact Z.at9 | exact Z.at10 | exact Z.at11 | exact Z.at12) (by first | decide | (simp; done) | (simp; omega)) ?_ | refine Z.ZO.storePR rfl rfl hs rfl rfl (by kernel_rfl) (by first | (simp [Value.oneCell']; done) | (refine Z.all_one ?_; assumption)) (by first | exact SX.at0 | exact SX.at1 | exact SX.at2 | exact SX.at3 | exact SX.at4 | exact SX.at5 | exact Z.at6 | exact Z.at7 | exact Z.at8 | exact Z.at9 | exact Z.at10 | exact Z.at11 | exact Z.at12) (by first | decide | (simp; done) | (simp; omega)) ?_
                      clear hs; intro ws hs
                      simp only [Nat.zero_add, Nat.add_zero, Nat.reduceAdd, Int.reduceToNat, Nat.reduceMul, List.set_cons_zero, List.set_cons_succ, List.setIfInBounds_toArray] at hs
                      try simp only [Z.putL, Nat.zero_add] at hs
                      refine Z.tk (Dn := fun j => j != 12) (i := 12) (fun h => absurd h (by decide)) ?_
                      refine Z.td (by rfl) (by kernel_rfl) ?_
                      refine Z.only [1, 2, 4, 6, 7] rfl ?_
                      refine Z.nblock ?_
                      refine Z.nthen ?_
                      refine Z.region ?_
                      refine Z.lb 1 rfl ?_
                      refine Z.l rfl rfl (by rfl) (Z.keepS hs) (Z.Yd.sub rfl rfl (fun hG => Z.wi64 (by first | omega | (have hG' := Z.gh rfl hG; simp at hG'; omega)))) ?_
                      refine Z.lb 1 rfl ?_
                      refine Z.lnil ?_
                      refine Z.only [1, 2, 4, 6, 7] rfl ?_
                      refine Z.nthen ?_
                      first
                      | (have hst1 := fitStep1 (l := l) (n := n) (k := k) (by omega) (by rw [hsk, hsp]; assumption)
                         exact Z.again (a1, j, cj, k) (by refine ⟨?_, ?_, ?_, ?_, ?_, trivial⟩ <;> (first | rfl | (refine Z.lookv rfl ?_; simp; done) | (refine Z.lookv rfl ?_; simp; omega))) ⟨⟨hj, hjc, .inr ⟨hbig, by simp only; omega, by simp only; omega, hst1.trans hfr⟩⟩, hs⟩ (by simp only; omega))
                      | (have hne : k = 0 ∨ snK l k ≠ snK l (k - 1) := by
                           first
                           | exact .inr (by rw [hsk, hsp]; assumption)
                           | exact .inl (by omega)
                         have hst2 : (szK l k ≤ n ∧ (snK l k, k) = R) ∨ (¬ szK l k ≤ n ∧ 1 ≤ k ∧ k ≤ k ∧ fitR l n (k - 1) = R) := by
                           rcases fitStep2 (l := l) (n := n) (k := k) hn hne with ⟨h1, h2⟩ | ⟨h1, h2, h3⟩
                           · exact .inl ⟨h1, h2.trans hfr⟩
                           · exact .inr ⟨h1, h2, by omega, h3.trans hfr⟩
                         rw [hsk] at hst2
                         rw [slA_zero, Nat.sub_zero] at hs
                         exact Z.again (x.sn, k, k, k) (by refine ⟨?_, ?_, ?_, ?_, ?_, trivial⟩ <;> (first | rfl | (refine Z.lookv rfl ?_; simp; done) | (refine Z.lookv rfl ?_; simp; omega))) ⟨⟨by simp only; omega, Nat.le_refl _, hst2⟩, hs⟩ (by simp only; omega))
                      )
                )
          )
    · first
        | (exfalso; simp at hc7 <;> omega)
        | (
          (try simp at hc7)
          refine Z.exit ?_
          refine Z.xthen ?_
          refine Z.xthen ?_
          refine Z.xblock ?_
          refine Z.nthen ?_
          refine Z.seq ?_
          refine Z.region ?_
          have hsm : szK l j ≤ n := by rw [hsz]; omega
          obtain ⟨-, rfl⟩ := hJ.resolve_right fun h => h.1 hsm
          refine Z.l rfl rfl (by rfl) (Z.keepS hs) (by first | exact Z.Yd.loadA _ rfl Try.isAgg24 (fun _ => Z.cellsB (by first | ((repeat (first | exact List.mem_cons_self | refine List.mem_cons_of_mem _ ?_ | refine List.mem_append_right _ ?_)); done) | fail)) (by exact Try.sizeOf24) | fail "load 11.0") ?_
          refine Z.le rfl trivial ?_
          first | refine Z.ZO.storeA rfl rfl hs rfl rfl (by kernel_rfl) (by first | (simp [Value.oneCell']; done) | (refine Z.all_one ?_; assumption)) (by first | exact SX.at0 | exact SX.at1 | exact SX.at2 | exact SX.at3 | exact SX.at4 | exact SX.at5 | exact Z.at6 | exact Z.at7 | exact Z.at8 | exact Z.at9 | exact Z.at10 | exact Z.at11 | exact Z.at12) (by rfl) ?_ | refine Z.ZO.storeP rfl rfl hs rfl rfl (by kernel_rfl) (by first | (simp [Value.oneCell']; done) | (refine Z.all_one ?_; assumption)) (by first | exact SX.at0 | exact SX.at1 | exact SX.at2 | exact SX.at3 | exact SX.at4 | exact SX.at5 | exact Z.at6 | exact Z.at7 | exact Z.at8 | exact Z.at9 | exact Z.at10 | exact Z.at11 | exact Z.at12) (by first | decide | (simp; done) | (simp; omega)) ?_ | refine Z.ZO.storePR rfl rfl hs rfl rfl (by kernel_rfl) (by first | (simp [Value.oneCell']; done) | (refine Z.all_one ?_; assumption)) (by first | exact SX.at0 | exact SX.at1 | exact SX.at2 | exact SX.at3 | exact SX.at4 | exact SX.at5 | exact Z.at6 | exact Z.at7 | exact Z.at8 | exact Z.at9 | exact Z.at10 | exact Z.at11 | exact Z.at12) (by first | decide | (simp; done) | (simp; omega)) ?_
          clear hs; intro ws hs
          simp only [Nat.zero_add, Nat.add_zero, Nat.reduceAdd, Int.reduceToNat, Nat.reduceMul, List.set_cons_zero, List.set_cons_succ, List.setIfInBounds_toArray] at hs
          try simp only [Z.putL, Nat.zero_add] at hs
          refine Z.lb 1 rfl ?_
          refine Z.lnil ?_
          refine Z.only [4, 5] rfl ?_
          refine Z.nthen ?_
          refine Z.ret ?_
          -- ret#0
          refine Z.out2 (by exact ⟨⟨_, rfl, Z.rvcA hs Try.isAgg24 (by first | ((repeat (first | exact List.mem_cons_self | refine List.mem_cons_of_mem _ ?_ | refine List.mem_append_right _ ?_)); done) | fail) (by exact Try.sizeOf24)⟩, rfl, trivial⟩) ?_
          exact ⟨_, rfl, B, cb, cj, rfl, hjc, hs.sel [1] (by decide)⟩
          )
end Go.Proofs.Ytcieclifabbkjaa

/- Status reports: Fit's errors, the document's Fit, reports compared. -/
namespace Go.Proofs.Ytcieclifabbkjaa
open Go.RowKit
set_option linter.unusedSimpArgs false
set_option linter.unusedVariables false
--newlaws

theorem fit_arg (ack n : Int) (A : Option Addr) (m c : Nat) (l : List NkV) (w : World) (hx : Sl w A (l.flatMap NkV.cells)) (hl : l.length = m) (hm : m ≤ 9223372036854775807) (h : ¬ (vldB ack l = true ∧ 0 ≤ n)) :
    Calls Try.prog 20 #[.agg #[.int .i64 ack, .slice A m c], .int .i64 n] w (SX.Ret fun v w' => v = .tuple #[.agg #[.int .i64 0, .slice none 0 0], .int .i64 2] ∧ SX.St w [] w' []) := by
  have hs := SX.St.start w
  by_cases hv : vldB ack l = true
  · have hn : n < 0 := by rcases Int.lt_or_le n 0 with h0 | h0; · exact h0
                          · exact absurd ⟨hv, h0⟩ h
    refine Z.enter Try.func20 rfl Try.ntmps20 rfl rfl ?_
    refine Z.seq ?_
    refine Z.region ?_
    refine Z.le rfl trivial ?_
    refine Z.ZO.box rfl rfl (by rfl) rfl rfl hs ?_
    clear hs; intro g2 w2 hs
    refine Z.le rfl trivial ?_
    refine Z.ZO.alloc rfl rfl (by rfl) Try.zeroValue24 rfl hs ?_
    clear hs; intro g4 w4 hs
    refine Z.lb 1 rfl ?_
    refine Z.lnil ?_
    refine Z.only [1, 2, 4] rfl ?_
    refine Z.nthen ?_
    refine Z.seq ?_
    refine Z.block ?_
    refine Z.seq ?_
    refine Z.region ?_
    refine Z.l rfl rfl (by rfl) (Z.keepS hs) (by first | exact Z.Yd.loadA _ rfl Try.isAgg24 (fun _ => Z.cellsB (by first | ((repeat (first | exact List.mem_cons_self | refine List.mem_cons_of_mem _ ?_ | refine List.mem_append_right _ ?_)); done) | fail)) (by exact Try.sizeOf24) | fail "load 1.0") ?_
    refine Z.le rfl trivial ?_
    refine Z.ZO.call rfl rfl (by rfl) rfl rfl Try.call14 rfl (svalid_any ack A m c l _ (hx.st (hs.sub (List.nil_sublist _))) hl (by omega)) ?_
    rintro v1_1 w1_1 ⟨rfl, hy⟩
    replace hs := hs.call hy
    clear hy
    try simp only [List.cons_append, List.nil_append, List.append_nil] at hs
    refine Z.lb 2 rfl ?_
    refine Z.yes (s := 12) (b := false) rfl ((by simp [hv])) rfl ?_
    refine Z.lb 2 rfl ?_
    refine Z.yes (s := 12) (b := false) rfl rfl rfl ?_
    refine Z.l rfl rfl (by rfl) (Z.keepS hs) (Z.Yd.pickF rfl rfl) ?_
    refine Z.lb 1 rfl ?_
    refine Z.lnil ?_
    refine Z.only [1, 2, 4, 8] rfl ?_
    refine Z.nthen ?_
    refine Z.cond rfl (fun hc1 => ?_) (fun h => absurd h (by simp; omega))
    refine Z.seq ?_
    refine Z.region ?_
    refine Z.l rfl rfl (by rfl) (Z.keepS hs) (Z.Yd.buildL [(0, 1), (1, 1)] [.int .i64 0, .slice none 0 0] rfl rfl (by intro w; kernel_rfl)) ?_
    refine Z.le rfl trivial ?_
    first | refine Z.ZO.storeA rfl rfl hs rfl rfl (by kernel_rfl) (by first | (simp [Value.oneCell']; done) | (refine Z.all_one ?_; assumption)) (by first | exact SX.at0 | exact SX.at1 | exact SX.at2 | exact SX.at3 | exact SX.at4 | exact SX.at5 | exact Z.at6 | exact Z.at7 | exact Z.at8 | exact Z.at9 | exact Z.at10 | exact Z.at11 | exact Z.at12) (by rfl) ?_ | refine Z.ZO.storeP rfl rfl hs rfl rfl (by kernel_rfl) (by first | (simp [Value.oneCell']; done) | (refine Z.all_one ?_; assumption)) (by first | exact SX.at0 | exact SX.at1 | exact SX.at2 | exact SX.at3 | exact SX.at4 | exact SX.at5 | exact Z.at6 | exact Z.at7 | exact Z.at8 | exact Z.at9 | exact Z.at10 | exact Z.at11 | exact Z.at12) (by first | decide | (simp; done) | (simp; omega)) ?_ | refine Z.ZO.storePR rfl rfl hs rfl rfl (by kernel_rfl) (by first | (simp [Value.oneCell']; done) | (refine Z.all_one ?_; assumption)) (by first | exact SX.at0 | exact SX.at1 | exact SX.at2 | exact SX.at3 | exact SX.at4 | exact SX.at5 | exact Z.at6 | exact Z.at7 | exact Z.at8 | exact Z.at9 | exact Z.at10 | exact Z.at11 | exact Z.at12) (by first | decide | (simp; done) | (simp; omega)) ?_
    clear hs; intro ws hs
    simp only [Nat.zero_add, Nat.add_zero, Nat.reduceAdd, Int.reduceToNat, Nat.reduceMul, List.set_cons_zero, List.set_cons_succ, List.setIfInBounds_toArray] at hs
    try simp only [Z.putL, Nat.zero_add] at hs
    refine Z.lb 1 rfl ?_
    refine Z.lnil ?_
    refine Z.only [4, 5] rfl ?_
    refine Z.nthen ?_
    refine Z.ret ?_
    repeat (first | refine Z.rthen ?_ | refine Z.rblock ?_ | refine Z.rscope ?_)
    -- ret#0
    refine Z.out2 (by exact ⟨⟨_, rfl, Z.rvcA hs Try.isAgg24 (by first | ((repeat (first | exact List.mem_cons_self | refine List.mem_cons_of_mem _ ?_ | refine List.mem_append_right _ ?_)); done) | fail) (by exact Try.sizeOf24)⟩, rfl, trivial⟩) ?_
    exact ⟨_, rfl, rfl, hs.sub (List.nil_sublist _)⟩
  · skip
    refine Z.enter Try.func20 rfl Try.ntmps20 rfl rfl ?_
    refine Z.seq ?_
    refine Z.region ?_
    refine Z.le rfl trivial ?_
    refine Z.ZO.box rfl rfl (by rfl) rfl rfl hs ?_
    clear hs; intro g2 w2 hs
    refine Z.le rfl trivial ?_
    refine Z.ZO.alloc rfl rfl (by rfl) Try.zeroValue24 rfl hs ?_
    clear hs; intro g4 w4 hs
    refine Z.lb 1 rfl ?_
    refine Z.lnil ?_
    refine Z.only [1, 2, 4] rfl ?_
    refine Z.nthen ?_
    refine Z.seq ?_
    refine Z.block ?_
    refine Z.seq ?_
    refine Z.region ?_
    refine Z.l rfl rfl (by rfl) (Z.keepS hs) (by first | exact Z.Yd.loadA _ rfl Try.isAgg24 (fun _ => Z.cellsB (by first | ((repeat (first | exact List.mem_cons_self | refine List.mem_cons_of_mem _ ?_ | refine List.mem_append_right _ ?_)); done) | fail)) (by exact Try.sizeOf24) | fail "load 1.0") ?_
    refine Z.le rfl trivial ?_
    refine Z.ZO.call rfl rfl (by rfl) rfl rfl Try.call14 rfl (svalid_any ack A m c l _ (hx.st (hs.sub (List.nil_sublist _))) hl (by omega)) ?_
    rintro v1_1 w1_1 ⟨rfl, hy⟩
    replace hs := hs.call hy
    clear hy
    try simp only [List.cons_append, List.nil_append, List.append_nil] at hs
    refine Z.lb 2 rfl ?_
    refine Z.yes (s := 12) (b := true) rfl ((by simp [hv])) rfl ?_
    refine Z.ls rfl rfl rfl (by rfl) ?_
    refine Z.ls rfl rfl rfl (by rfl) ?_
    refine Z.l rfl rfl (by rfl) (Z.keepS hs) (Z.Yd.pickT rfl rfl) ?_
    refine Z.lb 1 rfl ?_
    refine Z.lnil ?_
    refine Z.only [1, 2, 4, 8] rfl ?_
    refine Z.nthen ?_
    refine Z.cond rfl (fun hc1 => ?_) (fun h => absurd h (by simp [hv]))
    refine Z.seq ?_
    refine Z.region ?_
    refine Z.l rfl rfl (by rfl) (Z.keepS hs) (Z.Yd.buildL [(0, 1), (1, 1)] [.int .i64 0, .slice none 0 0] rfl rfl (by intro w; kernel_rfl)) ?_
    refine Z.le rfl trivial ?_
    first | refine Z.ZO.storeA rfl rfl hs rfl rfl (by kernel_rfl) (by first | (simp [Value.oneCell']; done) | (refine Z.all_one ?_; assumption)) (by first | exact SX.at0 | exact SX.at1 | exact SX.at2 | exact SX.at3 | exact SX.at4 | exact SX.at5 | exact Z.at6 | exact Z.at7 | exact Z.at8 | exact Z.at9 | exact Z.at10 | exact Z.at11 | exact Z.at12) (by rfl) ?_ | refine Z.ZO.storeP rfl rfl hs rfl rfl (by kernel_rfl) (by first | (simp [Value.oneCell']; done) | (refine Z.all_one ?_; assumption)) (by first | exact SX.at0 | exact SX.at1 | exact SX.at2 | exact SX.at3 | exact SX.at4 | exact SX.at5 | exact Z.at6 | exact Z.at7 | exact Z.at8 | exact Z.at9 | exact Z.at10 | exact Z.at11 | exact Z.at12) (by first | decide | (simp; done) | (simp; omega)) ?_ | refine Z.ZO.storePR rfl rfl hs rfl rfl (by kernel_rfl) (by first | (simp [Value.oneCell']; done) | (refine Z.all_one ?_; assumption)) (by first | exact SX.at0 | exact SX.at1 | exact SX.at2 | exact SX.at3 | exact SX.at4 | exact SX.at5 | exact Z.at6 | exact Z.at7 | exact Z.at8 | exact Z.at9 | exact Z.at10 | exact Z.at11 | exact Z.at12) (by first | decide | (simp; done) | (simp; omega)) ?_
    clear hs; intro ws hs
    simp only [Nat.zero_add, Nat.add_zero, Nat.reduceAdd, Int.reduceToNat, Nat.reduceMul, List.set_cons_zero, List.set_cons_succ, List.setIfInBounds_toArray] at hs
    try simp only [Z.putL, Nat.zero_add] at hs
    refine Z.lb 1 rfl ?_
    refine Z.lnil ?_
    refine Z.only [4, 5] rfl ?_
    refine Z.nthen ?_
    refine Z.ret ?_
    repeat (first | refine Z.rthen ?_ | refine Z.rblock ?_ | refine Z.rscope ?_)
    -- ret#0
    refine Z.out2 (by exact ⟨⟨_, rfl, Z.rvcA hs Try.isAgg24 (by first | ((repeat (first | exact List.mem_cons_self | refine List.mem_cons_of_mem _ ?_ | refine List.mem_append_right _ ?_)); done) | fail) (by exact Try.sizeOf24)⟩, rfl, trivial⟩) ?_
    exact ⟨_, rfl, rfl, hs.sub (List.nil_sublist _)⟩
theorem fit_short (ack n : Int) (A : Option Addr) (m c : Nat) (l : List NkV) (w : World) (hx : Sl w A (l.flatMap NkV.cells)) (hl : l.length = m) (hm : m ≤ 9223372036854775807) (hv : vldB ack l = true) (hn : 0 ≤ n ∧ n < 2) :
    Calls Try.prog 20 #[.agg #[.int .i64 ack, .slice A m c], .int .i64 n] w (SX.Ret fun v w' => v = .tuple #[.agg #[.int .i64 0, .slice none 0 0], .int .i64 5] ∧ SX.St w [] w' []) := by
  have hs := SX.St.start w
  refine Z.enter Try.func20 rfl Try.ntmps20 rfl rfl ?_
  refine Z.seq ?_
  refine Z.region ?_
  refine Z.le rfl trivial ?_
  refine Z.ZO.box rfl rfl (by rfl) rfl rfl hs ?_
  clear hs; intro g2 w2 hs
  refine Z.le rfl trivial ?_
  refine Z.ZO.alloc rfl rfl (by rfl) Try.zeroValue24 rfl hs ?_
  clear hs; intro g4 w4 hs
  refine Z.lb 1 rfl ?_
  refine Z.lnil ?_
  refine Z.only [1, 2, 4] rfl ?_
  refine Z.nthen ?_
  refine Z.seq ?_
  refine Z.block ?_
  refine Z.seq ?_
  refine Z.region ?_
  refine Z.l rfl rfl (by rfl) (Z.keepS hs) (by first | exact Z.Yd.loadA _ rfl Try.isAgg24 (fun _ => Z.cellsB (by first | ((repeat (first | exact List.mem_cons_self | refine List.mem_cons_of_mem _ ?_ | refine List.mem_append_right _ ?_)); done) | fail)) (by exact Try.sizeOf24) | fail "load 1.0") ?_
  refine Z.le rfl trivial ?_
  refine Z.ZO.call rfl rfl (by rfl) rfl rfl Try.call14 rfl (svalid_any ack A m c l _ (hx.st (hs.sub (List.nil_sublist _))) hl (by omega)) ?_
  rintro v1_1 w1_1 ⟨rfl, hy⟩
  replace hs := hs.call hy
  clear hy
  try simp only [List.cons_append, List.nil_append, List.append_nil] at hs
  refine Z.lb 2 rfl ?_
  refine Z.yes (s := 12) (b := false) rfl ((by simp [hv])) rfl ?_
  refine Z.lb 2 rfl ?_
  refine Z.yes (s := 12) (b := false) rfl rfl rfl ?_
  refine Z.l rfl rfl (by rfl) (Z.keepS hs) (Z.Yd.pickF rfl rfl) ?_
  refine Z.lb 1 rfl ?_
  refine Z.lnil ?_
  refine Z.only [1, 2, 4, 8] rfl ?_
  refine Z.nthen ?_
  refine Z.cond rfl (fun h => absurd h (by simp; omega)) (fun hc1 => ?_)
  refine Z.seq ?_
  refine Z.region ?_
  refine Z.lb 3 rfl ?_
  refine Z.lnil ?_
  refine Z.only [1, 2, 4, 17] rfl ?_
  refine Z.nthen ?_
  refine Z.cond rfl (fun hc3 => ?_) (fun h => absurd h (by simp; omega))
  refine Z.seq ?_
  refine Z.region ?_
  refine Z.l rfl rfl (by rfl) (Z.keepS hs) (Z.Yd.buildL [(0, 1), (1, 1)] [.int .i64 0, .slice none 0 0] rfl rfl (by intro w; kernel_rfl)) ?_
  refine Z.le rfl trivial ?_
  first | refine Z.ZO.storeA rfl rfl hs rfl rfl (by kernel_rfl) (by first | (simp [Value.oneCell']; done) | (refine Z.all_one ?_; assumption)) (by first | exact SX.at0 | exact SX.at1 | exact SX.at2 | exact SX.at3 | exact SX.at4 | exact SX.at5 | exact Z.at6 | exact Z.at7 | exact Z.at8 | exact Z.at9 | exact Z.at10 | exact Z.at11 | exact Z.at12) (by rfl) ?_ | refine Z.ZO.storeP rfl rfl hs rfl rfl (by kernel_rfl) (by first | (simp [Value.oneCell']; done) | (refine Z.all_one ?_; assumption)) (by first | exact SX.at0 | exact SX.at1 | exact SX.at2 | exact SX.at3 | exact SX.at4 | exact SX.at5 | exact Z.at6 | exact Z.at7 | exact Z.at8 | exact Z.at9 | exact Z.at10 | exact Z.at11 | exact Z.at12) (by first | decide | (simp; done) | (simp; omega)) ?_ | refine Z.ZO.storePR rfl rfl hs rfl rfl (by kernel_rfl) (by first | (simp [Value.oneCell']; done) | (refine Z.all_one ?_; assumption)) (by first | exact SX.at0 | exact SX.at1 | exact SX.at2 | exact SX.at3 | exact SX.at4 | exact SX.at5 | exact Z.at6 | exact Z.at7 | exact Z.at8 | exact Z.at9 | exact Z.at10 | exact Z.at11 | exact Z.at12) (by first | decide | (simp; done) | (simp; omega)) ?_
  clear hs; intro ws hs
  simp only [Nat.zero_add, Nat.add_zero, Nat.reduceAdd, Int.reduceToNat, Nat.reduceMul, List.set_cons_zero, List.set_cons_succ, List.setIfInBounds_toArray] at hs
  try simp only [Z.putL, Nat.zero_add] at hs
  refine Z.lb 1 rfl ?_
  refine Z.lnil ?_
  refine Z.only [4, 5] rfl ?_
  refine Z.nthen ?_
  refine Z.ret ?_
  repeat (first | refine Z.rthen ?_ | refine Z.rblock ?_ | refine Z.rscope ?_)
  -- ret#0
  refine Z.out2 (by exact ⟨⟨_, rfl, Z.rvcA hs Try.isAgg24 (by first | ((repeat (first | exact List.mem_cons_self | refine List.mem_cons_of_mem _ ?_ | refine List.mem_append_right _ ?_)); done) | fail) (by exact Try.sizeOf24)⟩, rfl, trivial⟩) ?_
  exact ⟨_, rfl, rfl, hs.sub (List.nil_sublist _)⟩
theorem rfit_arg (ack n : Int) (A : Option Addr) (m c : Nat) (l : List NkV) (w : World) (hx : Sl w A (l.flatMap NkV.cells)) (hl : l.length = m) (hm : m ≤ 9223372036854775807) (h : ¬ (vldB ack l = true ∧ 0 ≤ n)) :
    Calls Try.prog 21 #[.agg #[.int .i64 ack, .slice A m c], .int .i64 n] w (SX.Ret fun v w' => v = .tuple #[.agg #[.int .i64 0, .slice none 0 0], .int .i64 2] ∧ SX.St w [] w' []) := by
  have hs := SX.St.start w
  by_cases hv : vldB ack l = true
  · have hn : n < 0 := by rcases Int.lt_or_le n 0 with h0 | h0; · exact h0
                          · exact absurd ⟨hv, h0⟩ h
    refine Z.enter Try.func21 rfl Try.ntmps21 rfl rfl ?_
    refine Z.seq ?_
    refine Z.region ?_
    refine Z.le rfl trivial ?_
    refine Z.ZO.box rfl rfl (by rfl) rfl rfl hs ?_
    clear hs; intro g2 w2 hs
    refine Z.le rfl trivial ?_
    refine Z.ZO.alloc rfl rfl (by rfl) Try.zeroValue24 rfl hs ?_
    clear hs; intro g4 w4 hs
    refine Z.lb 1 rfl ?_
    refine Z.lnil ?_
    refine Z.only [1, 2, 4] rfl ?_
    refine Z.nthen ?_
    refine Z.seq ?_
    refine Z.seq ?_
    refine Z.region ?_
    refine Z.l rfl rfl (by rfl) (Z.keepS hs) (by first | exact Z.Yd.loadA _ rfl Try.isAgg24 (fun _ => Z.cellsB (by first | ((repeat (first | exact List.mem_cons_self | refine List.mem_cons_of_mem _ ?_ | refine List.mem_append_right _ ?_)); done) | fail)) (by exact Try.sizeOf24) | fail "load 1.0") ?_
    refine Z.le rfl trivial ?_
    refine Z.ZO.call rfl rfl (by rfl) rfl rfl Try.call15 rfl (rsvalid_any ack A m c l _ (hx.st (hs.sub (List.nil_sublist _))) hl (by omega)) ?_
    rintro v1_1 w1_1 ⟨rfl, hy⟩
    replace hs := hs.call hy
    clear hy
    try simp only [List.cons_append, List.nil_append, List.append_nil] at hs
    refine Z.lb 2 rfl ?_
    refine Z.yes (s := 11) (b := false) rfl ((by simp [hv])) rfl ?_
    refine Z.lb 2 rfl ?_
    refine Z.yes (s := 11) (b := false) rfl rfl rfl ?_
    refine Z.l rfl rfl (by rfl) (Z.keepS hs) (Z.Yd.pickF rfl rfl) ?_
    refine Z.lnil ?_
    refine Z.only [1, 2, 4, 14] rfl ?_
    refine Z.nthen ?_
    refine Z.cond rfl (fun hc1 => ?_) (fun h => absurd h (by simp; omega))
    refine Z.seq ?_
    refine Z.region ?_
    refine Z.l rfl rfl (by rfl) (Z.keepS hs) (Z.Yd.buildL [(0, 1), (1, 1)] [.int .i64 0, .slice none 0 0] rfl rfl (by intro w; kernel_rfl)) ?_
    refine Z.le rfl trivial ?_
    first | refine Z.ZO.storeA rfl rfl hs rfl rfl (by kernel_rfl) (by first | (simp [Value.oneCell']; done) | (refine Z.all_one ?_; assumption)) (by first | exact SX.at0 | exact SX.at1 | exact SX.at2 | exact SX.at3 | exact SX.at4 | exact SX.at5 | exact Z.at6 | exact Z.at7 | exact Z.at8 | exact Z.at9 | exact Z.at10 | exact Z.at11 | exact Z.at12) (by rfl) ?_ | refine Z.ZO.storeP rfl rfl hs rfl rfl (by kernel_rfl) (by first | (simp [Value.oneCell']; done) | (refine Z.all_one ?_; assumption)) (by first | exact SX.at0 | exact SX.at1 | exact SX.at2 | exact SX.at3 | exact SX.at4 | exact SX.at5 | exact Z.at6 | exact Z.at7 | exact Z.at8 | exact Z.at9 | exact Z.at10 | exact Z.at11 | exact Z.at12) (by first | decide | (simp; done) | (simp; omega)) ?_ | refine Z.ZO.storePR rfl rfl hs rfl rfl (by kernel_rfl) (by first | (simp [Value.oneCell']; done) | (refine Z.all_one ?_; assumption)) (by first | exact SX.at0 | exact SX.at1 | exact SX.at2 | exact SX.at3 | exact SX.at4 | exact SX.at5 | exact Z.at6 | exact Z.at7 | exact Z.at8 | exact Z.at9 | exact Z.at10 | exact Z.at11 | exact Z.at12) (by first | decide | (simp; done) | (simp; omega)) ?_
    clear hs; intro ws hs
    simp only [Nat.zero_add, Nat.add_zero, Nat.reduceAdd, Int.reduceToNat, Nat.reduceMul, List.set_cons_zero, List.set_cons_succ, List.setIfInBounds_toArray] at hs
    try simp only [Z.putL, Nat.zero_add] at hs
    refine Z.lb 1 rfl ?_
    refine Z.lnil ?_
    refine Z.only [4, 5] rfl ?_
    refine Z.nthen ?_
    refine Z.ret ?_
    repeat (first | refine Z.rthen ?_ | refine Z.rblock ?_ | refine Z.rscope ?_)
    -- ret#0
    refine Z.out2 (by exact ⟨⟨_, rfl, Z.rvcA hs Try.isAgg24 (by first | ((repeat (first | exact List.mem_cons_self | refine List.mem_cons_of_mem _ ?_ | refine List.mem_append_right _ ?_)); done) | fail) (by exact Try.sizeOf24)⟩, rfl, trivial⟩) ?_
    exact ⟨_, rfl, rfl, hs.sub (List.nil_sublist _)⟩
  · skip
    refine Z.enter Try.func21 rfl Try.ntmps21 rfl rfl ?_
    refine Z.seq ?_
    refine Z.region ?_
    refine Z.le rfl trivial ?_
    refine Z.ZO.box rfl rfl (by rfl) rfl rfl hs ?_
    clear hs; intro g2 w2 hs
    refine Z.le rfl trivial ?_
    refine Z.ZO.alloc rfl rfl (by rfl) Try.zeroValue24 rfl hs ?_
    clear hs; intro g4 w4 hs
    refine Z.lb 1 rfl ?_
    refine Z.lnil ?_
    refine Z.only [1, 2, 4] rfl ?_
    refine Z.nthen ?_
    refine Z.seq ?_
    refine Z.seq ?_
    refine Z.region ?_
    refine Z.l rfl rfl (by rfl) (Z.keepS hs) (by first | exact Z.Yd.loadA _ rfl Try.isAgg24 (fun _ => Z.cellsB (by first | ((repeat (first | exact List.mem_cons_self | refine List.mem_cons_of_mem _ ?_ | refine List.mem_append_right _ ?_)); done) | fail)) (by exact Try.sizeOf24) | fail "load 1.0") ?_
    refine Z.le rfl trivial ?_
    refine Z.ZO.call rfl rfl (by rfl) rfl rfl Try.call15 rfl (rsvalid_any ack A m c l _ (hx.st (hs.sub (List.nil_sublist _))) hl (by omega)) ?_
    rintro v1_1 w1_1 ⟨rfl, hy⟩
    replace hs := hs.call hy
    clear hy
    try simp only [List.cons_append, List.nil_append, List.append_nil] at hs
    refine Z.lb 2 rfl ?_
    refine Z.yes (s := 11) (b := true) rfl ((by simp [hv])) rfl ?_
    refine Z.ls rfl rfl rfl (by rfl) ?_
    refine Z.ls rfl rfl rfl (by rfl) ?_
    refine Z.l rfl rfl (by rfl) (Z.keepS hs) (Z.Yd.pickT rfl rfl) ?_
    refine Z.lnil ?_
    refine Z.only [1, 2, 4, 14] rfl ?_
    refine Z.nthen ?_
    refine Z.cond rfl (fun hc1 => ?_) (fun h => absurd h (by simp [hv]))
    refine Z.seq ?_
    refine Z.region ?_
    refine Z.l rfl rfl (by rfl) (Z.keepS hs) (Z.Yd.buildL [(0, 1), (1, 1)] [.int .i64 0, .slice none 0 0] rfl rfl (by intro w; kernel_rfl)) ?_
    refine Z.le rfl trivial ?_
    first | refine Z.ZO.storeA rfl rfl hs rfl rfl (by kernel_rfl) (by first | (simp [Value.oneCell']; done) | (refine Z.all_one ?_; assumption)) (by first | exact SX.at0 | exact SX.at1 | exact SX.at2 | exact SX.at3 | exact SX.at4 | exact SX.at5 | exact Z.at6 | exact Z.at7 | exact Z.at8 | exact Z.at9 | exact Z.at10 | exact Z.at11 | exact Z.at12) (by rfl) ?_ | refine Z.ZO.storeP rfl rfl hs rfl rfl (by kernel_rfl) (by first | (simp [Value.oneCell']; done) | (refine Z.all_one ?_; assumption)) (by first | exact SX.at0 | exact SX.at1 | exact SX.at2 | exact SX.at3 | exact SX.at4 | exact SX.at5 | exact Z.at6 | exact Z.at7 | exact Z.at8 | exact Z.at9 | exact Z.at10 | exact Z.at11 | exact Z.at12) (by first | decide | (simp; done) | (simp; omega)) ?_ | refine Z.ZO.storePR rfl rfl hs rfl rfl (by kernel_rfl) (by first | (simp [Value.oneCell']; done) | (refine Z.all_one ?_; assumption)) (by first | exact SX.at0 | exact SX.at1 | exact SX.at2 | exact SX.at3 | exact SX.at4 | exact SX.at5 | exact Z.at6 | exact Z.at7 | exact Z.at8 | exact Z.at9 | exact Z.at10 | exact Z.at11 | exact Z.at12) (by first | decide | (simp; done) | (simp; omega)) ?_
    clear hs; intro ws hs
    simp only [Nat.zero_add, Nat.add_zero, Nat.reduceAdd, Int.reduceToNat, Nat.reduceMul, List.set_cons_zero, List.set_cons_succ, List.setIfInBounds_toArray] at hs
    try simp only [Z.putL, Nat.zero_add] at hs
    refine Z.lb 1 rfl ?_
    refine Z.lnil ?_
    refine Z.only [4, 5] rfl ?_
    refine Z.nthen ?_
    refine Z.ret ?_
    repeat (first | refine Z.rthen ?_ | refine Z.rblock ?_ | refine Z.rscope ?_)
    -- ret#0
    refine Z.out2 (by exact ⟨⟨_, rfl, Z.rvcA hs Try.isAgg24 (by first | ((repeat (first | exact List.mem_cons_self | refine List.mem_cons_of_mem _ ?_ | refine List.mem_append_right _ ?_)); done) | fail) (by exact Try.sizeOf24)⟩, rfl, trivial⟩) ?_
    exact ⟨_, rfl, rfl, hs.sub (List.nil_sublist _)⟩
theorem rfit_short (ack n : Int) (A : Option Addr) (m c : Nat) (l : List NkV) (w : World) (hx : Sl w A (l.flatMap NkV.cells)) (hl : l.length = m) (hm : m ≤ 9223372036854775807) (hv : vldB ack l = true) (hn : 0 ≤ n ∧ n < 2) :
    Calls Try.prog 21 #[.agg #[.int .i64 ack, .slice A m c], .int .i64 n] w (SX.Ret fun v w' => v = .tuple #[.agg #[.int .i64 0, .slice none 0 0], .int .i64 5] ∧ SX.St w [] w' []) := by
  have hs := SX.St.start w
  refine Z.enter Try.func21 rfl Try.ntmps21 rfl rfl ?_
  refine Z.seq ?_
  refine Z.region ?_
  refine Z.le rfl trivial ?_
  refine Z.ZO.box rfl rfl (by rfl) rfl rfl hs ?_
  clear hs; intro g2 w2 hs
  refine Z.le rfl trivial ?_
  refine Z.ZO.alloc rfl rfl (by rfl) Try.zeroValue24 rfl hs ?_
  clear hs; intro g4 w4 hs
  refine Z.lb 1 rfl ?_
  refine Z.lnil ?_
  refine Z.only [1, 2, 4] rfl ?_
  refine Z.nthen ?_
  refine Z.seq ?_
  refine Z.seq ?_
  refine Z.region ?_
  refine Z.l rfl rfl (by rfl) (Z.keepS hs) (by first | exact Z.Yd.loadA _ rfl Try.isAgg24 (fun _ => Z.cellsB (by first | ((repeat (first | exact List.mem_cons_self | refine List.mem_cons_of_mem _ ?_ | refine List.mem_append_right _ ?_)); done) | fail)) (by exact Try.sizeOf24) | fail "load 1.0") ?_
  refine Z.le rfl trivial ?_
  refine Z.ZO.call rfl rfl (by rfl) rfl rfl Try.call15 rfl (rsvalid_any ack A m c l _ (hx.st (hs.sub (List.nil_sublist _))) hl (by omega)) ?_
  rintro v1_1 w1_1 ⟨rfl, hy⟩
  replace hs := hs.call hy
  clear hy
  try simp only [List.cons_append, List.nil_append, List.append_nil] at hs
  refine Z.lb 2 rfl ?_
  refine Z.yes (s := 11) (b := false) rfl ((by simp [hv])) rfl ?_
  refine Z.lb 2 rfl ?_
  refine Z.yes (s := 11) (b := false) rfl rfl rfl ?_
  refine Z.l rfl rfl (by rfl) (Z.keepS hs) (Z.Yd.pickF rfl rfl) ?_
  refine Z.lnil ?_
  refine Z.only [1, 2, 4, 14] rfl ?_
  refine Z.nthen ?_
  refine Z.cond rfl (fun h => absurd h (by simp; omega)) (fun hc1 => ?_)
  refine Z.skip ?_
  refine Z.nthen ?_
  refine Z.seq ?_
  refine Z.seq ?_
  refine Z.region ?_
  refine Z.lb 2 rfl ?_
  refine Z.lnil ?_
  refine Z.only [1, 2, 4, 17] rfl ?_
  refine Z.nthen ?_
  refine Z.cond rfl (fun hc3 => ?_) (fun h => absurd h (by simp; omega))
  refine Z.seq ?_
  refine Z.region ?_
  refine Z.l rfl rfl (by rfl) (Z.keepS hs) (Z.Yd.buildL [(0, 1), (1, 1)] [.int .i64 0, .slice none 0 0] rfl rfl (by intro w; kernel_rfl)) ?_
  refine Z.le rfl trivial ?_
  first | refine Z.ZO.storeA rfl rfl hs rfl rfl (by kernel_rfl) (by first | (simp [Value.oneCell']; done) | (refine Z.all_one ?_; assumption)) (by first | exact SX.at0 | exact SX.at1 | exact SX.at2 | exact SX.at3 | exact SX.at4 | exact SX.at5 | exact Z.at6 | exact Z.at7 | exact Z.at8 | exact Z.at9 | exact Z.at10 | exact Z.at11 | exact Z.at12) (by rfl) ?_ | refine Z.ZO.storeP rfl rfl hs rfl rfl (by kernel_rfl) (by first | (simp [Value.oneCell']; done) | (refine Z.all_one ?_; assumption)) (by first | exact SX.at0 | exact SX.at1 | exact SX.at2 | exact SX.at3 | exact SX.at4 | exact SX.at5 | exact Z.at6 | exact Z.at7 | exact Z.at8 | exact Z.at9 | exact Z.at10 | exact Z.at11 | exact Z.at12) (by first | decide | (simp; done) | (simp; omega)) ?_ | refine Z.ZO.storePR rfl rfl hs rfl rfl (by kernel_rfl) (by first | (simp [Value.oneCell']; done) | (refine Z.all_one ?_; assumption)) (by first | exact SX.at0 | exact SX.at1 | exact SX.at2 | exact SX.at3 | exact SX.at4 | exact SX.at5 | exact Z.at6 | exact Z.at7 | exact Z.at8 | exact Z.at9 | exact Z.at10 | exact Z.at11 | exact Z.at12) (by first | decide | (simp; done) | (simp; omega)) ?_
  clear hs; intro ws hs
  simp only [Nat.zero_add, Nat.add_zero, Nat.reduceAdd, Int.reduceToNat, Nat.reduceMul, List.set_cons_zero, List.set_cons_succ, List.setIfInBounds_toArray] at hs
  try simp only [Z.putL, Nat.zero_add] at hs
  refine Z.lb 1 rfl ?_
  refine Z.lnil ?_
  refine Z.only [4, 5] rfl ?_
  refine Z.nthen ?_
  refine Z.ret ?_
  repeat (first | refine Z.rthen ?_ | refine Z.rblock ?_ | refine Z.rscope ?_)
  -- ret#0
  refine Z.out2 (by exact ⟨⟨_, rfl, Z.rvcA hs Try.isAgg24 (by first | ((repeat (first | exact List.mem_cons_self | refine List.mem_cons_of_mem _ ?_ | refine List.mem_append_right _ ?_)); done) | fail) (by exact Try.sizeOf24)⟩, rfl, trivial⟩) ?_
  exact ⟨_, rfl, rfl, hs.sub (List.nil_sublist _)⟩
set_option maxHeartbeats 1000000 in
set_option maxRecDepth 100000 in
theorem rfit_ok (ack n : Int) (A : Option Addr) (m c : Nat) (l : List NkV) (w : World) (hx : Sl w A (l.flatMap NkV.cells)) (hl : l.length = m) (hm : m ≤ 9223372036854775807) (hmc : m ≤ c) (hv : vldB ack l = true) (hn : 2 ≤ n) :
    Calls Try.prog 21 #[.agg #[.int .i64 ack, .slice A m c], .int .i64 n] w (SX.Ret fun v w' => (∃ X cc, v = .tuple #[.agg #[.int .i64 (fitK l ack n).1, .slice X (fitK l ack n).2 cc], .int .i64 0] ∧ ∀ W, Sl W A (l.flatMap NkV.cells) → Sl W X ((l.take (fitK l ack n).2).flatMap NkV.cells)) ∧ SX.St w [] w' []) := by
  have hs := SX.St.start w
  obtain ⟨hack, h512, hst⟩ := vldB_len hv
  have hf := nk_flat l
  have hzl := szK_len l
  refine Z.enter Try.func21 rfl Try.ntmps21 rfl rfl ?_
  refine Z.seq ?_
  refine Z.region ?_
  refine Z.le rfl trivial ?_
  refine Z.ZO.box rfl rfl (by rfl) rfl rfl hs ?_
  clear hs; intro g2 w2 hs
  refine Z.le rfl trivial ?_
  refine Z.ZO.alloc rfl rfl (by rfl) Try.zeroValue24 rfl hs ?_
  clear hs; intro g4 w4 hs
  refine Z.lb 1 rfl ?_
  refine Z.lnil ?_
  refine Z.only [1, 2, 4] rfl ?_
  refine Z.nthen ?_
  refine Z.seq ?_
  refine Z.seq ?_
  refine Z.region ?_
  refine Z.l rfl rfl (by rfl) (Z.keepS hs) (by first | exact Z.Yd.loadA _ rfl Try.isAgg24 (fun _ => Z.cellsB (by first | ((repeat (first | exact List.mem_cons_self | refine List.mem_cons_of_mem _ ?_ | refine List.mem_append_right _ ?_)); done) | fail)) (by exact Try.sizeOf24) | fail "load 1.0") ?_
  refine Z.le rfl trivial ?_
  refine Z.ZO.call rfl rfl (by rfl) rfl rfl Try.call15 rfl (rsvalid_any ack A m c l _ (hx.st (hs.sub (List.nil_sublist _))) hl (by omega)) ?_
  rintro v1_1 w1_1 ⟨rfl, hy⟩
  replace hs := hs.call hy
  clear hy
  try simp only [List.cons_append, List.nil_append, List.append_nil] at hs
  refine Z.lb 2 rfl ?_
  refine Z.yes (s := 11) (b := false) rfl ((by simp [hv])) rfl ?_
  refine Z.lb 2 rfl ?_
  refine Z.yes (s := 11) (b := false) rfl rfl rfl ?_
  refine Z.l rfl rfl (by rfl) (Z.keepS hs) (Z.Yd.pickF rfl rfl) ?_
  refine Z.lnil ?_
  refine Z.only [1, 2, 4, 14] rfl ?_
  refine Z.nthen ?_
  refine Z.cond rfl (fun h => absurd h (by simp; omega)) (fun hc1 => ?_)
  refine Z.skip ?_
  refine Z.nthen ?_
  refine Z.seq ?_
  refine Z.seq ?_
  refine Z.region ?_
  refine Z.lb 2 rfl ?_
  refine Z.lnil ?_
  refine Z.only [1, 2, 4, 17] rfl ?_
  refine Z.nthen ?_
  refine Z.cond rfl (fun h => absurd h (by simp; omega)) (fun hc3 => ?_)
  refine Z.skip ?_
  refine Z.nthen ?_
  refine Z.seq ?_
  refine Z.seq ?_
  refine Z.region ?_
  refine Z.l rfl rfl (by rfl) (Z.keepS hs) (by first | exact Z.Yd.loadA _ rfl Try.isAgg24 (fun _ => Z.cellsB (by first | ((repeat (first | exact List.mem_cons_self | refine List.mem_cons_of_mem _ ?_ | refine List.mem_append_right _ ?_)); done) | fail)) (by exact Try.sizeOf24) | fail "load 5.0") ?_
  refine Z.le rfl trivial ?_
  refine Z.ZO.call rfl rfl (by rfl) rfl rfl Try.call49 rfl (rsize34 ack A m c l _ (hx.st (hs.sub (List.nil_sublist _))) hl (by omega)) ?_
  rintro v5_1 w5_1 ⟨rfl, hy⟩
  replace hs := hs.call hy
  clear hy
  try simp only [List.cons_append, List.nil_append, List.append_nil] at hs
  refine Z.lb 2 rfl ?_
  refine Z.lnil ?_
  refine Z.only [1, 2, 4, 22] rfl ?_
  refine Z.nthen ?_
  refine Z.cond rfl (fun hc5 => ?_) (fun hc5 => ?_)
  · first
      | (exfalso; simp at hc5 <;> omega)
      | (
        (try simp at hc5)
        have e : fitK l ack n = (ack, m) := by unfold fitK; rw [if_pos (by rw [hzl]; omega), hl]
        rw [e]
        refine Z.seq ?_
        refine Z.region ?_
        refine Z.l rfl rfl (by rfl) (Z.keepS hs) (by first | exact Z.Yd.loadA _ rfl Try.isAgg24 (fun _ => Z.cellsB (by first | ((repeat (first | exact List.mem_cons_self | refine List.mem_cons_of_mem _ ?_ | refine List.mem_append_right _ ?_)); done) | fail)) (by exact Try.sizeOf24) | fail "load 6.0") ?_
        refine Z.le rfl trivial ?_
        first | refine Z.ZO.storeA rfl rfl hs rfl rfl (by kernel_rfl) (by first | (simp [Value.oneCell']; done) | (refine Z.all_one ?_; assumption)) (by first | exact SX.at0 | exact SX.at1 | exact SX.at2 | exact SX.at3 | exact SX.at4 | exact SX.at5 | exact Z.at6 | exact Z.at7 | exact Z.at8 | exact Z.at9 | exact Z.at10 | exact Z.at11 | exact Z.at12) (by rfl) ?_ | refine Z.ZO.storeP rfl rfl hs rfl rfl (by kernel_rfl) (by first | (simp [Value.oneCell']; done) | (refine Z.all_one ?_; assumption)) (by first | exact SX.at0 | exact SX.at1 | exact SX.at2 | exact SX.at3 | exact SX.at4 | exact SX.at5 | exact Z.at6 | exact Z.at7 | exact Z.at8 | exact Z.at9 | exact Z.at10 | exact Z.at11 | exact Z.at12) (by first | decide | (simp; done) | (simp; omega)) ?_ | refine Z.ZO.storePR rfl rfl hs rfl rfl (by kernel_rfl) (by first | (simp [Value.oneCell']; done) | (refine Z.all_one ?_; assumption)) (by first | exact SX.at0 | exact SX.at1 | exact SX.at2 | exact SX.at3 | exact SX.at4 | exact SX.at5 | exact Z.at6 | exact Z.at7 | exact Z.at8 | exact Z.at9 | exact Z.at10 | exact Z.at11 | exact Z.at12) (by first | decide | (simp; done) | (simp; omega)) ?_
        clear hs; intro ws hs
        simp only [Nat.zero_add, Nat.add_zero, Nat.reduceAdd, Int.reduceToNat, Nat.reduceMul, List.set_cons_zero, List.set_cons_succ, List.setIfInBounds_toArray] at hs
        try simp only [Z.putL, Nat.zero_add] at hs
        refine Z.lb 1 rfl ?_
        refine Z.lnil ?_
        refine Z.only [4, 5] rfl ?_
        refine Z.nthen ?_
        refine Z.ret ?_
        repeat (first | refine Z.rthen ?_ | refine Z.rblock ?_ | refine Z.rscope ?_)
        -- ret#0
        refine Z.out2 (by exact ⟨⟨_, rfl, Z.rvcA hs Try.isAgg24 (by first | ((repeat (first | exact List.mem_cons_self | refine List.mem_cons_of_mem _ ?_ | refine List.mem_append_right _ ?_)); done) | fail) (by exact Try.sizeOf24)⟩, rfl, trivial⟩) ?_
        first
        | exact ⟨_, rfl, ⟨A, c, rfl, fun W hW => by rw [← hl, List.take_length]; exact hW⟩, hs.sub (List.nil_sublist _)⟩
        | exact ⟨_, rfl, ⟨_, _, rfl, fun W hW => Sl.pre hW (nk_pre l k)⟩, hs.sub (List.nil_sublist _)⟩
        | exact ⟨_, rfl, ⟨none, 0, rfl, fun W hW h0 => absurd h0 (by simp)⟩, hs.sub (List.nil_sublist _)⟩
        )
  · first
      | (exfalso; simp at hc5 <;> omega)
      | (
        (try simp at hc5)
        have hbig : ¬ szK l l.length ≤ n := by rw [hzl]; omega
        have hm1 : 1 ≤ m := by
          rcases Nat.eq_zero_or_pos m with h0 | h0
          · rw [hl, h0, szK0] at hbig; omega
          · exact h0
        obtain ⟨R, hR⟩ : ∃ R, fitK l ack n = R := ⟨_, rfl⟩
        have hRm : fitR l n (m - 1) = R := by rw [← hR]; unfold fitK; rw [if_neg hbig, hl]
        rw [hR]
        obtain ⟨b, off, rfl, hx2⟩ := hx.sx.some (by omega)
        refine Z.skip ?_
        refine Z.nthen ?_
        refine Z.seq ?_
        refine Z.seq ?_
        refine Z.region ?_
        refine Z.l rfl rfl (by rfl) (Z.keepS hs) (Z.Yd.fieldA (m := 1) rfl (by kernel_rfl)) ?_
        refine Z.l rfl rfl (by rfl) (Z.keepS hs) (by first | exact Z.Yd.load rfl Try.isAgg22 (fun _ => Z.cellB (by first | ((repeat (first | exact List.mem_cons_self | refine List.mem_cons_of_mem _ ?_ | refine List.mem_append_right _ ?_)); done) | fail) rfl) | exact Z.Yd.load rfl Try.isAgg22 (fun _ => Z.cellO (by assumption) (by simp) (by assumption)) | fail "load 7.1") ?_
        refine Z.l rfl rfl (by rfl) (Z.keepS hs) (Z.Yd.lenS rfl Try.underlying22) ?_
        refine Z.l rfl rfl (by rfl) (Z.keepS hs) (Z.Yd.sub rfl rfl (fun hG => Z.wi64 (by first | omega | (have hG' := Z.gh rfl hG; simp at hG'; omega)))) ?_
        refine Z.lb 1 rfl ?_
        refine Z.lnil ?_
        refine Z.only [1, 2, 4, 6] rfl ?_
        refine Z.nthen ?_
        refine Z.block ?_
        refine Z.loopk (ι := Nat) [1, 2, 4] rfl (fun k => [(6, [], .int .i64 (k : Int))]) (fun k wr => (k < m ∧ fitR l n k = R) ∧ SX.St w [] wr [SX.Ent.blk g4 24 #[.int .i64 0, .slice none 0 0], SX.Ent.blk g2 24 #[.int .i64 ack, .slice (some ⟨b, off, none⟩) m c]]) (fun k => k) (m - 1) (by refine ⟨?_, trivial⟩ <;> (first | rfl | (refine Z.lookv rfl ?_; simp; done) | (refine Z.lookv rfl ?_; simp; omega))) ⟨⟨by omega, hRm⟩, hs⟩ ?_
        clear hs
        rintro k w8 ⟨⟨hk, hfr⟩, hs⟩
        refine Z.only [1, 2, 4, 6] rfl ?_
        refine Z.seq ?_
        refine Z.seq ?_
        refine Z.region ?_
        refine Z.lb 2 rfl ?_
        refine Z.lnil ?_
        refine Z.only [1, 2, 4, 6, 29] rfl ?_
        refine Z.nthen ?_
        refine Z.cond rfl (fun hc8 => ?_) (fun hc8 => ?_)
        · first
            | (exfalso; simp at hc8 <;> omega)
            | (
              (try simp at hc8)
              obtain ⟨x, hxk⟩ : ∃ f, l[k]? = some f := ⟨_, List.getElem?_eq_getElem (by omega)⟩
              obtain ⟨p, hp⟩ : ∃ f, l[k - 1]? = some f := ⟨_, List.getElem?_eq_getElem (by omega)⟩
              have hsk : snK l k = x.sn := by unfold snK; rw [hxk]
              have hsp : snK l (k - 1) = p.sn := by unfold snK; rw [hp]
              have hk1 : ((k : Int) - 1) = ((k - 1 : Nat) : Int) := by omega
              have hsz : szK l k = (((sizeN (l.take k) + 7) / 8 : Nat) : Int) := rfl
              have hS : Sl w (some ⟨b, off, none⟩) ((l.take k).flatMap NkV.cells) := Sl.pre hx (nk_pre l k)
              have hstep : fitR l n k = if szK l k ≤ n ∧ snK l k ≠ snK l (k - 1) then (snK l k, k) else fitR l n (k - 1) := by
                obtain ⟨j, rfl⟩ : ∃ j, k = j + 1 := ⟨k - 1, by omega⟩
                rfl
              refine Z.skip ?_
              refine Z.nthen ?_
              refine Z.seq ?_
              refine Z.block ?_
              refine Z.seq ?_
              refine Z.drawK (fun j => j != 12) mixed hs ?_
              clear hs; intro wd10 hs
              refine Z.t 0 rfl rfl rfl (by rfl) (by kernel_rfl) ⟨_, hs, by first | (simp; done) | exact fun e he => List.mem_append_right _ he⟩ (Z.Yd.fieldA (m := 1) rfl (by kernel_rfl)) ?_
              refine Z.t 1 rfl rfl rfl (by rfl) (by kernel_rfl) ⟨_, hs, by first | (simp; done) | exact fun e he => List.mem_append_right _ he⟩ (by first | exact Z.Yd.load rfl Try.isAgg22 (fun _ => Z.cellB (by first | ((repeat (first | exact List.mem_cons_self | refine List.mem_cons_of_mem _ ?_ | refine List.mem_append_right _ ?_)); done) | fail) rfl) | exact Z.Yd.load rfl Try.isAgg22 (fun _ => Z.cellO (by assumption) (by simp) (by assumption)) | fail "load 10.1") ?_
              refine Z.tb [2] (by kernel_rfl) rfl ⟨_, hs, by first | (simp; done) | exact fun e he => List.mem_append_right _ he⟩ rfl ?_
              refine Z.t 3 rfl rfl rfl (by rfl) (by kernel_rfl) ⟨_, hs, by first | (simp; done) | exact fun e he => List.mem_append_right _ he⟩ (Z.Yd.elem rfl rfl Try.underlying22 Try.sizeOf45 (fun hG => ⟨(by first | omega | (have hG' := Z.gh rfl hG; simp at hG'; omega)), (by first | omega | (have hG' := Z.gh rfl hG; simp at hG'; omega))⟩)) ?_
              refine Z.t 4 rfl rfl rfl (by rfl) (by kernel_rfl) ⟨_, hs, by first | (simp; done) | exact fun e he => List.mem_append_right _ he⟩ (Z.Yd.fieldA (m := 0) rfl (by kernel_rfl)) ?_
              refine Z.t 5 rfl rfl rfl (by rfl) (by kernel_rfl) ⟨_, hs, by first | (simp; done) | exact fun e he => List.mem_append_right _ he⟩ (Z.Yd.load rfl Try.isAgg3 (fun _ => Z.cellXf hx2 nk_len hxk rfl)) ?_
              refine Z.t 6 rfl rfl rfl (by rfl) (by kernel_rfl) ⟨_, hs, by first | (simp; done) | exact fun e he => List.mem_append_right _ he⟩ (Z.Yd.fieldA (m := 1) rfl (by kernel_rfl)) ?_
              refine Z.t 7 rfl rfl rfl (by rfl) (by kernel_rfl) ⟨_, hs, by first | (simp; done) | exact fun e he => List.mem_append_right _ he⟩ (by first | exact Z.Yd.load rfl Try.isAgg22 (fun _ => Z.cellB (by first | ((repeat (first | exact List.mem_cons_self | refine List.mem_cons_of_mem _ ?_ | refine List.mem_append_right _ ?_)); done) | fail) rfl) | exact Z.Yd.load rfl Try.isAgg22 (fun _ => Z.cellO (by assumption) (by simp) (by assumption)) | fail "load 10.7") ?_
              refine Z.tb [8] (by kernel_rfl) rfl ⟨_, hs, by first | (simp; done) | exact fun e he => List.mem_append_right _ he⟩ rfl ?_
              refine Z.t 9 rfl rfl rfl (by rfl) (by kernel_rfl) ⟨_, hs, by first | (simp; done) | exact fun e he => List.mem_append_right _ he⟩ (Z.Yd.cut 0 k rfl rfl (Z.lvl_some rfl (by intro hG; first | rfl | exact (by first | omega | (have hG' := Z.gh rfl hG; simp at hG'; omega)))) Try.underlying22 Try.sizeOf45 (fun hG => ⟨(by first | omega | (have hG' := Z.gh rfl hG; simp at hG'; omega)), (by first | omega | (have hG' := Z.gh rfl hG; simp at hG'; omega))⟩)) ?_
              refine Z.t 10 rfl rfl rfl (by rfl) (by kernel_rfl) ⟨_, hs, by first | (simp; done) | exact fun e he => List.mem_append_right _ he⟩ (Z.Yd.buildL [(0, 1), (1, 1)] [.int .i64 0, .slice none 0 0] rfl rfl (by intro w; kernel_rfl)) ?_
              refine Z.tn 11 rfl rfl (by kernel_rfl) rfl trivial ?_
              refine Z.ZO.alloc rfl rfl (by rfl) Try.zeroValue24 rfl hs ?_
              clear hs; intro g7 w7 hs
              refine Z.tk (Dn := fun j => j != 12) (i := 11) (fun _ => ⟨_, hs, by first | (simp; done) | exact fun e he => List.mem_append_right _ he⟩) ?_
              refine Z.tn 12 rfl rfl (by kernel_rfl) rfl trivial ?_
              first | refine Z.ZO.storeA rfl rfl hs rfl rfl (by kernel_rfl) (by first | (simp [Value.oneCell']; done) | (refine Z.all_one ?_; assumption)) (by first | exact SX.at0 | exact SX.at1 | exact SX.at2 | exact SX.at3 | exact SX.at4 | exact SX.at5 | exact Z.at6 | exact Z.at7 | exact Z.at8 | exact Z.at9 | exact Z.at10 | exact Z.at11 | exact Z.at12) (by rfl) ?_ | refine Z.ZO.storeP rfl rfl hs rfl rfl (by kernel_rfl) (by first | (simp [Value.oneCell']; done) | (refine Z.all_one ?_; assumption)) (by first | exact SX.at0 | exact SX.at1 | exact SX.at2 | exact SX.at3 | exact SX.at4 | exact SX.at5 | exact Z.at6 | exact Z.at7 | exact Z.at8 | exact Z.at9 | exact Z.at10 | exact Z.at11 | exact Z.at12) (by first | decide | (simp; done) | (simp; omega)) ?_ | refine Z.ZO.storePR rfl rfl hs rfl rfl (by kernel_rfl) (by first | (simp [Value.oneCell']; done) | (refine Z.all_one ?_; assumption)) (by first | exact SX.at0 | exact SX.at1 | exact SX.at2 | exact SX.at3 | exact SX.at4 | exact SX.at5 | exact Z.at6 | exact Z.at7 | exact Z.at8 | exact Z.at9 | exact Z.at10 | exact Z.at11 | exact Z.at12) (by first | decide | (simp; done) | (simp; omega)) ?_
              clear hs; intro ws hs
              simp only [Nat.zero_add, Nat.add_zero, Nat.reduceAdd, Int.reduceToNat, Nat.reduceMul, List.set_cons_zero, List.set_cons_succ, List.setIfInBounds_toArray] at hs
              try simp only [Z.putL, Nat.zero_add] at hs
              refine Z.tk (Dn := fun j => j != 12) (i := 12) (fun h => absurd h (by decide)) ?_
              refine Z.td (by rfl) (by kernel_rfl) ?_
              refine Z.only [1, 2, 4, 6, 7] rfl ?_
              rw [slA_zero, Nat.sub_zero, Nat.sub_zero] at hs
              refine Z.nthen ?_
              refine Z.seq ?_
              refine Z.drawK (fun _ => true) mixed hs ?_
              clear hs; intro wd11 hs
              refine Z.t 0 rfl rfl rfl (by rfl) (by kernel_rfl) ⟨_, hs, by first | (simp; done) | exact fun e he => List.mem_append_right _ he⟩ (by first | exact Z.Yd.loadA _ rfl Try.isAgg24 (fun _ => Z.cellsB (by first | ((repeat (first | exact List.mem_cons_self | refine List.mem_cons_of_mem _ ?_ | refine List.mem_append_right _ ?_)); done) | fail)) (by exact Try.sizeOf24) | fail "load 11.0") ?_
              refine Z.tb [2] (by kernel_rfl) rfl ⟨_, hs, by first | (simp; done) | exact fun e he => List.mem_append_right _ he⟩ rfl ?_
              refine Z.tn 1 rfl rfl (by kernel_rfl) rfl trivial ?_
              refine Z.ZO.call rfl rfl (by rfl) rfl rfl Try.call49 rfl (rsize34 _ _ k _ (l.take k) _ (hS.st (hs.sub (List.nil_sublist _))) (by simp; omega) (by omega)) ?_
              rintro v11_1 w11_1 ⟨rfl, hy⟩
              replace hs := hs.call hy
              clear hy
              try simp only [List.cons_append, List.nil_append, List.append_nil] at hs
              refine Z.tk (Dn := fun _ => true) (i := 1) (fun _ => ⟨_, hs, by first | (simp; done) | exact fun e he => List.mem_append_right _ he⟩) ?_
              refine Z.tb [3, 4] (by kernel_rfl) rfl ⟨_, hs, by first | (simp; done) | exact fun e he => List.mem_append_right _ he⟩ rfl ?_
              refine Z.split (s := 47) rfl (fun hsp47 => ?_) (fun hsp47 => ?_)
              · first
                  | (exfalso; simp at hsp47 <;> omega)
                  | (
                    refine Z.yes (s := 47) (b := true) rfl hsp47 rfl ?_
                    (try simp at hsp47)
                    refine Z.t 5 rfl rfl rfl (by rfl) (by kernel_rfl) ⟨_, hs, by first | (simp; done) | exact fun e he => List.mem_append_right _ he⟩ (Z.Yd.fieldA (m := 1) rfl (by kernel_rfl)) ?_
                    refine Z.t 6 rfl rfl rfl (by rfl) (by kernel_rfl) ⟨_, hs, by first | (simp; done) | exact fun e he => List.mem_append_right _ he⟩ (by first | exact Z.Yd.load rfl Try.isAgg22 (fun _ => Z.cellB (by first | ((repeat (first | exact List.mem_cons_self | refine List.mem_cons_of_mem _ ?_ | refine List.mem_append_right _ ?_)); done) | fail) rfl) | exact Z.Yd.load rfl Try.isAgg22 (fun _ => Z.cellO (by assumption) (by simp) (by assumption)) | fail "load 11.6") ?_
                    refine Z.tb [7] (by kernel_rfl) rfl ⟨_, hs, by first | (simp; done) | exact fun e he => List.mem_append_right _ he⟩ rfl ?_
                    refine Z.t 8 rfl rfl rfl (by rfl) (by kernel_rfl) ⟨_, hs, by first | (simp; done) | exact fun e he => List.mem_append_right _ he⟩ (Z.Yd.elem rfl rfl Try.underlying22 Try.sizeOf45 (fun hG => ⟨(by first | omega | (have hG' := Z.gh rfl hG; simp at hG'; omega)), (by first | omega | (have hG' := Z.gh rfl hG; simp at hG'; omega))⟩)) ?_
                    refine Z.t 9 rfl rfl rfl (by rfl) (by kernel_rfl) ⟨_, hs, by first | (simp; done) | exact fun e he => List.mem_append_right _ he⟩ (Z.Yd.fieldA (m := 0) rfl (by kernel_rfl)) ?_
                    refine Z.t 10 rfl rfl rfl (by rfl) (by kernel_rfl) ⟨_, hs, by first | (simp; done) | exact fun e he => List.mem_append_right _ he⟩ (Z.Yd.load rfl Try.isAgg3 (fun _ => Z.cellXf hx2 nk_len hxk rfl)) ?_
                    refine Z.t 11 rfl rfl rfl (by rfl) (by kernel_rfl) ⟨_, hs, by first | (simp; done) | exact fun e he => List.mem_append_right _ he⟩ (Z.Yd.fieldA (m := 1) rfl (by kernel_rfl)) ?_
                    refine Z.t 12 rfl rfl rfl (by rfl) (by kernel_rfl) ⟨_, hs, by first | (simp; done) | exact fun e he => List.mem_append_right _ he⟩ (by first | exact Z.Yd.load rfl Try.isAgg22 (fun _ => Z.cellB (by first | ((repeat (first | exact List.mem_cons_self | refine List.mem_cons_of_mem _ ?_ | refine List.mem_append_right _ ?_)); done) | fail) rfl) | exact Z.Yd.load rfl Try.isAgg22 (fun _ => Z.cellO (by assumption) (by simp) (by assumption)) | fail "load 11.12") ?_
                    refine Z.tb [13] (by kernel_rfl) rfl ⟨_, hs, by first | (simp; done) | exact fun e he => List.mem_append_right _ he⟩ rfl ?_
                    refine Z.t 14 rfl rfl rfl (by rfl) (by kernel_rfl) ⟨_, hs, by first | (simp; done) | exact fun e he => List.mem_append_right _ he⟩ (Z.Yd.sub rfl rfl (fun hG => Z.wi64 (by first | omega | (have hG' := Z.gh rfl hG; simp at hG'; omega)))) ?_
                    refine Z.t 15 rfl rfl rfl (by rfl) (by kernel_rfl) ⟨_, hs, by first | (simp; done) | exact fun e he => List.mem_append_right _ he⟩ (Z.Yd.elem rfl rfl Try.underlying22 Try.sizeOf45 (fun hG => ⟨(by first | omega | (have hG' := Z.gh rfl hG; simp at hG'; omega)), (by first | omega | (have hG' := Z.gh rfl hG; simp at hG'; omega))⟩)) ?_
                    refine Z.t 16 rfl rfl rfl (by rfl) (by kernel_rfl) ⟨_, hs, by first | (simp; done) | exact fun e he => List.mem_append_right _ he⟩ (Z.Yd.fieldA (m := 0) rfl (by kernel_rfl)) ?_
                    refine Z.t 17 rfl rfl rfl (by rfl) (by kernel_rfl) ⟨_, hs, by first | (simp; done) | exact fun e he => List.mem_append_right _ he⟩ (Z.Yd.load rfl Try.isAgg3 (fun _ => hk1 ▸ Z.cellXf hx2 nk_len hp rfl)) ?_
                    refine Z.tb [18] (by kernel_rfl) rfl ⟨_, hs, by first | (simp; done) | exact fun e he => List.mem_append_right _ he⟩ rfl ?_
                    refine Z.yes (s := 47) (b := true) rfl rfl rfl ?_
                    refine Z.t 19 rfl rfl rfl (by rfl) (by kernel_rfl) ⟨_, hs, by first | (simp; done) | exact fun e he => List.mem_append_right _ he⟩ (Z.Yd.pickT rfl rfl) ?_
                    refine Z.td (by rfl) (by kernel_rfl) ?_
                    refine Z.only [1, 2, 4, 6, 7, 62] rfl ?_
                    refine Z.nthen ?_
                    refine Z.cond rfl (fun hc11 => ?_) (fun hc11 => ?_)
                    · first
                        | (exfalso; simp at hc11 <;> omega)
                        | (
                          (try simp at hc11)
                          rw [if_pos ⟨by rw [hsz]; omega, by rw [hsk, hsp]; assumption⟩, hsk] at hstep
                          rw [hstep] at hfr
                          subst hfr
                          refine Z.seq ?_
                          refine Z.region ?_
                          refine Z.l rfl rfl (by rfl) (Z.keepS hs) (by first | exact Z.Yd.loadA _ rfl Try.isAgg24 (fun _ => Z.cellsB (by first | ((repeat (first | exact List.mem_cons_self | refine List.mem_cons_of_mem _ ?_ | refine List.mem_append_right _ ?_)); done) | fail)) (by exact Try.sizeOf24) | fail "load 12.0") ?_
                          refine Z.le rfl trivial ?_
                          first | refine Z.ZO.storeA rfl rfl hs rfl rfl (by kernel_rfl) (by first | (simp [Value.oneCell']; done) | (refine Z.all_one ?_; assumption)) (by first | exact SX.at0 | exact SX.at1 | exact SX.at2 | exact SX.at3 | exact SX.at4 | exact SX.at5 | exact Z.at6 | exact Z.at7 | exact Z.at8 | exact Z.at9 | exact Z.at10 | exact Z.at11 | exact Z.at12) (by rfl) ?_ | refine Z.ZO.storeP rfl rfl hs rfl rfl (by kernel_rfl) (by first | (simp [Value.oneCell']; done) | (refine Z.all_one ?_; assumption)) (by first | exact SX.at0 | exact SX.at1 | exact SX.at2 | exact SX.at3 | exact SX.at4 | exact SX.at5 | exact Z.at6 | exact Z.at7 | exact Z.at8 | exact Z.at9 | exact Z.at10 | exact Z.at11 | exact Z.at12) (by first | decide | (simp; done) | (simp; omega)) ?_ | refine Z.ZO.storePR rfl rfl hs rfl rfl (by kernel_rfl) (by first | (simp [Value.oneCell']; done) | (refine Z.all_one ?_; assumption)) (by first | exact SX.at0 | exact SX.at1 | exact SX.at2 | exact SX.at3 | exact SX.at4 | exact SX.at5 | exact Z.at6 | exact Z.at7 | exact Z.at8 | exact Z.at9 | exact Z.at10 | exact Z.at11 | exact Z.at12) (by first | decide | (simp; done) | (simp; omega)) ?_
                          clear hs; intro ws hs
                          simp only [Nat.zero_add, Nat.add_zero, Nat.reduceAdd, Int.reduceToNat, Nat.reduceMul, List.set_cons_zero, List.set_cons_succ, List.setIfInBounds_toArray] at hs
                          try simp only [Z.putL, Nat.zero_add] at hs
                          refine Z.lb 1 rfl ?_
                          refine Z.lnil ?_
                          refine Z.only [4, 5] rfl ?_
                          refine Z.nthen ?_
                          refine Z.ret ?_
                          repeat (first | refine Z.rthen ?_ | refine Z.rblock ?_ | refine Z.rscope ?_)
                          -- ret#1
                          refine Z.out2 (by exact ⟨⟨_, rfl, Z.rvcA hs Try.isAgg24 (by first | ((repeat (first | exact List.mem_cons_self | refine List.mem_cons_of_mem _ ?_ | refine List.mem_append_right _ ?_)); done) | fail) (by exact Try.sizeOf24)⟩, rfl, trivial⟩) ?_
                          first
                          | exact ⟨_, rfl, ⟨A, c, rfl, fun W hW => by rw [← hl, List.take_length]; exact hW⟩, hs.sub (List.nil_sublist _)⟩
                          | exact ⟨_, rfl, ⟨_, _, rfl, fun W hW => Sl.pre hW (nk_pre l k)⟩, hs.sub (List.nil_sublist _)⟩
                          | exact ⟨_, rfl, ⟨none, 0, rfl, fun W hW h0 => absurd h0 (by simp)⟩, hs.sub (List.nil_sublist _)⟩
                          )
                    · first
                        | (exfalso; simp at hc11 <;> omega)
                        | (
                          (try simp at hc11)
                          rw [if_neg (fun hh => by first | (have h1 := hh.1; rw [hsz] at h1; omega) | (have h2 := hh.2; rw [hsk, hsp] at h2; exact h2 (by assumption)))] at hstep
                          refine Z.skip ?_
                          refine Z.nblock ?_
                          refine Z.nthen ?_
                          refine Z.region ?_
                          refine Z.lb 1 rfl ?_
                          refine Z.l rfl rfl (by rfl) (Z.keepS hs) (Z.Yd.sub rfl rfl (fun hG => Z.wi64 (by first | omega | (have hG' := Z.gh rfl hG; simp at hG'; omega)))) ?_
                          refine Z.lb 1 rfl ?_
                          refine Z.lnil ?_
                          refine Z.only [1, 2, 4, 6] rfl ?_
                          refine Z.nthen ?_
                          exact Z.again (k - 1) (by refine ⟨?_, ?_, ?_, ?_, trivial⟩ <;> (first | rfl | (refine Z.lookv rfl ?_; simp; done) | (refine Z.lookv rfl ?_; simp; omega))) ⟨⟨by omega, hstep.symm.trans hfr⟩, hs.tl⟩ (by omega)
                          )
                    )
              · first
                  | (exfalso; simp at hsp47 <;> omega)
                  | (
                    refine Z.yes (s := 47) (b := false) rfl hsp47 rfl ?_
                    (try simp at hsp47)
                    refine Z.t 5 rfl rfl rfl (by rfl) (by kernel_rfl) ⟨_, hs, by first | (simp; done) | exact fun e he => List.mem_append_right _ he⟩ (Z.Yd.off (v := undef) 47 true rfl (by first | (simp; done) | (simp_all; done)) (by intro c h; cases h)) ?_
                    refine Z.t 6 rfl rfl rfl (by rfl) (by kernel_rfl) ⟨_, hs, by first | (simp; done) | exact fun e he => List.mem_append_right _ he⟩ (Z.Yd.off (v := undef) 47 true rfl (by first | (simp; done) | (simp_all; done)) (by intro c h; cases h)) ?_
                    refine Z.t 7 rfl rfl rfl (by rfl) (by kernel_rfl) ⟨_, hs, by first | (simp; done) | exact fun e he => List.mem_append_right _ he⟩ (Z.Yd.off (v := undef) 47 true rfl (by first | (simp; done) | (simp_all; done)) (by intro c h; cases h)) ?_
                    refine Z.t 8 rfl rfl rfl (by rfl) (by kernel_rfl) ⟨_, hs, by first | (simp; done) | exact fun e he => List.mem_append_right _ he⟩ (Z.Yd.off (v := undef) 47 true rfl (by first | (simp; done) | (simp_all; done)) (by intro c h; cases h)) ?_
                    refine Z.t 9 rfl rfl rfl (by rfl) (by kernel_rfl) ⟨_, hs, by first | (simp; done) | exact fun e he => List.mem_append_right _ he⟩ (Z.Yd.off (v := undef) 47 true rfl (by first | (simp; done) | (simp_all; done)) (by intro c h; cases h)) ?_
                    refine Z.t 10 rfl rfl rfl (by rfl) (by kernel_rfl) ⟨_, hs, by first | (simp; done) | exact fun e he => List.mem_append_right _ he⟩ (Z.Yd.off (v := undef) 47 true rfl (by first | (simp; done) | (simp_all; done)) (by intro c h; cases h)) ?_
                    refine Z.t 11 rfl rfl rfl (by rfl) (by kernel_rfl) ⟨_, hs, by first | (simp; done) | exact fun e he => List.mem_append_right _ he⟩ (Z.Yd.off (v := undef) 47 true rfl (by first | (simp; done) | (simp_all; done)) (by intro c h; cases h)) ?_
                    refine Z.t 12 rfl rfl rfl (by rfl) (by kernel_rfl) ⟨_, hs, by first | (simp; done) | exact fun e he => List.mem_append_right _ he⟩ (Z.Yd.off (v := undef) 47 true rfl (by first | (simp; done) | (simp_all; done)) (by intro c h; cases h)) ?_
                    refine Z.t 13 rfl rfl rfl (by rfl) (by kernel_rfl) ⟨_, hs, by first | (simp; done) | exact fun e he => List.mem_append_right _ he⟩ (Z.Yd.off (v := undef) 47 true rfl (by first | (simp; done) | (simp_all; done)) (by intro c h; cases h)) ?_
                    refine Z.t 14 rfl rfl rfl (by rfl) (by kernel_rfl) ⟨_, hs, by first | (simp; done) | exact fun e he => List.mem_append_right _ he⟩ (Z.Yd.off (v := undef) 47 true rfl (by first | (simp; done) | (simp_all; done)) (by intro c h; cases h)) ?_
                    refine Z.t 15 rfl rfl rfl (by rfl) (by kernel_rfl) ⟨_, hs, by first | (simp; done) | exact fun e he => List.mem_append_right _ he⟩ (Z.Yd.off (v := undef) 47 true rfl (by first | (simp; done) | (simp_all; done)) (by intro c h; cases h)) ?_
                    refine Z.t 16 rfl rfl rfl (by rfl) (by kernel_rfl) ⟨_, hs, by first | (simp; done) | exact fun e he => List.mem_append_right _ he⟩ (Z.Yd.off (v := undef) 47 true rfl (by first | (simp; done) | (simp_all; done)) (by intro c h; cases h)) ?_
                    refine Z.t 17 rfl rfl rfl (by rfl) (by kernel_rfl) ⟨_, hs, by first | (simp; done) | exact fun e he => List.mem_append_right _ he⟩ (Z.Yd.off (v := undef) 47 true rfl (by first | (simp; done) | (simp_all; done)) (by intro c h; cases h)) ?_
                    refine Z.t 18 rfl rfl rfl (by rfl) (by kernel_rfl) ⟨_, hs, by first | (simp; done) | exact fun e he => List.mem_append_right _ he⟩ (Z.Yd.off (v := undef) 47 true rfl (by first | (simp; done) | (simp_all; done)) (by intro c h; cases h)) ?_
                    refine Z.yes (s := 47) (b := false) rfl rfl rfl ?_
                    refine Z.t 19 rfl rfl rfl (by rfl) (by kernel_rfl) ⟨_, hs, by first | (simp; done) | exact fun e he => List.mem_append_right _ he⟩ (Z.Yd.pickF rfl rfl) ?_
                    refine Z.td (by rfl) (by kernel_rfl) ?_
                    refine Z.only [1, 2, 4, 6, 7, 62] rfl ?_
                    refine Z.nthen ?_
                    refine Z.cond rfl (fun hc11 => ?_) (fun hc11 => ?_)
                    · first
                        | (exfalso; simp at hc11 <;> omega)
                        | (
                          (try simp at hc11)
                          rw [if_pos ⟨by rw [hsz]; omega, by rw [hsk, hsp]; assumption⟩, hsk] at hstep
                          rw [hstep] at hfr
                          subst hfr
                          refine Z.seq ?_
                          refine Z.region ?_
                          refine Z.l rfl rfl (by rfl) (Z.keepS hs) (by first | exact Z.Yd.loadA _ rfl Try.isAgg24 (fun _ => Z.cellsB (by first | ((repeat (first | exact List.mem_cons_self | refine List.mem_cons_of_mem _ ?_ | refine List.mem_append_right _ ?_)); done) | fail)) (by exact Try.sizeOf24) | fail "load 12.0") ?_
                          refine Z.le rfl trivial ?_
                          first | refine Z.ZO.storeA rfl rfl hs rfl rfl (by kernel_rfl) (by first | (simp [Value.oneCell']; done) | (refine Z.all_one ?_; assumption)) (by first | exact SX.at0 | exact SX.at1 | exact SX.at2 | exact SX.at3 | exact SX.at4 | exact SX.at5 | exact Z.at6 | exact Z.at7 | exact Z.at8 | exact Z.at9 | exact Z.at10 | exact Z.at11 | exact Z.at12) (by rfl) ?_ | refine Z.ZO.storeP rfl rfl hs rfl rfl (by kernel_rfl) (by first | (simp [Value.oneCell']; done) | (refine Z.all_one ?_; assumption)) (by first | exact SX.at0 | exact SX.at1 | exact SX.at2 | exact SX.at3 | exact SX.at4 | exact SX.at5 | exact Z.at6 | exact Z.at7 | exact Z.at8 | exact Z.at9 | exact Z.at10 | exact Z.at11 | exact Z.at12) (by first | decide | (simp; done) | (simp; omega)) ?_ | refine Z.ZO.storePR rfl rfl hs rfl rfl (by kernel_rfl) (by first | (simp [Value.oneCell']; done) | (refine Z.all_one ?_; assumption)) (by first | exact SX.at0 | exact SX.at1 | exact SX.at2 | exact SX.at3 | exact SX.at4 | exact SX.at5 | exact Z.at6 | exact Z.at7 | exact Z.at8 | exact Z.at9 | exact Z.at10 | exact Z.at11 | exact Z.at12) (by first | decide | (simp; done) | (simp; omega)) ?_
                          clear hs; intro ws hs
                          simp only [Nat.zero_add, Nat.add_zero, Nat.reduceAdd, Int.reduceToNat, Nat.reduceMul, List.set_cons_zero, List.set_cons_succ, List.setIfInBounds_toArray] at hs
                          try simp only [Z.putL, Nat.zero_add] at hs
                          refine Z.lb 1 rfl ?_
                          refine Z.lnil ?_
                          refine Z.only [4, 5] rfl ?_
                          refine Z.nthen ?_
                          refine Z.ret ?_
                          repeat (first | refine Z.rthen ?_ | refine Z.rblock ?_ | refine Z.rscope ?_)
                          -- ret#2
                          refine Z.out2 (by exact ⟨⟨_, rfl, Z.rvcA hs Try.isAgg24 (by first | ((repeat (first | exact List.mem_cons_self | refine List.mem_cons_of_mem _ ?_ | refine List.mem_append_right _ ?_)); done) | fail) (by exact Try.sizeOf24)⟩, rfl, trivial⟩) ?_
                          first
                          | exact ⟨_, rfl, ⟨A, c, rfl, fun W hW => by rw [← hl, List.take_length]; exact hW⟩, hs.sub (List.nil_sublist _)⟩
                          | exact ⟨_, rfl, ⟨_, _, rfl, fun W hW => Sl.pre hW (nk_pre l k)⟩, hs.sub (List.nil_sublist _)⟩
                          | exact ⟨_, rfl, ⟨none, 0, rfl, fun W hW h0 => absurd h0 (by simp)⟩, hs.sub (List.nil_sublist _)⟩
                          )
                    · first
                        | (exfalso; simp at hc11 <;> omega)
                        | (
                          (try simp at hc11)
                          rw [if_neg (fun hh => by first | (have h1 := hh.1; rw [hsz] at h1; omega) | (have h2 := hh.2; rw [hsk, hsp] at h2; exact h2 (by assumption)))] at hstep
                          refine Z.skip ?_
                          refine Z.nblock ?_
                          refine Z.nthen ?_
                          refine Z.region ?_
                          refine Z.lb 1 rfl ?_
                          refine Z.l rfl rfl (by rfl) (Z.keepS hs) (Z.Yd.sub rfl rfl (fun hG => Z.wi64 (by first | omega | (have hG' := Z.gh rfl hG; simp at hG'; omega)))) ?_
                          refine Z.lb 1 rfl ?_
                          refine Z.lnil ?_
                          refine Z.only [1, 2, 4, 6] rfl ?_
                          refine Z.nthen ?_
                          exact Z.again (k - 1) (by refine ⟨?_, ?_, ?_, ?_, trivial⟩ <;> (first | rfl | (refine Z.lookv rfl ?_; simp; done) | (refine Z.lookv rfl ?_; simp; omega))) ⟨⟨by omega, hstep.symm.trans hfr⟩, hs.tl⟩ (by omega)
                          )
                    )
              )
        · first
            | (exfalso; simp at hc8 <;> omega)
            | (
              (try simp at hc8)
              refine Z.exit ?_
              refine Z.xthen ?_
              refine Z.xthen ?_
              refine Z.xblock ?_
              refine Z.nthen ?_
              refine Z.seq ?_
              refine Z.region ?_
              obtain rfl : k = 0 := by omega
              obtain ⟨x, hxk⟩ : ∃ f, l[0]? = some f := ⟨_, List.getElem?_eq_getElem (by omega)⟩
              have hsk : snK l 0 = x.sn := by unfold snK; rw [hxk]
              rw [fitR, hsk] at hfr
              subst hfr
              refine Z.l rfl rfl (by rfl) (Z.keepS hs) (Z.Yd.fieldA (m := 1) rfl (by kernel_rfl)) ?_
              refine Z.l rfl rfl (by rfl) (Z.keepS hs) (by first | exact Z.Yd.load rfl Try.isAgg22 (fun _ => Z.cellB (by first | ((repeat (first | exact List.mem_cons_self | refine List.mem_cons_of_mem _ ?_ | refine List.mem_append_right _ ?_)); done) | fail) rfl) | exact Z.Yd.load rfl Try.isAgg22 (fun _ => Z.cellO (by assumption) (by simp) (by assumption)) | fail "load 13.1") ?_
              refine Z.l rfl rfl (by rfl) (Z.keepS hs) (Z.Yd.elem rfl rfl Try.underlying22 Try.sizeOf45 (fun hG => ⟨(by first | omega | (have hG' := Z.gh rfl hG; simp at hG'; omega)), (by first | omega | (have hG' := Z.gh rfl hG; simp at hG'; omega))⟩)) ?_
              refine Z.l rfl rfl (by rfl) (Z.keepS hs) (Z.Yd.fieldA (m := 0) rfl (by kernel_rfl)) ?_
              refine Z.l rfl rfl (by rfl) (Z.keepS hs) (Z.Yd.load rfl Try.isAgg3 (fun _ => Z.cellXf (i := 0) hx2 nk_len hxk rfl)) ?_
              refine Z.l rfl rfl (by rfl) (Z.keepS hs) (Z.Yd.buildL [(0, 1), (1, 1)] [.int .i64 0, .slice none 0 0] rfl rfl (by intro w; kernel_rfl)) ?_
              refine Z.le rfl trivial ?_
              first | refine Z.ZO.storeA rfl rfl hs rfl rfl (by kernel_rfl) (by first | (simp [Value.oneCell']; done) | (refine Z.all_one ?_; assumption)) (by first | exact SX.at0 | exact SX.at1 | exact SX.at2 | exact SX.at3 | exact SX.at4 | exact SX.at5 | exact Z.at6 | exact Z.at7 | exact Z.at8 | exact Z.at9 | exact Z.at10 | exact Z.at11 | exact Z.at12) (by rfl) ?_ | refine Z.ZO.storeP rfl rfl hs rfl rfl (by kernel_rfl) (by first | (simp [Value.oneCell']; done) | (refine Z.all_one ?_; assumption)) (by first | exact SX.at0 | exact SX.at1 | exact SX.at2 | exact SX.at3 | exact SX.at4 | exact SX.at5 | exact Z.at6 | exact Z.at7 | exact Z.at8 | exact Z.at9 | exact Z.at10 | exact Z.at11 | exact Z.at12) (by first | decide | (simp; done) | (simp; omega)) ?_ | refine Z.ZO.storePR rfl rfl hs rfl rfl (by kernel_rfl) (by first | (simp [Value.oneCell']; done) | (refine Z.all_one ?_; assumption)) (by first | exact SX.at0 | exact SX.at1 | exact SX.at2 | exact SX.at3 | exact SX.at4 | exact SX.at5 | exact Z.at6 | exact Z.at7 | exact Z.at8 | exact Z.at9 | exact Z.at10 | exact Z.at11 | exact Z.at12) (by first | decide | (simp; done) | (simp; omega)) ?_
              clear hs; intro ws hs
              simp only [Nat.zero_add, Nat.add_zero, Nat.reduceAdd, Int.reduceToNat, Nat.reduceMul, List.set_cons_zero, List.set_cons_succ, List.setIfInBounds_toArray] at hs
              try simp only [Z.putL, Nat.zero_add] at hs
              refine Z.lb 1 rfl ?_
              refine Z.lnil ?_
              refine Z.only [4, 5] rfl ?_
              refine Z.nthen ?_
              refine Z.ret ?_
              -- ret#3
              refine Z.out2 (by exact ⟨⟨_, rfl, Z.rvcA hs Try.isAgg24 (by first | ((repeat (first | exact List.mem_cons_self | refine List.mem_cons_of_mem _ ?_ | refine List.mem_append_right _ ?_)); done) | fail) (by exact Try.sizeOf24)⟩, rfl, trivial⟩) ?_
              first
              | exact ⟨_, rfl, ⟨A, c, rfl, fun W hW => by rw [← hl, List.take_length]; exact hW⟩, hs.sub (List.nil_sublist _)⟩
              | exact ⟨_, rfl, ⟨_, _, rfl, fun W hW => Sl.pre hW (nk_pre l k)⟩, hs.sub (List.nil_sublist _)⟩
              | exact ⟨_, rfl, ⟨none, 0, rfl, fun W hW h0 => absurd h0 (by simp)⟩, hs.sub (List.nil_sublist _)⟩
              )
        )
end Go.Proofs.Ytcieclifabbkjaa
