/- Part 7 of the proofs that lead to the statement. -/
import Derived.Test.YtjgfooakcljddaaY6
/- Random access of a handset: others' responses; giving up. -/
namespace Go.Proofs.Ytjgfooakcljddaa
open Go.RowKit
set_option linter.unusedSimpArgs false
set_option linter.unusedVariables false
--newlaws

theorem tick_idle {m : AcV} {t : Int} (h : m.st ≠ 2 ∧ m.st ≠ 3) (hn : m.now ≤ t) : tickV m t = { m with now := t } := by
  unfold tickV
  rw [if_neg (by unfold waits; intro h1; rcases h1.1 with h2 | h2; exact h.1 h2; exact h.2 h2), show max m.now t = t from by omega]
theorem tick_wait {m : AcV} {t : Int} (h : t < m.due) (hn : m.now ≤ t) : tickV m t = { m with now := t } := by
  unfold tickV
  rw [if_neg (by unfold waits; intro h1; have := h1.2; omega), show max m.now t = t from by omega]
theorem tick_fail {m : AcV} {t : Int} (h2 : m.st = 2) (h : m.due ≤ t) (hn : m.now ≤ t) : tickV m t = failV { m with now := t } := by
  unfold tickV
  rw [if_pos (by unfold waits; exact ⟨.inl h2, by omega⟩), show max m.now t = t from by omega]
theorem answer_hit2 {m : AcV} {t p r k : Int} (h2 : m.st = 2) (hf : m.frm ≤ t) (hd : t < m.due) (hn : m.now ≤ t) (ht : okT t) (hr : okR p r k) (hp : p = m.pre) (h0 : r ≠ 0) : answerV m t p r k = ({ m with now := t, rn := r, st := 3, due := t + m.con }, true, 0) := by
  unfold answerV
  rw [if_pos ⟨ht, hr⟩, tick_wait hd hn, if_pos ⟨h2, hf⟩, if_pos hp, if_neg h0]
theorem answer_other {m : AcV} {t p r k : Int} (h2 : m.st = 2) (hf : m.frm ≤ t) (hd : t < m.due) (hn : m.now ≤ t) (ht : okT t) (hr : okR p r k) (hp : p ≠ m.pre) : answerV m t p r k = ({ m with now := t }, false, 0) := by
  unfold answerV
  rw [if_pos ⟨ht, hr⟩, tick_wait hd hn, if_pos ⟨h2, hf⟩, if_neg hp]
theorem send_due {m : AcV} {d : Int} (h1 : m.st = 1) (hn : m.now ≤ m.due) (ht : okT m.due) (hd : 0 ≤ d) : sendV m m.due d = ({ m with now := m.due, pre := d % 64, frm := m.due + 3, att := m.att + 1, st := 2, due := m.due + 3 + m.win }, d % 64, 0) := by
  unfold sendV
  rw [if_pos ⟨ht, hd⟩, tick_idle (by rw [h1]; decide) hn, if_pos h1, if_neg (by simp)]
theorem send_state {m : AcV} {t d : Int} (h1 : m.st = 5) (hn : m.now ≤ t) (ht : okT t) (hd : 0 ≤ d) : sendV m t d = ({ m with now := t }, 0, 8) := by
  unfold sendV
  rw [if_pos ⟨ht, hd⟩, tick_idle (by rw [h1]; decide) hn, if_neg (by rw [show ({ m with now := t } : AcV).st = m.st from rfl, h1]; decide)]
theorem start_again {m : AcV} {t : Int} (h1 : m.st = 5) (hn : m.now ≤ t) (ht : okT t) : startV m t = ({ m with now := t, st := 1, due := t, att := 0, bnd := 0 }, 0) := by
  unfold startV
  rw [if_pos ht, tick_idle (by rw [h1]; decide) hn, if_pos (.inr (.inr h1))]
theorem acB_zero (id n : Int) : acB id n 0 = 0 := by
  unfold acB
  rw [show max 0 (min 960 0) + 1 = (1 : Int) from rfl]
  omega
theorem be_inj {a b : Int} (ha : 0 ≤ a ∧ a < 281474976710656) (hb : 0 ≤ b ∧ b < 281474976710656) (h : be 6 a = be 6 b) : a = b := by
  obtain ⟨x, rfl⟩ := Int.eq_ofNat_of_zero_le ha.1
  obtain ⟨y, rfl⟩ := Int.eq_ofNat_of_zero_le hb.1
  have h1 := (id_back (lc := 28) (id := x) (.inr rfl) (by show x / 281474976710656 = 0; omega)).2
  have h2 := (id_back (lc := 28) (id := y) (.inr rfl) (by show y / 281474976710656 = 0; omega)).2
  have e : (wid 28).toNat = 6 := rfl
  rw [e] at h1 h2
  rw [h, h2] at h1
  exact h1.symm
/-- another's message ends the attempt -/
theorem resolve_foreign {m : AcV} {t o : Int} (hf : m.cfg) (h0 : m.rnt = 0) (h3 : m.st = 3) (ht : okT t) (hd : t < m.due) (hn : m.now ≤ t) (ho : 0 ≤ o ∧ o < 281474976710656) (hne : o ≠ m.id) : resolveV m t 28 (be 6 o) = (failV { m with now := t }, false, 0) := by
  have hE : idE 28 (be 6 o) = 0 := by
    obtain ⟨y, rfl⟩ := Int.eq_ofNat_of_zero_le ho.1
    exact (id_back (lc := 28) (id := y) (.inr rfl) (by show y / 281474976710656 = 0; omega)).1
  have hL : msgL ({ m with now := t } : AcV) = be 6 m.id := if_pos h0
  unfold resolveV
  rw [if_pos ht, if_pos hE, tick_wait hd hn, if_pos h3, if_neg (fun h => hne (be_inj ho hf.1 (h.2.trans hL)))]
set_option maxHeartbeats 1000000 in
set_option maxRecDepth 100000 in
theorem accessForeign_walk (i r n c x p q b o : Int) (w : World) (hi : 0 ≤ i) (ho0 : 0 ≤ o) :
    Calls Try.prog 4 #[.agg #[.int .u64 i, .int .i64 r, .int .i64 n, .int .i64 c, .int .i64 x], .agg #[.int .i64 p, .int .i64 q, .int .i64 b], .int .u64 o] w (SX.Ret fun v w' => v = .bool true ∧ SX.St w [] w' []) := by
  have hs := SX.St.start w
  by_cases hc : (newV i 0 n c x).cfg
  · by_cases hA : ((0 ≤ p ∧ p ≤ 62) ∧ (0 ≤ q ∧ q ≤ 65535) ∧ 0 ≤ b ∧ b ≤ 960) ∧ o < 281474976710656 ∧ o ≠ i
    · obtain ⟨⟨h1, h2, h3⟩, h4, h5⟩ := hA
      have hc9 := hc
      obtain ⟨f1, f2, f3, f4, f5⟩ := hc9
      simp only [newV] at f1 f2 f3 f4 f5
      have hok := newV_ok hc
      have t0 : okT 0 := by decide
      have t3 : okT 3 := by decide
      have q1 := start_new (i := i) (r := 0) (n := n) (c := c) (x := x) t0
      have o1 := hok.start 0
      rw [q1] at o1
      have q2 := send_first (i := i) (r := 0) (n := n) (c := c) (x := x) (fr := 0) (pr := 0) (at0 := 0) (b := 0) (rn := 0) (d := p + 1) t0 (by omega)
      rw [show (p + 1) % 64 = p + 1 from by omega] at q2
      have o2 := o1.send 0 (p + 1)
      rw [q2] at o2
      obtain ⟨m2, hm2⟩ : ∃ m2 : AcV, m2 = ⟨i, 0, n, c, x, 2, 0, 0 + 3 + n, 0 + 3, p + 1, 0 + 1, 0, 0⟩ := ⟨_, rfl⟩
      have q3 : answerV m2 3 p q b = ({ m2 with now := 3 }, false, 0) := answer_other (by rw [hm2]) (by rw [hm2]; (first | (simp only; done) | (simp only; omega) | omega)) (by rw [hm2]; (first | (simp only; done) | (simp only; omega) | omega)) (by rw [hm2]; (first | (simp only; done) | (simp only; omega) | omega)) t3 ⟨by omega, h2, h3⟩ (by rw [hm2]; (first | (simp only; done) | (simp only; omega) | omega))
      rw [← hm2] at o2 q2
      have o3 := o2.answer 3 p q b
      rw [q3] at o3
      have q4 : answerV { m2 with now := 3 } 3 (p + 1) 7 0 = ({ m2 with now := 3, rn := 7, st := 3, due := 3 + m2.con }, true, 0) := answer_hit2 (by rw [hm2]) (by rw [hm2]; (first | (simp only; done) | (simp only; omega) | omega)) (by rw [hm2]; (first | (simp only; done) | (simp only; omega) | omega)) (Int.le_refl _) t3 ⟨by omega, by decide, by decide⟩ (by rw [hm2]) (by decide)
      have o4 := o3.answer 3 (p + 1) 7 0
      rw [q4] at o4
      obtain ⟨m4, hm4⟩ : ∃ m4 : AcV, m4 = { m2 with now := 3, rn := 7, st := 3, due := 3 + m2.con } := ⟨_, rfl⟩
      rw [← hm4] at o4 q4
      -- the other handset
      have hcx : (newV o 0 1 1 1).cfg := by unfold AcV.cfg newV; simp only; omega
      have hokx := newV_ok hcx
      have x1 := start_new (i := o) (r := 0) (n := 1) (c := 1) (x := 1) t0
      have y1 := hokx.start 0
      rw [x1] at y1
      have x2 := send_first (i := o) (r := 0) (n := 1) (c := 1) (x := 1) (fr := 0) (pr := 0) (at0 := 0) (b := 0) (rn := 0) (d := 0) t0 (Int.le_refl _)
      have y2 := y1.send 0 0
      rw [x2] at y2
      obtain ⟨n2, hn2⟩ : ∃ n2 : AcV, n2 = ⟨o, 0, 1, 1, 1, 2, 0, 0 + 3 + 1, 0 + 3, 0 % 64, 0 + 1, 0, 0⟩ := ⟨_, rfl⟩
      rw [← hn2] at y2 x2
      have x3 : answerV n2 3 0 7 0 = ({ n2 with now := 3, rn := 7, st := 3, due := 3 + n2.con }, true, 0) := answer_hit2 (by rw [hn2]) (by rw [hn2]; (first | (simp only; done) | (simp only; omega) | omega)) (by rw [hn2]; (first | (simp only; done) | (simp only; omega) | omega)) (by rw [hn2]; (first | (simp only; done) | (simp only; omega) | omega)) t3 (by decide) (by rw [hn2]; (first | (simp only; done) | (simp only; omega) | omega)) (by decide)
      have y3 := y2.answer 3 0 7 0
      rw [x3] at y3
      obtain ⟨n3, hn3⟩ : ∃ n3 : AcV, n3 = { n2 with now := 3, rn := 7, st := 3, due := 3 + n2.con } := ⟨_, rfl⟩
      rw [← hn3] at y3 x3
      have hC : msgC n3 = 28 := by rw [hn3, hn2]; rfl
      have hL : msgL n3 = be 6 o := by rw [hn3, hn2]; rfl
      have q5 : resolveV m4 3 28 (be 6 o) = (failV { m4 with now := 3 }, false, 0) := resolve_foreign o4.cfg (by rw [hm4, hm2]) (by rw [hm4]) t3 (by rw [hm4, hm2]; (first | (simp only; done) | (simp only; omega) | omega)) (by rw [hm4]; (first | (simp only; done) | (simp only; omega) | omega)) ⟨ho0, h4⟩ (by rw [hm4, hm2]; exact h5)
      have o5 := o4.resolve 3 28 (be 6 o)
      rw [q5] at o5
      have q6 : (failV { m4 with now := 3 }).st = 1 ∨ ((failV { m4 with now := 3 }).st = 5 ∧ x = 1) := by
        unfold failV
        split
        · rename_i h9
          rw [hm4, hm2] at h9
          simp only at h9
          exact .inr ⟨rfl, by omega⟩
        · exact .inl rfl
      have q7 := useV_fail { m4 with now := 3 }
      have hbb := be_bytes 6 o
      have hbl : (be 6 o).length = 6 := be_length 6 o
      have k2 : (sendV ⟨i, 0, n, c, x, 1, 0, 0, 0, 0, 0, 0, 0⟩ 0 (p + 1)).2.1 = p + 1 := by rw [q2]
      have k3 : (sendV ⟨i, 0, n, c, x, 1, 0, 0, 0, 0, 0, 0, 0⟩ 0 (p + 1)).2.2 = 0 := by rw [q2]
      have k4 : (sendV ⟨i, 0, n, c, x, 1, 0, 0, 0, 0, 0, 0, 0⟩ 0 (p + 1)).1 = m2 := by rw [q2]
      have d2 : m2.due = 0 + 3 + n := by rw [hm2]
      refine Z.enter Try.func4 rfl Try.ntmps4 rfl rfl ?_
      refine Z.seq ?_
      refine Z.region ?_
      refine Z.le rfl trivial ?_
      refine Z.ZO.box rfl rfl (by rfl) rfl rfl hs ?_
      clear hs; intro g3 w3 hs
      refine Z.le rfl trivial ?_
      refine Z.ZO.box rfl rfl (by rfl) rfl rfl hs ?_
      clear hs; intro g4 w4 hs
      refine Z.lb 1 rfl ?_
      refine Z.lnil ?_
      refine Z.only [2, 3, 4] rfl ?_
      refine Z.nthen ?_
      refine Z.seq ?_
      refine Z.region ?_
      refine Z.l rfl rfl (by rfl) (Z.keepS hs) (Z.Yd.fieldA (m := 1) rfl (by kernel_rfl)) ?_
      refine Z.le rfl trivial ?_
      first | refine Z.ZO.store rfl rfl hs Try.sizeOf3 rfl rfl rfl (by first | exact SX.at0 | exact SX.at1 | exact SX.at2 | exact SX.at3 | exact SX.at4 | exact SX.at5 | exact Z.at6 | exact Z.at7 | exact Z.at8 | exact Z.at9 | exact Z.at10 | exact Z.at11 | exact Z.at12) (by first | (simp; done) | (simp; omega)) ?_ | refine Z.ZO.storeR rfl rfl hs Try.sizeOf3 rfl rfl rfl (by first | exact SX.at0 | exact SX.at1 | exact SX.at2 | exact SX.at3 | exact SX.at4 | exact SX.at5 | exact Z.at6 | exact Z.at7 | exact Z.at8 | exact Z.at9 | exact Z.at10 | exact Z.at11 | exact Z.at12) (by first | omega | (simp [ints_length]; done) | (simp [ints_length]; omega)) ?_
      clear hs; intro ws hs
      simp only [Nat.zero_add, Nat.add_zero, Nat.reduceAdd, Int.reduceToNat, Nat.reduceMul, List.set_cons_zero, List.set_cons_succ, List.setIfInBounds_toArray] at hs
      refine Z.lnil ?_
      refine Z.only [2, 3, 4] rfl ?_
      refine Z.nthen ?_
      refine Z.seq ?_
      refine Z.region ?_
      refine Z.l rfl rfl (by rfl) (Z.keepS hs) (by first | exact Z.Yd.loadA _ rfl Try.isAgg24 (fun _ => Z.cellsB (by first | ((repeat (first | exact List.mem_cons_self | refine List.mem_cons_of_mem _ ?_ | refine List.mem_append_right _ ?_)); done) | fail)) (by exact Try.sizeOf24) | fail "load 2.0") ?_
      refine Z.le rfl trivial ?_
      refine Z.ZO.call rfl rfl (by rfl) rfl rfl Try.call9 rfl (ac_newT i 0 n c x _ hi hc) ?_
      rintro v2_1 w2_1 ⟨ga, rfl, hy⟩
      replace hs := hs.call hy
      clear hy
      try simp only [List.cons_append, List.nil_append, List.append_nil] at hs
      replace hs : SX.St w [] _ [SX.Ent.blk ga 64 (newV i 0 n c x).cells.toArray, _, _] := hs
      refine Z.lb 5 rfl ?_
      refine Z.lnil ?_
      refine Z.only [2, 3, 4, 7, 8] rfl ?_
      refine Z.nthen ?_
      refine Z.seq ?_
      refine Z.seq ?_
      refine Z.region ?_
      refine Z.lb 3 rfl ?_
      refine Z.yes (s := 30) (b := false) rfl ((by simp)) rfl ?_
      refine Z.l rfl rfl (by rfl) (Z.keepS hs) (Z.Yd.fieldA (m := 0) rfl (by kernel_rfl)) ?_
      refine Z.l rfl rfl (by rfl) (Z.keepS hs) (by first | exact Z.Yd.load rfl Try.isAgg3 (fun _ => Z.cellB (by first | ((repeat (first | exact List.mem_cons_self | refine List.mem_cons_of_mem _ ?_ | refine List.mem_append_right _ ?_)); done) | fail) rfl) | exact Z.Yd.load rfl Try.isAgg3 (fun _ => Z.cellO (by assumption) (by simp) (by assumption)) | fail "load 3.4") ?_
      refine Z.lb 1 rfl ?_
      refine Z.yes (s := 30) (b := false) rfl rfl rfl ?_
      refine Z.l rfl rfl (by rfl) (Z.keepS hs) (Z.Yd.pickF rfl rfl) ?_
      refine Z.lb 1 rfl ?_
      refine Z.yes (s := 35) (b := false) rfl ((by simp; omega)) rfl ?_
      refine Z.l rfl rfl (by rfl) (Z.keepS hs) (Z.Yd.fieldA (m := 0) rfl (by kernel_rfl)) ?_
      refine Z.l rfl rfl (by rfl) (Z.keepS hs) (by first | exact Z.Yd.load rfl Try.isAgg3 (fun _ => Z.cellB (by first | ((repeat (first | exact List.mem_cons_self | refine List.mem_cons_of_mem _ ?_ | refine List.mem_append_right _ ?_)); done) | fail) rfl) | exact Z.Yd.load rfl Try.isAgg3 (fun _ => Z.cellO (by assumption) (by simp) (by assumption)) | fail "load 3.9") ?_
      refine Z.lb 1 rfl ?_
      refine Z.yes (s := 35) (b := false) rfl rfl rfl ?_
      refine Z.l rfl rfl (by rfl) (Z.keepS hs) (Z.Yd.pickF rfl rfl) ?_
      refine Z.lb 1 rfl ?_
      refine Z.yes (s := 40) (b := false) rfl ((by simp; omega)) rfl ?_
      refine Z.l rfl rfl (by rfl) (Z.keepS hs) (Z.Yd.fieldA (m := 1) rfl (by kernel_rfl)) ?_
      refine Z.l rfl rfl (by rfl) (Z.keepS hs) (by first | exact Z.Yd.load rfl Try.isAgg3 (fun _ => Z.cellB (by first | ((repeat (first | exact List.mem_cons_self | refine List.mem_cons_of_mem _ ?_ | refine List.mem_append_right _ ?_)); done) | fail) rfl) | exact Z.Yd.load rfl Try.isAgg3 (fun _ => Z.cellO (by assumption) (by simp) (by assumption)) | fail "load 3.14") ?_
      refine Z.lb 1 rfl ?_
      refine Z.yes (s := 40) (b := false) rfl rfl rfl ?_
      refine Z.l rfl rfl (by rfl) (Z.keepS hs) (Z.Yd.pickF rfl rfl) ?_
      refine Z.lb 1 rfl ?_
      refine Z.yes (s := 45) (b := false) rfl ((by simp; omega)) rfl ?_
      refine Z.l rfl rfl (by rfl) (Z.keepS hs) (Z.Yd.fieldA (m := 1) rfl (by kernel_rfl)) ?_
      refine Z.l rfl rfl (by rfl) (Z.keepS hs) (by first | exact Z.Yd.load rfl Try.isAgg3 (fun _ => Z.cellB (by first | ((repeat (first | exact List.mem_cons_self | refine List.mem_cons_of_mem _ ?_ | refine List.mem_append_right _ ?_)); done) | fail) rfl) | exact Z.Yd.load rfl Try.isAgg3 (fun _ => Z.cellO (by assumption) (by simp) (by assumption)) | fail "load 3.19") ?_
      refine Z.lb 1 rfl ?_
      refine Z.yes (s := 45) (b := false) rfl rfl rfl ?_
      refine Z.l rfl rfl (by rfl) (Z.keepS hs) (Z.Yd.pickF rfl rfl) ?_
      refine Z.lb 1 rfl ?_
      refine Z.yes (s := 50) (b := false) rfl ((by simp; omega)) rfl ?_
      refine Z.l rfl rfl (by rfl) (Z.keepS hs) (Z.Yd.fieldA (m := 2) rfl (by kernel_rfl)) ?_
      refine Z.l rfl rfl (by rfl) (Z.keepS hs) (by first | exact Z.Yd.load rfl Try.isAgg3 (fun _ => Z.cellB (by first | ((repeat (first | exact List.mem_cons_self | refine List.mem_cons_of_mem _ ?_ | refine List.mem_append_right _ ?_)); done) | fail) rfl) | exact Z.Yd.load rfl Try.isAgg3 (fun _ => Z.cellO (by assumption) (by simp) (by assumption)) | fail "load 3.24") ?_
      refine Z.lb 1 rfl ?_
      refine Z.yes (s := 50) (b := false) rfl rfl rfl ?_
      refine Z.l rfl rfl (by rfl) (Z.keepS hs) (Z.Yd.pickF rfl rfl) ?_
      refine Z.lb 1 rfl ?_
      refine Z.yes (s := 55) (b := false) rfl ((by simp; omega)) rfl ?_
      refine Z.l rfl rfl (by rfl) (Z.keepS hs) (Z.Yd.fieldA (m := 2) rfl (by kernel_rfl)) ?_
      refine Z.l rfl rfl (by rfl) (Z.keepS hs) (by first | exact Z.Yd.load rfl Try.isAgg3 (fun _ => Z.cellB (by first | ((repeat (first | exact List.mem_cons_self | refine List.mem_cons_of_mem _ ?_ | refine List.mem_append_right _ ?_)); done) | fail) rfl) | exact Z.Yd.load rfl Try.isAgg3 (fun _ => Z.cellO (by assumption) (by simp) (by assumption)) | fail "load 3.29") ?_
      refine Z.lb 1 rfl ?_
      refine Z.yes (s := 55) (b := false) rfl rfl rfl ?_
      refine Z.l rfl rfl (by rfl) (Z.keepS hs) (Z.Yd.pickF rfl rfl) ?_
      refine Z.lb 1 rfl ?_
      refine Z.yes (s := 60) (b := false) rfl ((by simp; omega)) rfl ?_
      refine Z.lb 2 rfl ?_
      refine Z.yes (s := 60) (b := false) rfl rfl rfl ?_
      refine Z.l rfl rfl (by rfl) (Z.keepS hs) (Z.Yd.pickF rfl rfl) ?_
      refine Z.lb 1 rfl ?_
      refine Z.yes (s := 64) (b := false) rfl ((by simp; omega)) rfl ?_
      refine Z.lb 1 rfl ?_
      refine Z.l rfl rfl (by rfl) (Z.keepS hs) (Z.Yd.fieldA (m := 0) rfl (by kernel_rfl)) ?_
      refine Z.l rfl rfl (by rfl) (Z.keepS hs) (by first | exact Z.Yd.load rfl Try.isAgg22 (fun _ => Z.cellB (by first | ((repeat (first | exact List.mem_cons_self | refine List.mem_cons_of_mem _ ?_ | refine List.mem_append_right _ ?_)); done) | fail) rfl) | exact Z.Yd.load rfl Try.isAgg22 (fun _ => Z.cellO (by assumption) (by simp) (by assumption)) | fail "load 3.39") ?_
      refine Z.lb 1 rfl ?_
      refine Z.yes (s := 64) (b := false) rfl rfl rfl ?_
      refine Z.l rfl rfl (by rfl) (Z.keepS hs) (Z.Yd.pickF rfl rfl) ?_
      refine Z.lnil ?_
      refine Z.only [2, 3, 4, 7, 69] rfl ?_
      refine Z.nthen ?_
      refine Z.cond rfl (fun h => absurd h (by simp; omega)) (fun hc3 => ?_)
      refine Z.skip ?_
      refine Z.nthen ?_
      refine Z.seq ?_
      refine Z.seq ?_
      refine Z.region ?_
      refine Z.lb 1 rfl ?_
      refine Z.le rfl trivial ?_
      refine Z.ZO.call rfl rfl (by rfl) rfl rfl Try.call11 rfl (ac_start ga _ (newV i 0 n c x) 0 _ (hs.lend (L1 := [_])) hok) ?_
      rintro v5_1 w5_1 ⟨rfl, hz⟩
      replace hs := hs.regain (L1 := [_]) hz
      rw [q1]
      rw [q1] at hs
      refine Z.lb 1 rfl ?_
      refine Z.lnil ?_
      refine Z.only [2, 3, 4, 7, 73] rfl ?_
      refine Z.nthen ?_
      refine Z.cond rfl (fun h => absurd h (by simp)) (fun hc5 => ?_)
      refine Z.skip ?_
      refine Z.nthen ?_
      refine Z.seq ?_
      refine Z.region ?_
      refine Z.lb 1 rfl ?_
      refine Z.l rfl rfl (by rfl) (Z.keepS hs) (Z.Yd.fieldA (m := 0) rfl (by kernel_rfl)) ?_
      refine Z.l rfl rfl (by rfl) (Z.keepS hs) (by first | exact Z.Yd.load rfl Try.isAgg3 (fun _ => Z.cellB (by first | ((repeat (first | exact List.mem_cons_self | refine List.mem_cons_of_mem _ ?_ | refine List.mem_append_right _ ?_)); done) | fail) rfl) | exact Z.Yd.load rfl Try.isAgg3 (fun _ => Z.cellO (by assumption) (by simp) (by assumption)) | fail "load 7.2") ?_
      refine Z.l rfl rfl (by rfl) (Z.keepS hs) (Z.Yd.add rfl rfl (fun hG => Z.wi64 (by first | omega | (have hG' := Z.gh rfl hG; simp at hG'; omega)))) ?_
      refine Z.le rfl trivial ?_
      refine Z.ZO.call rfl rfl (by rfl) rfl rfl Try.call12 rfl (ac_send ga _ _ 0 (p + 1) _ (hs.lend (L1 := [_])) o1) ?_
      rintro v7_4 w7_4 ⟨rfl, hz⟩
      replace hs : SX.St w [] _ ([SX.Ent.blk ga 64 (sendV ⟨i, 0, n, c, x, 1, 0, 0, 0, 0, 0, 0, 0⟩ 0 (p + 1)).1.cells.toArray] ++ _) := hs.regain (L1 := [_]) hz
      rw [k4] at hs
      rw [show (sendV (({ id := i, rnt := 0, win := n, con := c, max := x, st := 1, now := 0, due := 0, frm := 0, pre := 0, att := 0, bnd := 0, rn := 0 } : AcV), (0 : Int)).1 0 (p + 1)).2.1 = p + 1 from k2, show (sendV (({ id := i, rnt := 0, win := n, con := c, max := x, st := 1, now := 0, due := 0, frm := 0, pre := 0, att := 0, bnd := 0, rn := 0 } : AcV), (0 : Int)).1 0 (p + 1)).2.2 = 0 from k3]
      simp only [List.cons_append, List.nil_append] at hs
      refine Z.lb 5 rfl ?_
      refine Z.lnil ?_
      refine Z.only [2, 3, 4, 7, 9, 10] rfl ?_
      refine Z.nthen ?_
      refine Z.seq ?_
      refine Z.region ?_
      refine Z.lb 1 rfl ?_
      refine Z.le rfl trivial ?_
      refine Z.ZO.call rfl rfl (by rfl) rfl rfl Try.call18 rfl (ac_Due ga m2 _ (hs.celOf (cs := m2.cells) (by first | ((repeat (first | exact List.mem_cons_self | refine List.mem_cons_of_mem _ ?_ | refine List.mem_append_right _ ?_)); done) | fail)) o2.cfg) ?_
      rintro v8_1 w8_1 ⟨rfl, hy⟩
      replace hs := hs.call hy
      clear hy
      try simp only [List.cons_append, List.nil_append, List.append_nil] at hs
      refine Z.lb 1 rfl ?_
      refine Z.lnil ?_
      refine Z.only [2, 3, 4, 7, 9, 10, 11] rfl ?_
      refine Z.nthen ?_
      refine Z.seq ?_
      refine Z.region ?_
      refine Z.lb 1 rfl ?_
      refine Z.l rfl rfl (by rfl) (Z.keepS hs) (Z.Yd.loadA _ rfl Try.isAgg36 (fun _ => Z.cellsB (cs := [.int .i64 p, .int .i64 q, .int .i64 b]) (by first | ((repeat (first | exact List.mem_cons_self | refine List.mem_cons_of_mem _ ?_ | refine List.mem_append_right _ ?_)); done) | fail)) (by exact Try.sizeOf36)) ?_
      refine Z.le rfl trivial ?_
      refine Z.ZO.call rfl rfl (by rfl) rfl rfl Try.call13 rfl (ac_answer ga _ m2 3 p q b _ (hs.lend (L1 := [_])) o2) ?_
      rintro v9_2 w9_2 ⟨rfl, hz⟩
      replace hs := hs.regain (L1 := [_]) hz
      rw [q3]
      rw [q3] at hs
      replace hs : SX.St w [] _ [SX.Ent.blk ga 64 ({ m2 with now := 3 } : AcV).cells.toArray, _, _] := hs
      refine Z.lb 5 rfl ?_
      refine Z.lnil ?_
      refine Z.only [2, 3, 4, 7, 9, 10, 11, 12, 13] rfl ?_
      refine Z.nthen ?_
      refine Z.seq ?_
      refine Z.seq ?_
      refine Z.region ?_
      refine Z.lb 3 rfl ?_
      refine Z.yes (s := 92) (b := false) rfl ((by simp)) rfl ?_
      refine Z.lb 1 rfl ?_
      refine Z.l rfl rfl (by rfl) (Z.keepS hs) (Z.Yd.fieldA (m := 0) rfl (by kernel_rfl)) ?_
      refine Z.l rfl rfl (by rfl) (Z.keepS hs) (by first | exact Z.Yd.load rfl Try.isAgg3 (fun _ => Z.cellB (by first | ((repeat (first | exact List.mem_cons_self | refine List.mem_cons_of_mem _ ?_ | refine List.mem_append_right _ ?_)); done) | fail) rfl) | exact Z.Yd.load rfl Try.isAgg3 (fun _ => Z.cellO (by assumption) (by simp) (by assumption)) | fail "load 10.5") ?_
      refine Z.l rfl rfl (by rfl) (Z.keepS hs) (Z.Yd.add rfl rfl (fun hG => Z.wi64 (by first | omega | (have hG' := Z.gh rfl hG; simp at hG'; omega)))) ?_
      refine Z.lb 1 rfl ?_
      refine Z.yes (s := 92) (b := false) rfl rfl rfl ?_
      refine Z.l rfl rfl (by rfl) (Z.keepS hs) (Z.Yd.pickF rfl rfl) ?_
      refine Z.lb 1 rfl ?_
      refine Z.yes (s := 99) (b := false) rfl ((by simp)) rfl ?_
      refine Z.lb 1 rfl ?_
      refine Z.yes (s := 99) (b := false) rfl rfl rfl ?_
      refine Z.l rfl rfl (by rfl) (Z.keepS hs) (Z.Yd.pickF rfl rfl) ?_
      refine Z.lb 1 rfl ?_
      refine Z.yes (s := 102) (b := false) rfl ((by simp)) rfl ?_
      refine Z.lb 2 rfl ?_
      refine Z.yes (s := 102) (b := false) rfl rfl rfl ?_
      refine Z.l rfl rfl (by rfl) (Z.keepS hs) (Z.Yd.pickF rfl rfl) ?_
      refine Z.lb 1 rfl ?_
      refine Z.yes (s := 106) (b := false) rfl ((by simp)) rfl ?_
      refine Z.lb 1 rfl ?_
      refine Z.yes (s := 106) (b := false) rfl rfl rfl ?_
      refine Z.le rfl (by exact ⟨rfl, trivial⟩) ?_
      refine Z.ZO.call rfl rfl (by rfl) rfl rfl Try.call17 rfl (ac_State ga { m2 with now := 3 } _ (hs.celOf (cs := ({ m2 with now := 3 } : AcV).cells) (by first | ((repeat (first | exact List.mem_cons_self | refine List.mem_cons_of_mem _ ?_ | refine List.mem_append_right _ ?_)); done) | fail)) o2.cfg) ?_
      rintro v10_18 w10_18 ⟨rfl, hy⟩
      replace hs := hs.call hy
      clear hy
      try simp only [List.cons_append, List.nil_append, List.append_nil] at hs
      refine Z.lb 1 rfl ?_
      refine Z.yes (s := 106) (b := false) rfl rfl rfl ?_
      refine Z.l rfl rfl (by rfl) (Z.keepS hs) (Z.Yd.pickF rfl rfl) ?_
      refine Z.lb 1 rfl ?_
      refine Z.yes (s := 111) (b := false) rfl ((by rw [hm2]; simp)) rfl ?_
      refine Z.lb 1 rfl ?_
      refine Z.yes (s := 111) (b := false) rfl rfl rfl ?_
      refine Z.le rfl (by exact ⟨rfl, trivial⟩) ?_
      refine Z.ZO.call rfl rfl (by rfl) rfl rfl Try.call18 rfl (ac_Due ga { m2 with now := 3 } _ (hs.celOf (cs := ({ m2 with now := 3 } : AcV).cells) (by first | ((repeat (first | exact List.mem_cons_self | refine List.mem_cons_of_mem _ ?_ | refine List.mem_append_right _ ?_)); done) | fail)) o2.cfg) ?_
      rintro v10_23 w10_23 ⟨rfl, hy⟩
      replace hs := hs.call hy
      clear hy
      try simp only [List.cons_append, List.nil_append, List.append_nil] at hs
      refine Z.lb 2 rfl ?_
      refine Z.yes (s := 111) (b := false) rfl rfl rfl ?_
      refine Z.l rfl rfl (by rfl) (Z.keepS hs) (Z.Yd.pickF rfl rfl) ?_
      refine Z.lnil ?_
      refine Z.only [2, 3, 7, 9, 116] rfl ?_
      refine Z.nthen ?_
      refine Z.cond rfl (fun h => absurd h (by simp)) (fun hc10 => ?_)
      refine Z.skip ?_
      refine Z.nthen ?_
      refine Z.seq ?_
      refine Z.seq ?_
      refine Z.region ?_
      refine Z.lb 2 rfl ?_
      refine Z.l rfl rfl (by rfl) (Z.keepS hs) (Z.Yd.buildL [(0, 1), (1, 1), (2, 1)] [.int .i64 0, .int .i64 0, .int .i64 0] rfl rfl (by intro w; kernel_rfl)) ?_
      refine Z.le rfl trivial ?_
      refine Z.ZO.call rfl rfl (by rfl) rfl rfl Try.call13 rfl (ac_answer ga _ { m2 with now := 3 } 3 (p + 1) 7 0 _ (hs.lend (L1 := [_])) o3) ?_
      rintro v12_3 w12_3 ⟨rfl, hz⟩
      replace hs := hs.regain (L1 := [_]) hz
      rw [q4]
      rw [q4] at hs
      replace hs : SX.St w [] _ [SX.Ent.blk ga 64 m4.cells.toArray, _, _] := hs
      refine Z.lb 5 rfl ?_
      refine Z.lnil ?_
      refine Z.only [2, 3, 7, 14, 15] rfl ?_
      refine Z.nthen ?_
      refine Z.seq ?_
      refine Z.region ?_
      refine Z.lb 3 rfl ?_
      refine Z.yes (s := 126) (b := false) rfl ((by simp)) rfl ?_
      refine Z.lb 2 rfl ?_
      refine Z.yes (s := 126) (b := false) rfl rfl rfl ?_
      refine Z.l rfl rfl (by rfl) (Z.keepS hs) (Z.Yd.pickF rfl rfl) ?_
      refine Z.lnil ?_
      refine Z.only [2, 3, 7, 129] rfl ?_
      refine Z.nthen ?_
      refine Z.cond rfl (fun h => absurd h (by simp)) (fun hc13 => ?_)
      refine Z.skip ?_
      refine Z.nthen ?_
      refine Z.seq ?_
      refine Z.region ?_
      refine Z.lb 1 rfl ?_
      refine Z.l rfl rfl (by rfl) (Z.keepS hs) (Z.Yd.buildL [(0, 1), (1, 1), (2, 1), (3, 1), (4, 1)] [.int .u64 0, .int .i64 0, .int .i64 0, .int .i64 0, .int .i64 0] rfl rfl (by intro w; kernel_rfl)) ?_
      refine Z.le rfl trivial ?_
      refine Z.ZO.call rfl rfl (by rfl) rfl rfl Try.call9 rfl (ac_newT o 0 1 1 1 _ ho0 hcx) ?_
      rintro v15_2 w15_2 ⟨gx, rfl, hy⟩
      replace hs := hs.call hy
      clear hy
      try simp only [List.cons_append, List.nil_append, List.append_nil] at hs
      replace hs : SX.St w [] _ ([SX.Ent.blk gx 64 (newV o 0 1 1 1).cells.toArray] ++ [_, _, _]) := hs
      refine Z.lb 5 rfl ?_
      refine Z.lnil ?_
      refine Z.only [3, 7, 16, 17] rfl ?_
      refine Z.nthen ?_
      refine Z.seq ?_
      refine Z.seq ?_
      refine Z.region ?_
      refine Z.lb 3 rfl ?_
      refine Z.yes (s := 138) (b := false) rfl ((by simp)) rfl ?_
      refine Z.lb 1 rfl ?_
      refine Z.yes (s := 138) (b := false) rfl rfl rfl ?_
      refine Z.le rfl (by exact ⟨rfl, trivial⟩) ?_
      refine Z.ZO.call rfl rfl (by rfl) rfl rfl Try.call11 rfl (ac_start gx _ (newV o 0 1 1 1) 0 _ (hs.lend (L1 := [_])) hokx) ?_
      rintro v16_4 w16_4 ⟨rfl, hz⟩
      replace hs := hs.regain (L1 := [_]) hz
      rw [x1]
      rw [x1] at hs
      refine Z.lb 1 rfl ?_
      refine Z.yes (s := 138) (b := false) rfl rfl rfl ?_
      refine Z.l rfl rfl (by rfl) (Z.keepS hs) (Z.Yd.pickF rfl rfl) ?_
      refine Z.lnil ?_
      refine Z.only [3, 7, 16, 142] rfl ?_
      refine Z.nthen ?_
      refine Z.cond rfl (fun h => absurd h (by simp)) (fun hc16 => ?_)
      refine Z.skip ?_
      refine Z.nthen ?_
      refine Z.seq ?_
      refine Z.region ?_
      refine Z.lb 1 rfl ?_
      refine Z.le rfl trivial ?_
      refine Z.ZO.call rfl rfl (by rfl) rfl rfl Try.call12 rfl (ac_send gx _ _ 0 0 _ (hs.lend (L1 := [_])) y1) ?_
      rintro v18_1 w18_1 ⟨rfl, hz⟩
      replace hs : SX.St w [] _ ([SX.Ent.blk gx 64 (sendV ⟨o, 0, 1, 1, 1, 1, 0, 0, 0, 0, 0, 0, 0⟩ 0 0).1.cells.toArray] ++ _) := hs.regain (L1 := [_]) hz
      rw [x2] at hs
      refine Z.lnil ?_
      refine Z.only [3, 7, 16] rfl ?_
      refine Z.nthen ?_
      refine Z.seq ?_
      refine Z.region ?_
      refine Z.lb 1 rfl ?_
      refine Z.l rfl rfl (by rfl) (Z.keepS hs) (Z.Yd.buildL [(0, 1), (1, 1), (2, 1)] [.int .i64 0, .int .i64 0, .int .i64 0] rfl rfl (by intro w; kernel_rfl)) ?_
      refine Z.le rfl trivial ?_
      refine Z.ZO.call rfl rfl (by rfl) rfl rfl Try.call13 rfl (ac_answer gx _ n2 3 0 7 0 _ (hs.lend (L1 := [_])) y2) ?_
      rintro v19_2 w19_2 ⟨rfl, hz⟩
      replace hs := hs.regain (L1 := [_]) hz
      rw [x3] at hs
      replace hs : SX.St w [] _ [SX.Ent.blk gx 64 n3.cells.toArray, _, _, _] := hs
      refine Z.lnil ?_
      refine Z.only [3, 7, 16] rfl ?_
      refine Z.nthen ?_
      refine Z.seq ?_
      refine Z.region ?_
      refine Z.lb 1 rfl ?_
      refine Z.le rfl trivial ?_
      refine Z.ZO.call rfl rfl (by rfl) rfl rfl Try.call15 rfl (ac_Message3 gx n3 _ (hs.celOf (cs := n3.cells) (by first | ((repeat (first | exact List.mem_cons_self | refine List.mem_cons_of_mem _ ?_ | refine List.mem_append_right _ ?_)); done) | fail)) y3.cfg (by rw [hn3])) ?_
      rintro v20_1 w20_1 ⟨u, rfl, Bm, cm, com, rfl, hy⟩
      replace hs := hs.call hy
      clear hy
      try simp only [List.cons_append, List.nil_append, List.append_nil] at hs
      rw [hC, hL]
      rw [hL] at hs
      refine Z.lb 3 rfl ?_
      refine Z.le rfl trivial ?_
      refine Z.ZO.alloc rfl rfl (by rfl) Try.zeroValue40 rfl hs ?_
      clear hs; intro g18 w18 hs
      refine Z.le rfl trivial ?_
      first | refine Z.ZO.storeA rfl rfl hs rfl rfl (by kernel_rfl) (by first | (simp [Value.oneCell']; done) | (refine Z.all_one ?_; assumption)) (by first | exact SX.at0 | exact SX.at1 | exact SX.at2 | exact SX.at3 | exact SX.at4 | exact SX.at5 | exact Z.at6 | exact Z.at7 | exact Z.at8 | exact Z.at9 | exact Z.at10 | exact Z.at11 | exact Z.at12) (by rfl) ?_ | refine Z.ZO.storeP rfl rfl hs rfl rfl (by kernel_rfl) (by first | (simp [Value.oneCell']; done) | (refine Z.all_one ?_; assumption)) (by first | exact SX.at0 | exact SX.at1 | exact SX.at2 | exact SX.at3 | exact SX.at4 | exact SX.at5 | exact Z.at6 | exact Z.at7 | exact Z.at8 | exact Z.at9 | exact Z.at10 | exact Z.at11 | exact Z.at12) (by first | decide | (simp; done) | (simp; omega)) ?_ | refine Z.ZO.storePR rfl rfl hs rfl rfl (by kernel_rfl) (by first | (simp [Value.oneCell']; done) | (refine Z.all_one ?_; assumption)) (by first | exact SX.at0 | exact SX.at1 | exact SX.at2 | exact SX.at3 | exact SX.at4 | exact SX.at5 | exact Z.at6 | exact Z.at7 | exact Z.at8 | exact Z.at9 | exact Z.at10 | exact Z.at11 | exact Z.at12) (by first | decide | (simp; done) | (simp; omega)) ?_
      clear hs; intro ws hs
      simp only [Nat.zero_add, Nat.add_zero, Nat.reduceAdd, Int.reduceToNat, Nat.reduceMul, List.set_cons_zero, List.set_cons_succ, List.setIfInBounds_toArray] at hs
      try simp only [Z.putL, Nat.zero_add] at hs
      refine Z.lb 1 rfl ?_
      refine Z.lnil ?_
      refine Z.only [3, 7, 18, 19] rfl ?_
      refine Z.nthen ?_
      refine Z.seq ?_
      refine Z.region ?_
      refine Z.lb 1 rfl ?_
      refine Z.l rfl rfl (by rfl) (Z.keepS hs) (by first | exact Z.Yd.loadA _ rfl Try.isAgg40 (fun _ => Z.cellsB (by first | ((repeat (first | exact List.mem_cons_self | refine List.mem_cons_of_mem _ ?_ | refine List.mem_append_right _ ?_)); done) | fail)) (by exact Try.sizeOf40) | fail "load 21.1") ?_
      replace hs : SX.St w [] _ ([SX.Ent.blk ga 64 m4.cells.toArray] ++ [_, _, _, _, _]) := hs.sel [3, 1, 0, 2, 4, 5] (by decide)
      refine Z.le rfl trivial ?_
      refine Z.ZO.call rfl rfl (by rfl) rfl rfl Try.call16 rfl (ac_resolve ga _ m4 3 28 Bm (be 6 o).length cm (be 6 o) _ hs.lend o4 (Z.row_lentv hs (j := 0) rfl) rfl (by omega) hbb) ?_
      rintro v21_2 w21_2 ⟨rfl, hz⟩
      replace hs := hs.regain hz
      rw [q5]
      rw [q5] at hs
      replace hs : SX.St w [] _ [SX.Ent.blk ga 64 (failV { m4 with now := 3 }).cells.toArray, _, _, _, _, _] := hs
      refine Z.lb 5 rfl ?_
      refine Z.lnil ?_
      refine Z.only [3, 7, 19, 20, 21] rfl ?_
      refine Z.nthen ?_
      refine Z.seq ?_
      refine Z.region ?_
      refine Z.lb 3 rfl ?_
      refine Z.yes (s := 161) (b := true) rfl ((by simp)) rfl ?_
      refine Z.lb 2 rfl ?_
      refine Z.yes (s := 161) (b := true) rfl rfl rfl ?_
      refine Z.l rfl rfl (by rfl) (Z.keepS hs) (Z.Yd.pickT rfl rfl) ?_
      refine Z.lb 1 rfl ?_
      refine Z.yes (s := 165) (b := true) rfl ((by simp)) rfl ?_
      refine Z.lb 2 rfl ?_
      refine Z.yes (s := 165) (b := true) rfl rfl rfl ?_
      refine Z.l rfl rfl (by rfl) (Z.keepS hs) (Z.Yd.pickT rfl rfl) ?_
      refine Z.lb 1 rfl ?_
      refine Z.yes (s := 169) (b := true) rfl ((by simp)) rfl ?_
      refine Z.lb 1 rfl ?_
      refine Z.yes (s := 169) (b := true) rfl rfl rfl ?_
      refine Z.le rfl (by exact ⟨rfl, trivial⟩) ?_
      refine Z.ZO.call rfl rfl (by rfl) rfl rfl Try.call14 rfl (ac_RNTI ga (failV { m4 with now := 3 }) _ (hs.celOf (cs := (failV { m4 with now := 3 }).cells) (by first | ((repeat (first | exact List.mem_cons_self | refine List.mem_cons_of_mem _ ?_ | refine List.mem_append_right _ ?_)); done) | fail)) o5.cfg) ?_
      rintro v22_12 w22_12 ⟨rfl, hy⟩
      replace hs := hs.call hy
      clear hy
      try simp only [List.cons_append, List.nil_append, List.append_nil] at hs
      rw [q7]
      refine Z.lb 1 rfl ?_
      refine Z.yes (s := 169) (b := true) rfl rfl rfl ?_
      refine Z.l rfl rfl (by rfl) (Z.keepS hs) (Z.Yd.pickT rfl rfl) ?_
      refine Z.lb 1 rfl ?_
      refine Z.yes (s := 174) (b := true) rfl ((by simp)) rfl ?_
      refine Z.lb 1 rfl ?_
      refine Z.yes (s := 174) (b := true) rfl rfl rfl ?_
      refine Z.le rfl (by exact ⟨rfl, trivial⟩) ?_
      refine Z.ZO.call rfl rfl (by rfl) rfl rfl Try.call17 rfl (ac_State ga (failV { m4 with now := 3 }) _ (hs.celOf (cs := (failV { m4 with now := 3 }).cells) (by first | ((repeat (first | exact List.mem_cons_self | refine List.mem_cons_of_mem _ ?_ | refine List.mem_append_right _ ?_)); done) | fail)) o5.cfg) ?_
      rintro v22_17 w22_17 ⟨rfl, hy⟩
      replace hs := hs.call hy
      clear hy
      try simp only [List.cons_append, List.nil_append, List.append_nil] at hs
      refine Z.lb 2 rfl ?_
      refine Z.yes (s := 174) (b := true) rfl rfl rfl ?_
      refine Z.split (s := 178) rfl (fun hsp178 => ?_) (fun hsp178 => ?_)
      · first
          | (exfalso; simp at hsp178 <;> omega)
          | (
            refine Z.yes (s := 178) (b := true) rfl hsp178 rfl ?_
            (try simp at hsp178)
            refine Z.ls rfl rfl rfl (by rfl) ?_
            refine Z.ls rfl rfl rfl (by rfl) ?_
            refine Z.ls rfl rfl rfl (by rfl) ?_
            refine Z.ls rfl rfl rfl (by rfl) ?_
            refine Z.lsU rfl rfl rfl (by rfl) ?_
            refine Z.lsU rfl rfl rfl (by rfl) ?_
            refine Z.lsU rfl rfl rfl (by rfl) ?_
            refine Z.ls rfl rfl rfl (by rfl) ?_
            refine Z.l rfl rfl (by rfl) (Z.keepS hs) (Z.Yd.pickT rfl rfl) ?_
            refine Z.yes (s := 174) (b := true) rfl rfl rfl ?_
            refine Z.l rfl rfl (by rfl) (Z.keepS hs) (Z.Yd.pickT rfl rfl) ?_
            refine Z.lb 1 rfl ?_
            refine Z.yes (s := 189) (b := true) rfl ((by first | (simp; done) | (simp [q8.2]; done))) rfl ?_
            refine Z.le rfl (by exact ⟨rfl, trivial⟩) ?_
            refine Z.ZO.call rfl rfl (by rfl) rfl rfl Try.call10 rfl (ac_known _) ?_
            rintro v22_31 w22_31 ⟨rfl, hy⟩
            replace hs := hs.call hy
            clear hy
            try simp only [List.cons_append, List.nil_append, List.append_nil] at hs
            refine Z.l rfl rfl (by rfl) (Z.keepS hs) (Z.Yd.pickT rfl rfl) ?_
            refine Z.lb 1 rfl ?_
            refine Z.lnil ?_
            refine Z.only [6] rfl ?_
            refine Z.nthen ?_
            refine Z.ret ?_
            -- ret#0
            refine Z.out1 (by exact ⟨rfl, trivial⟩) ?_
            first | exact ⟨_, rfl, rfl, hs⟩ | exact ⟨_, rfl, rfl, hs.sub (List.nil_sublist _)⟩
            )
      · first
          | (exfalso; simp at hsp178 <;> omega)
          | (
            refine Z.yes (s := 178) (b := false) rfl hsp178 rfl ?_
            (try simp at hsp178)
            have q8 := q6.resolve_left (by assumption)
            refine Z.lb 1 rfl ?_
            refine Z.yes (s := 178) (b := false) rfl rfl rfl ?_
            refine Z.le rfl (by exact ⟨rfl, trivial⟩) ?_
            refine Z.ZO.call rfl rfl (by rfl) rfl rfl Try.call17 rfl (ac_State ga (failV { m4 with now := 3 }) _ (hs.celOf (cs := (failV { m4 with now := 3 }).cells) (by first | ((repeat (first | exact List.mem_cons_self | refine List.mem_cons_of_mem _ ?_ | refine List.mem_append_right _ ?_)); done) | fail)) o5.cfg) ?_
            rintro v22_21 w22_21 ⟨rfl, hy⟩
            replace hs := hs.call hy
            clear hy
            try simp only [List.cons_append, List.nil_append, List.append_nil] at hs
            refine Z.lb 2 rfl ?_
            refine Z.yes (s := 178) (b := false) rfl rfl rfl ?_
            refine Z.yes (s := 182) (b := true) rfl ((by simp [q8.1])) rfl ?_
            refine Z.l rfl rfl (by rfl) (Z.keepS hs) (Z.Yd.fieldA (m := 4) rfl (by kernel_rfl)) ?_
            refine Z.l rfl rfl (by rfl) (Z.keepS hs) (by first | exact Z.Yd.load rfl Try.isAgg3 (fun _ => Z.cellB (by first | ((repeat (first | exact List.mem_cons_self | refine List.mem_cons_of_mem _ ?_ | refine List.mem_append_right _ ?_)); done) | fail) rfl) | exact Z.Yd.load rfl Try.isAgg3 (fun _ => Z.cellO (by assumption) (by simp) (by assumption)) | fail "load 22.25") ?_
            refine Z.lb 1 rfl ?_
            refine Z.yes (s := 182) (b := true) rfl rfl rfl ?_
            refine Z.l rfl rfl (by rfl) (Z.keepS hs) (Z.Yd.pickT rfl rfl) ?_
            refine Z.yes (s := 178) (b := false) rfl rfl rfl ?_
            refine Z.l rfl rfl (by rfl) (Z.keepS hs) (Z.Yd.pickF rfl rfl) ?_
            refine Z.yes (s := 174) (b := true) rfl rfl rfl ?_
            refine Z.l rfl rfl (by rfl) (Z.keepS hs) (Z.Yd.pickT rfl rfl) ?_
            refine Z.lb 1 rfl ?_
            refine Z.yes (s := 189) (b := true) rfl ((by first | (simp; done) | (simp [q8.2]; done))) rfl ?_
            refine Z.le rfl (by exact ⟨rfl, trivial⟩) ?_
            refine Z.ZO.call rfl rfl (by rfl) rfl rfl Try.call10 rfl (ac_known _) ?_
            rintro v22_31 w22_31 ⟨rfl, hy⟩
            replace hs := hs.call hy
            clear hy
            try simp only [List.cons_append, List.nil_append, List.append_nil] at hs
            refine Z.l rfl rfl (by rfl) (Z.keepS hs) (Z.Yd.pickT rfl rfl) ?_
            refine Z.lb 1 rfl ?_
            refine Z.lnil ?_
            refine Z.only [6] rfl ?_
            refine Z.nthen ?_
            refine Z.ret ?_
            -- ret#1
            refine Z.out1 (by exact ⟨rfl, trivial⟩) ?_
            first | exact ⟨_, rfl, rfl, hs⟩ | exact ⟨_, rfl, rfl, hs.sub (List.nil_sublist _)⟩
            )
    · skip
      refine Z.enter Try.func4 rfl Try.ntmps4 rfl rfl ?_
      refine Z.seq ?_
      refine Z.region ?_
      refine Z.le rfl trivial ?_
      refine Z.ZO.box rfl rfl (by rfl) rfl rfl hs ?_
      clear hs; intro g3 w3 hs
      refine Z.le rfl trivial ?_
      refine Z.ZO.box rfl rfl (by rfl) rfl rfl hs ?_
      clear hs; intro g4 w4 hs
      refine Z.lb 1 rfl ?_
      refine Z.lnil ?_
      refine Z.only [2, 3, 4] rfl ?_
      refine Z.nthen ?_
      refine Z.seq ?_
      refine Z.region ?_
      refine Z.l rfl rfl (by rfl) (Z.keepS hs) (Z.Yd.fieldA (m := 1) rfl (by kernel_rfl)) ?_
      refine Z.le rfl trivial ?_
      first | refine Z.ZO.store rfl rfl hs Try.sizeOf3 rfl rfl rfl (by first | exact SX.at0 | exact SX.at1 | exact SX.at2 | exact SX.at3 | exact SX.at4 | exact SX.at5 | exact Z.at6 | exact Z.at7 | exact Z.at8 | exact Z.at9 | exact Z.at10 | exact Z.at11 | exact Z.at12) (by first | (simp; done) | (simp; omega)) ?_ | refine Z.ZO.storeR rfl rfl hs Try.sizeOf3 rfl rfl rfl (by first | exact SX.at0 | exact SX.at1 | exact SX.at2 | exact SX.at3 | exact SX.at4 | exact SX.at5 | exact Z.at6 | exact Z.at7 | exact Z.at8 | exact Z.at9 | exact Z.at10 | exact Z.at11 | exact Z.at12) (by first | omega | (simp [ints_length]; done) | (simp [ints_length]; omega)) ?_
      clear hs; intro ws hs
      simp only [Nat.zero_add, Nat.add_zero, Nat.reduceAdd, Int.reduceToNat, Nat.reduceMul, List.set_cons_zero, List.set_cons_succ, List.setIfInBounds_toArray] at hs
      refine Z.lnil ?_
      refine Z.only [2, 3, 4] rfl ?_
      refine Z.nthen ?_
      refine Z.seq ?_
      refine Z.region ?_
      refine Z.l rfl rfl (by rfl) (Z.keepS hs) (by first | exact Z.Yd.loadA _ rfl Try.isAgg24 (fun _ => Z.cellsB (by first | ((repeat (first | exact List.mem_cons_self | refine List.mem_cons_of_mem _ ?_ | refine List.mem_append_right _ ?_)); done) | fail)) (by exact Try.sizeOf24) | fail "load 2.0") ?_
      refine Z.le rfl trivial ?_
      refine Z.ZO.call rfl rfl (by rfl) rfl rfl Try.call9 rfl (ac_newT i 0 n c x _ hi hc) ?_
      rintro v2_1 w2_1 ⟨ga, rfl, hy⟩
      replace hs := hs.call hy
      clear hy
      try simp only [List.cons_append, List.nil_append, List.append_nil] at hs
      refine Z.lb 5 rfl ?_
      refine Z.lnil ?_
      refine Z.only [2, 3, 4, 7, 8] rfl ?_
      refine Z.nthen ?_
      refine Z.seq ?_
      refine Z.seq ?_
      refine Z.region ?_
      refine Z.lb 3 rfl ?_
      refine Z.l rfl rfl (by rfl) (Z.keepS hs) (Z.Yd.fieldA (m := 0) rfl (by kernel_rfl)) ?_
      refine Z.l rfl rfl (by rfl) (Z.keepS hs) (by first | exact Z.Yd.load rfl Try.isAgg3 (fun _ => Z.cellB (by first | ((repeat (first | exact List.mem_cons_self | refine List.mem_cons_of_mem _ ?_ | refine List.mem_append_right _ ?_)); done) | fail) rfl) | exact Z.Yd.load rfl Try.isAgg3 (fun _ => Z.cellO (by assumption) (by simp) (by assumption)) | fail "load 3.4") ?_
      refine Z.lb 3 rfl ?_
      refine Z.l rfl rfl (by rfl) (Z.keepS hs) (Z.Yd.fieldA (m := 0) rfl (by kernel_rfl)) ?_
      refine Z.l rfl rfl (by rfl) (Z.keepS hs) (by first | exact Z.Yd.load rfl Try.isAgg3 (fun _ => Z.cellB (by first | ((repeat (first | exact List.mem_cons_self | refine List.mem_cons_of_mem _ ?_ | refine List.mem_append_right _ ?_)); done) | fail) rfl) | exact Z.Yd.load rfl Try.isAgg3 (fun _ => Z.cellO (by assumption) (by simp) (by assumption)) | fail "load 3.9") ?_
      refine Z.lb 3 rfl ?_
      refine Z.l rfl rfl (by rfl) (Z.keepS hs) (Z.Yd.fieldA (m := 1) rfl (by kernel_rfl)) ?_
      refine Z.l rfl rfl (by rfl) (Z.keepS hs) (by first | exact Z.Yd.load rfl Try.isAgg3 (fun _ => Z.cellB (by first | ((repeat (first | exact List.mem_cons_self | refine List.mem_cons_of_mem _ ?_ | refine List.mem_append_right _ ?_)); done) | fail) rfl) | exact Z.Yd.load rfl Try.isAgg3 (fun _ => Z.cellO (by assumption) (by simp) (by assumption)) | fail "load 3.14") ?_
      refine Z.lb 3 rfl ?_
      refine Z.l rfl rfl (by rfl) (Z.keepS hs) (Z.Yd.fieldA (m := 1) rfl (by kernel_rfl)) ?_
      refine Z.l rfl rfl (by rfl) (Z.keepS hs) (by first | exact Z.Yd.load rfl Try.isAgg3 (fun _ => Z.cellB (by first | ((repeat (first | exact List.mem_cons_self | refine List.mem_cons_of_mem _ ?_ | refine List.mem_append_right _ ?_)); done) | fail) rfl) | exact Z.Yd.load rfl Try.isAgg3 (fun _ => Z.cellO (by assumption) (by simp) (by assumption)) | fail "load 3.19") ?_
      refine Z.lb 3 rfl ?_
      refine Z.l rfl rfl (by rfl) (Z.keepS hs) (Z.Yd.fieldA (m := 2) rfl (by kernel_rfl)) ?_
      refine Z.l rfl rfl (by rfl) (Z.keepS hs) (by first | exact Z.Yd.load rfl Try.isAgg3 (fun _ => Z.cellB (by first | ((repeat (first | exact List.mem_cons_self | refine List.mem_cons_of_mem _ ?_ | refine List.mem_append_right _ ?_)); done) | fail) rfl) | exact Z.Yd.load rfl Try.isAgg3 (fun _ => Z.cellO (by assumption) (by simp) (by assumption)) | fail "load 3.24") ?_
      refine Z.lb 3 rfl ?_
      refine Z.l rfl rfl (by rfl) (Z.keepS hs) (Z.Yd.fieldA (m := 2) rfl (by kernel_rfl)) ?_
      refine Z.l rfl rfl (by rfl) (Z.keepS hs) (by first | exact Z.Yd.load rfl Try.isAgg3 (fun _ => Z.cellB (by first | ((repeat (first | exact List.mem_cons_self | refine List.mem_cons_of_mem _ ?_ | refine List.mem_append_right _ ?_)); done) | fail) rfl) | exact Z.Yd.load rfl Try.isAgg3 (fun _ => Z.cellO (by assumption) (by simp) (by assumption)) | fail "load 3.29") ?_
      refine Z.lb 8 rfl ?_
      refine Z.l rfl rfl (by rfl) (Z.keepS hs) (Z.Yd.fieldA (m := 0) rfl (by kernel_rfl)) ?_
      refine Z.l rfl rfl (by rfl) (Z.keepS hs) (by first | exact Z.Yd.load rfl Try.isAgg22 (fun _ => Z.cellB (by first | ((repeat (first | exact List.mem_cons_self | refine List.mem_cons_of_mem _ ?_ | refine List.mem_append_right _ ?_)); done) | fail) rfl) | exact Z.Yd.load rfl Try.isAgg22 (fun _ => Z.cellO (by assumption) (by simp) (by assumption)) | fail "load 3.39") ?_
      refine Z.lb 2 rfl ?_
      refine Z.lnil ?_
      refine Z.only [2, 3, 4, 7, 69] rfl ?_
      refine Z.nthen ?_
      refine Z.cond rfl (fun hc3 => ?_) (fun h => absurd h (by simp; omega))
      refine Z.seq ?_
      refine Z.region ?_
      refine Z.le rfl trivial ?_
      refine Z.ZO.call rfl rfl (by rfl) rfl rfl Try.call10 rfl (ac_known _) ?_
      rintro v4_0 w4_0 ⟨rfl, hy⟩
      replace hs := hs.call hy
      clear hy
      try simp only [List.cons_append, List.nil_append, List.append_nil] at hs
      refine Z.lb 1 rfl ?_
      refine Z.lnil ?_
      refine Z.only [6] rfl ?_
      refine Z.nthen ?_
      refine Z.ret ?_
      repeat (first | refine Z.rthen ?_ | refine Z.rblock ?_ | refine Z.rscope ?_)
      -- ret#0
      refine Z.out1 (by exact ⟨rfl, trivial⟩) ?_
      first | exact ⟨_, rfl, rfl, hs⟩ | exact ⟨_, rfl, rfl, hs.sub (List.nil_sublist _)⟩
  · skip
    refine Z.enter Try.func4 rfl Try.ntmps4 rfl rfl ?_
    refine Z.seq ?_
    refine Z.region ?_
    refine Z.le rfl trivial ?_
    refine Z.ZO.box rfl rfl (by rfl) rfl rfl hs ?_
    clear hs; intro g3 w3 hs
    refine Z.le rfl trivial ?_
    refine Z.ZO.box rfl rfl (by rfl) rfl rfl hs ?_
    clear hs; intro g4 w4 hs
    refine Z.lb 1 rfl ?_
    refine Z.lnil ?_
    refine Z.only [2, 3, 4] rfl ?_
    refine Z.nthen ?_
    refine Z.seq ?_
    refine Z.region ?_
    refine Z.l rfl rfl (by rfl) (Z.keepS hs) (Z.Yd.fieldA (m := 1) rfl (by kernel_rfl)) ?_
    refine Z.le rfl trivial ?_
    first | refine Z.ZO.store rfl rfl hs Try.sizeOf3 rfl rfl rfl (by first | exact SX.at0 | exact SX.at1 | exact SX.at2 | exact SX.at3 | exact SX.at4 | exact SX.at5 | exact Z.at6 | exact Z.at7 | exact Z.at8 | exact Z.at9 | exact Z.at10 | exact Z.at11 | exact Z.at12) (by first | (simp; done) | (simp; omega)) ?_ | refine Z.ZO.storeR rfl rfl hs Try.sizeOf3 rfl rfl rfl (by first | exact SX.at0 | exact SX.at1 | exact SX.at2 | exact SX.at3 | exact SX.at4 | exact SX.at5 | exact Z.at6 | exact Z.at7 | exact Z.at8 | exact Z.at9 | exact Z.at10 | exact Z.at11 | exact Z.at12) (by first | omega | (simp [ints_length]; done) | (simp [ints_length]; omega)) ?_
    clear hs; intro ws hs
    simp only [Nat.zero_add, Nat.add_zero, Nat.reduceAdd, Int.reduceToNat, Nat.reduceMul, List.set_cons_zero, List.set_cons_succ, List.setIfInBounds_toArray] at hs
    refine Z.lnil ?_
    refine Z.only [2, 3, 4] rfl ?_
    refine Z.nthen ?_
    refine Z.seq ?_
    refine Z.region ?_
    refine Z.l rfl rfl (by rfl) (Z.keepS hs) (by first | exact Z.Yd.loadA _ rfl Try.isAgg24 (fun _ => Z.cellsB (by first | ((repeat (first | exact List.mem_cons_self | refine List.mem_cons_of_mem _ ?_ | refine List.mem_append_right _ ?_)); done) | fail)) (by exact Try.sizeOf24) | fail "load 2.0") ?_
    refine Z.le rfl trivial ?_
    refine Z.ZO.call rfl rfl (by rfl) rfl rfl Try.call9 rfl (ac_newF i 0 n c x _ hi hc) ?_
    rintro v2_1 w2_1 ⟨rfl, hy⟩
    replace hs := hs.call hy
    clear hy
    try simp only [List.cons_append, List.nil_append, List.append_nil] at hs
    refine Z.lb 5 rfl ?_
    refine Z.lnil ?_
    refine Z.only [2, 3, 4, 7, 8] rfl ?_
    refine Z.nthen ?_
    refine Z.seq ?_
    refine Z.seq ?_
    refine Z.region ?_
    refine Z.lb 3 rfl ?_
    refine Z.l rfl rfl (by rfl) (Z.keepS hs) (Z.Yd.fieldA (m := 0) rfl (by kernel_rfl)) ?_
    refine Z.l rfl rfl (by rfl) (Z.keepS hs) (by first | exact Z.Yd.load rfl Try.isAgg3 (fun _ => Z.cellB (by first | ((repeat (first | exact List.mem_cons_self | refine List.mem_cons_of_mem _ ?_ | refine List.mem_append_right _ ?_)); done) | fail) rfl) | exact Z.Yd.load rfl Try.isAgg3 (fun _ => Z.cellO (by assumption) (by simp) (by assumption)) | fail "load 3.4") ?_
    refine Z.lb 3 rfl ?_
    refine Z.l rfl rfl (by rfl) (Z.keepS hs) (Z.Yd.fieldA (m := 0) rfl (by kernel_rfl)) ?_
    refine Z.l rfl rfl (by rfl) (Z.keepS hs) (by first | exact Z.Yd.load rfl Try.isAgg3 (fun _ => Z.cellB (by first | ((repeat (first | exact List.mem_cons_self | refine List.mem_cons_of_mem _ ?_ | refine List.mem_append_right _ ?_)); done) | fail) rfl) | exact Z.Yd.load rfl Try.isAgg3 (fun _ => Z.cellO (by assumption) (by simp) (by assumption)) | fail "load 3.9") ?_
    refine Z.lb 3 rfl ?_
    refine Z.l rfl rfl (by rfl) (Z.keepS hs) (Z.Yd.fieldA (m := 1) rfl (by kernel_rfl)) ?_
    refine Z.l rfl rfl (by rfl) (Z.keepS hs) (by first | exact Z.Yd.load rfl Try.isAgg3 (fun _ => Z.cellB (by first | ((repeat (first | exact List.mem_cons_self | refine List.mem_cons_of_mem _ ?_ | refine List.mem_append_right _ ?_)); done) | fail) rfl) | exact Z.Yd.load rfl Try.isAgg3 (fun _ => Z.cellO (by assumption) (by simp) (by assumption)) | fail "load 3.14") ?_
    refine Z.lb 3 rfl ?_
    refine Z.l rfl rfl (by rfl) (Z.keepS hs) (Z.Yd.fieldA (m := 1) rfl (by kernel_rfl)) ?_
    refine Z.l rfl rfl (by rfl) (Z.keepS hs) (by first | exact Z.Yd.load rfl Try.isAgg3 (fun _ => Z.cellB (by first | ((repeat (first | exact List.mem_cons_self | refine List.mem_cons_of_mem _ ?_ | refine List.mem_append_right _ ?_)); done) | fail) rfl) | exact Z.Yd.load rfl Try.isAgg3 (fun _ => Z.cellO (by assumption) (by simp) (by assumption)) | fail "load 3.19") ?_
    refine Z.lb 3 rfl ?_
    refine Z.l rfl rfl (by rfl) (Z.keepS hs) (Z.Yd.fieldA (m := 2) rfl (by kernel_rfl)) ?_
    refine Z.l rfl rfl (by rfl) (Z.keepS hs) (by first | exact Z.Yd.load rfl Try.isAgg3 (fun _ => Z.cellB (by first | ((repeat (first | exact List.mem_cons_self | refine List.mem_cons_of_mem _ ?_ | refine List.mem_append_right _ ?_)); done) | fail) rfl) | exact Z.Yd.load rfl Try.isAgg3 (fun _ => Z.cellO (by assumption) (by simp) (by assumption)) | fail "load 3.24") ?_
    refine Z.lb 3 rfl ?_
    refine Z.l rfl rfl (by rfl) (Z.keepS hs) (Z.Yd.fieldA (m := 2) rfl (by kernel_rfl)) ?_
    refine Z.l rfl rfl (by rfl) (Z.keepS hs) (by first | exact Z.Yd.load rfl Try.isAgg3 (fun _ => Z.cellB (by first | ((repeat (first | exact List.mem_cons_self | refine List.mem_cons_of_mem _ ?_ | refine List.mem_append_right _ ?_)); done) | fail) rfl) | exact Z.Yd.load rfl Try.isAgg3 (fun _ => Z.cellO (by assumption) (by simp) (by assumption)) | fail "load 3.29") ?_
    refine Z.lb 8 rfl ?_
    refine Z.l rfl rfl (by rfl) (Z.keepS hs) (Z.Yd.fieldA (m := 0) rfl (by kernel_rfl)) ?_
    refine Z.l rfl rfl (by rfl) (Z.keepS hs) (by first | exact Z.Yd.load rfl Try.isAgg22 (fun _ => Z.cellB (by first | ((repeat (first | exact List.mem_cons_self | refine List.mem_cons_of_mem _ ?_ | refine List.mem_append_right _ ?_)); done) | fail) rfl) | exact Z.Yd.load rfl Try.isAgg22 (fun _ => Z.cellO (by assumption) (by simp) (by assumption)) | fail "load 3.39") ?_
    refine Z.lb 2 rfl ?_
    refine Z.lnil ?_
    refine Z.only [2, 3, 4, 7, 69] rfl ?_
    refine Z.nthen ?_
    refine Z.cond rfl (fun hc3 => ?_) (fun h => absurd h (by simp))
    refine Z.seq ?_
    refine Z.region ?_
    refine Z.le rfl trivial ?_
    refine Z.ZO.call rfl rfl (by rfl) rfl rfl Try.call10 rfl (ac_known _) ?_
    rintro v4_0 w4_0 ⟨rfl, hy⟩
    replace hs := hs.call hy
    clear hy
    try simp only [List.cons_append, List.nil_append, List.append_nil] at hs
    refine Z.lb 1 rfl ?_
    refine Z.lnil ?_
    refine Z.only [6] rfl ?_
    refine Z.nthen ?_
    refine Z.ret ?_
    repeat (first | refine Z.rthen ?_ | refine Z.rblock ?_ | refine Z.rscope ?_)
    -- ret#0
    refine Z.out1 (by exact ⟨rfl, trivial⟩) ?_
    first | exact ⟨_, rfl, rfl, hs⟩ | exact ⟨_, rfl, rfl, hs.sub (List.nil_sublist _)⟩
theorem rd_resp27 {W : World} {cs : List Value} (z : Rd Try.prog W 36 cs) : ∃ p q b : Int, cs = [.int .i64 p, .int .i64 q, .int .i64 b] := by
  obtain ⟨hl, hf⟩ := Rd.field Try.underlying36 z
  have c3 : Try.prog.cellsOf 36 = 3 := by kernel_rfl
  have c1 : Try.prog.cellsOf 3 = 1 := by kernel_rfl
  rw [c3] at hl
  obtain ⟨x0, x1, x2, rfl⟩ := list3 hl
  obtain ⟨b, hb, -⟩ := Rd.int Try.underlying3 (hf 0 _ rfl)
  obtain ⟨p, hp, -⟩ := Rd.int Try.underlying3 (hf 1 _ rfl)
  obtain ⟨q, hq, -⟩ := Rd.int Try.underlying3 (hf 2 _ rfl)
  simp [c1] at hb hp hq
  subst hb hp hq
  exact ⟨b, p, q, rfl⟩
theorem accessForeign_rd (cs0 cs1 : Array Value) (a2 : Int) (w : World) (z0 : Rd Try.prog w 24 (Value.agg cs0).cells.toList) (z1 : Rd Try.prog w 36 (Value.agg cs1).cells.toList) (z2 : Rd Try.prog w 22 (Value.int .u64 a2).cells.toList) :
    Calls Try.prog 4 #[.agg cs0, .agg cs1, .int .u64 a2] w fun e w' => e = .returned (.bool true) ∧ Below w.heap.size w w' := by
  obtain ⟨i, r, n, c, x, hr, hi⟩ := rd_cfg27 z0
  have e : cs0 = #[.int .u64 i, .int .i64 r, .int .i64 n, .int .i64 c, .int .i64 x] := by
    have : cs0.toList = [.int .u64 i, .int .i64 r, .int .i64 n, .int .i64 c, .int .i64 x] := by simpa [Value.cells] using hr
    exact Array.toList_inj.1 this
  obtain ⟨p, q, b, hr1⟩ := rd_resp27 z1
  have e1 : cs1 = #[.int .i64 p, .int .i64 q, .int .i64 b] := by
    have : cs1.toList = [.int .i64 p, .int .i64 q, .int .i64 b] := by simpa [Value.cells] using hr1
    exact Array.toList_inj.1 this
  obtain ⟨o, ho, wo⟩ := Rd.int Try.underlying22 z2
  simp [Value.cells] at ho
  subst ho
  rw [e, e1]
  refine (accessForeign_walk i r n c x p q b a2 w hi.1 (wf_u64 wo).1).mono ?_
  rintro e w' ⟨v, rfl, rfl, h⟩
  exact ⟨rfl, h.below⟩
end Go.Proofs.Ytjgfooakcljddaa
