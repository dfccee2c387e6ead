/- Part 6 of the proofs that lead to the statement. -/
import Derived.Test.YtogjkgoiofngaaaY5
import Derived.Lib.ConvBytes
/- MAC PDUs: the subheaders read. -/
namespace Go.Proofs.Ytogjkgoiofngaaa
open Go.RowKit
set_option linter.unusedSimpArgs false
set_option linter.unusedVariables false
--newlaws

theorem mm_bits_any (g T : Nat) (sv : Value) (l : List Int) (a n : Nat) (w : World) (hs : SX.St w (SX.idsOf (RdL g T sv l a)) w (RdL g T sv l a)) (hl : l.length ≤ 1000000) (hb : ∀ x ∈ l, 0 ≤ x ∧ x < 256) (ha : a ≤ 8 * l.length) (hn : n ≤ 32) :
    Calls Try.prog 55 #[.agg #[.pointer (some ⟨g, 0, none⟩)], .int .i64 (n : Int)] w (Z.Bo (fun v w' => a + n ≤ 8 * l.length ∧ v = .int .i64 (getV l a n) ∧ SX.St w (SX.idsOf (RdL g T sv l a)) w' (RdL g T sv l (a + n))) fun c w' => ¬ a + n ≤ 8 * l.length ∧ c = mperr 5 ∧ ∃ a', SX.St w (SX.idsOf (RdL g T sv l a)) w' (RdL g T sv l a')) := by
  by_cases h : a + n ≤ 8 * l.length
  · exact Z.Bo.ret ((mm_bits_ok g T sv l a n w hs hl hb h hn).mono fun e w' ⟨v, h1, h2⟩ => ⟨v, h1, h, h2⟩)
  · exact Z.Bo.pan ((mm_bits_bad g T sv l a n w hs hl hb ha h hn).mono fun e w' ⟨v, h1, h2⟩ => ⟨v, h1, h, h2⟩)
/-- a subheader that is not allowed -/
def hdBad (b : Int) (cnt : Nat) (data part : Bool) : Prop :=
  ¬ (b / 64 = 0 ∧ (sduB (b % 32) ∨ ctlN (b % 32) ≠ 0 ∨ b % 32 = 31)) ∨ (ctlN (b % 32) ≠ 0 ∧ data = true) ∨ (b % 32 = 31 ∧ b / 32 % 2 = 1 ∧ (part = true ∨ ¬ cnt < 2))
instance (b : Int) (cnt : Nat) (data part : Bool) : Decidable (hdBad b cnt data part) := by unfold hdBad; infer_instance
/-- the subheaders from byte p on: error, subheaders, end -/
def hGo (l : List Int) : Nat → Nat → List (Int × Int) → Bool → Bool → Int × List (Int × Int) × Nat
  | 0, _, _, _, _ => (5, [], 0)
  | F + 1, p, acc, data, part =>
    if ¬ p < l.length then (5, [], 0)
    else if hdBad (byB l p) acc.length data part then (9, [], 0)
    else if byB l p / 32 % 2 = 1 then
      if sduB (byB l p % 32) then
        if lnE l (p + 1) ≠ 0 then (lnE l (p + 1), [], 0)
        else hGo l F (lnP l (p + 1)) (acc ++ [(byB l p % 32, lnV l (p + 1))]) (data || decide (sduB (byB l p % 32))) (part || decide (byB l p % 32 ≠ 31))
      else hGo l F (p + 1) (acc ++ [(byB l p % 32, -1)]) (data || decide (sduB (byB l p % 32))) (part || decide (byB l p % 32 ≠ 31))
    else (0, acc ++ [(byB l p % 32, -1)], p + 1)
def encH (h : Int × Int) : List Value := [.int .i64 h.1, .int .i64 h.2]
theorem encH_len (h : Int × Int) : (encH h).length = 2 := rfl
theorem lnP_le {l : List Int} {p : Nat} (h : lnE l p = 0) : p < lnP l p ∧ lnP l p ≤ l.length := by
  unfold lnE at h
  unfold lnP
  by_cases h1 : p < l.length
  · rw [if_neg (fun k => k h1)] at h
    by_cases h2 : byB l p < 128
    · rw [if_pos h2]; omega
    · rw [if_neg h2] at h ⊢
      by_cases h3 : p + 1 < l.length
      · omega
      · rw [if_pos h3] at h; cases h
  · rw [if_pos h1] at h; cases h
theorem bad7 {b : Int} {cnt : Nat} {data part : Bool} (h : (decide (sduB (b % 32)) || decide (ctlN (b % 32) ≠ 0) || b % 32 == 31) = false) : hdBad b cnt data part := by
  refine .inl fun hh => ?_
  simp at h
  rcases hh.2 with h1 | h1 | h1
  · exact h.1.1 h1
  · exact h1 h.1.2
  · exact h.2 h1
theorem bad7n {b : Int} {cnt : Nat} {data part : Bool} (h : ¬ b / 64 = 0) : hdBad b cnt data part := .inl fun hh => h hh.1
theorem bad8 {b : Int} {cnt : Nat} {data part : Bool} (h : (!decide (ctlN (b % 32) ≠ 0) || !data) = false) : hdBad b cnt data part := by
  simp at h
  exact .inr (.inl h)
theorem bad9 {b : Int} {cnt : Nat} {data part : Bool} (h : (b % 32 != 31 || !b / 32 % 2 == 1 || !part && decide ((cnt : Int) < 2)) = false) : hdBad b cnt data part := by
  simp at h
  refine .inr (.inr ⟨h.1.1, h.1.2, ?_⟩)
  have h2 := h.2
  cases part
  · exact .inr (by have := h2 rfl; omega)
  · exact .inl rfl
theorem good_hd {b : Int} {cnt : Nat} {data part : Bool} (h0 : b / 64 = 0) (h7 : (decide (sduB (b % 32)) || decide (ctlN (b % 32) ≠ 0) || b % 32 == 31) = true) (h8 : (!decide (ctlN (b % 32) ≠ 0) || !data) = true) (h9 : (b % 32 != 31 || !b / 32 % 2 == 1 || !part && decide ((cnt : Int) < 2)) = true) : ¬ hdBad b cnt data part := by
  simp at h7 h8 h9
  rintro (h | h | ⟨h1, h2, h3⟩)
  · exact h ⟨h0, by simpa [or_assoc] using h7⟩
  · rcases h8 with h8 | h8
    · exact h.1 h8
    · rw [h8] at h; cases h.2
  · rcases h9 with (h9 | h9) | ⟨h9, h10⟩
    · exact h9 h1
    · exact h9 h2
    · rcases h3 with h3 | h3
      · rw [h9] at h3; cases h3
      · omega
theorem pan_hd {b : Int} {cnt : Nat} {data part : Bool} {X R : Int × List (Int × Int) × Nat} (hG : (if hdBad b cnt data part then (9, [], 0) else X) = R) (h : hdBad b cnt data part) : R.1 ≠ 0 ∧ mperr 9 = mperr R.1 := by
  rw [if_pos h] at hG
  subst hG
  exact ⟨by decide, rfl⟩
theorem pan_end {l : List Int} {F p : Nat} {acc : List (Int × Int)} {data part : Bool} {R : Int × List (Int × Int) × Nat} (hG : hGo l (F + 1) p acc data part = R) (h : ¬ p < l.length) : R.1 ≠ 0 ∧ mperr 5 = mperr R.1 := by
  rw [hGo, if_pos h] at hG
  subst hG
  exact ⟨by decide, rfl⟩
theorem pan_ln {b : Int} {l : List Int} {p : Nat} {X Y Z1 R : Int × List (Int × Int) × Nat} (hG : (if b / 32 % 2 = 1 then if sduB (b % 32) then if lnE l (p + 1) ≠ 0 then (lnE l (p + 1), [], 0) else X else Y else Z1) = R) (h12 : sduB (b % 32) ∧ b / 32 % 2 = 1) (h : lnE l (p + 1) ≠ 0) : R.1 ≠ 0 ∧ mperr (lnE l (p + 1)) = mperr R.1 := by
  rw [if_pos h12.2, if_pos h12.1, if_pos h] at hG
  subst hG
  exact ⟨h, rfl⟩
theorem not_at {p n : Nat} (h : ¬ 8 * p + 2 ≤ 8 * n) : ¬ p < n := by omega
set_option maxHeartbeats 2000000 in
set_option maxRecDepth 100000 in
theorem mm_heads (g T : Nat) (sv : Value) (l : List Int) (w : World) (hs : SX.St w (SX.idsOf (RdL g T sv l (8 * 0))) w (RdL g T sv l (8 * 0))) (hl : l.length ≤ 1000000) (hb : ∀ x ∈ l, 0 ≤ x ∧ x < 256) (R : Int × List (Int × Int) × Nat) (hR : hGo l (l.length + 1) 0 [] false false = R) :
    Calls Try.prog 46 #[.agg #[.pointer (some ⟨g, 0, none⟩)]] w (Z.Bo (fun v w' => R.1 = 0 ∧ R.2.2 ≤ l.length ∧ R.2.1.length ≤ l.length ∧ SX.St w (SX.idsOf (RdL g T sv l (8 * 0))) w' (RdL g T sv l (8 * R.2.2) ++ [SX.Ent.row v 92 2 R.2.1.length (R.2.1.flatMap encH)])) fun c w' => R.1 ≠ 0 ∧ c = mperr R.1 ∧ ∃ a', SX.St w (SX.idsOf (RdL g T sv l (8 * 0))) w' (RdL g T sv l a')) := by
  generalize hM : SX.idsOf (RdL g T sv l (8 * 0)) = M at *
  refine Z.enter Try.func46 rfl Try.ntmps46 rfl rfl ?_
  refine Z.seq ?_
  refine Z.region ?_
  refine Z.le rfl trivial ?_
  refine Z.ZO.box rfl rfl (by rfl) rfl rfl hs ?_
  clear hs; intro g1 w1 hs
  refine Z.lb 1 rfl ?_
  refine Z.lnil ?_
  refine Z.only [1, 2] rfl ?_
  refine Z.nthen ?_
  refine Z.seq ?_
  refine Z.region ?_
  replace hs : SX.St w M _ (RdL g T sv l (8 * 0) ++ [SX.Ent.row (.slice none 0 0) 92 2 0 (([] : List (Int × Int)).flatMap encH), SX.Ent.blk g1 88 #[.pointer (some ⟨g, 0, none⟩)]]) := SX.St.rot (L1 := [_, _]) (hs.nil 92 2)
  refine Z.l rfl rfl (by rfl) (Z.keepS hs) (Z.Yd.pure rfl) ?_
  refine Z.lb 1 rfl ?_
  refine Z.lnil ?_
  refine Z.only [1, 2, 3, 4] rfl ?_
  refine Z.nthen ?_
  refine Z.seq ?_
  refine Z.seq ?_
  refine Z.region ?_
  refine Z.lb 1 rfl ?_
  refine Z.lnil ?_
  refine Z.only [1, 2, 3, 4, 5] rfl ?_
  refine Z.nthen ?_
  refine Z.block ?_
  refine Z.loopk (ι := Nat × List (Int × Int) × Bool × Bool × Bool × Value) [1] rfl (fun x => [(2, [], x.2.2.2.2.2), (3, [], .bool x.2.2.1), (4, [], .bool x.2.2.2.1), (5, [], .bool x.2.2.2.2.1)]) (fun x wr => (x.1 ≤ l.length ∧ x.2.1.length ≤ x.1 ∧ (x.2.2.2.2.1 = true → ∃ F, l.length + 1 ≤ F + x.1 ∧ hGo l F x.1 x.2.1 x.2.2.1 x.2.2.2.1 = R) ∧ (x.2.2.2.2.1 = false → R = (0, x.2.1, x.1))) ∧ SX.St w M wr (RdL g T sv l (8 * x.1) ++ [SX.Ent.row x.2.2.2.2.2 92 2 x.2.1.length (x.2.1.flatMap encH), SX.Ent.blk g1 88 #[.pointer (some ⟨g, 0, none⟩)]])) (fun x => l.length - x.1) (0, [], false, false, true, .slice none 0 0) (by refine ⟨?_, ?_, ?_, ?_, trivial⟩ <;> (first | rfl | (refine Z.lookv rfl ?_; simp; done) | (refine Z.lookv rfl ?_; simp; omega))) ⟨⟨Nat.zero_le _, Nat.zero_le _, fun _ => ⟨l.length + 1, by simp only; omega, hR⟩, fun h => by cases h⟩, hs⟩ ?_
  clear hs
  rintro ⟨p, acc, data, part, more, vo⟩ w3 ⟨⟨hp, hac, hmo, hno⟩, hs⟩
  refine Z.only [1, 2, 3, 4, 5] rfl ?_
  (try dsimp only at hs)
  dsimp only at hp hac hmo hno hs
  obtain ⟨Av, cv, rfl, -, -, -⟩ := SX.row_slv hs (j := 2) rfl
  refine Z.seq ?_
  refine Z.seq ?_
  refine Z.region ?_
  refine Z.lb 1 rfl ?_
  refine Z.lnil ?_
  refine Z.only [1, 2, 3, 4, 12] rfl ?_
  refine Z.nthen ?_
  refine Z.cond rfl (fun hc3 => ?_) (fun hc3 => ?_)
  · first
      | (exfalso; simp at hc3 <;> omega)
      | (
        (try simp at hc3)
        obtain ⟨F, hF, hG⟩ := hmo (by assumption)
        obtain ⟨F, rfl⟩ : ∃ F', F = F' + 1 := ⟨F - 1, by omega⟩
        refine Z.skip ?_
        refine Z.nthen ?_
        refine Z.block ?_
        refine Z.seq ?_
        refine Z.drawP [SX.Ent.blk g1 88 #[.pointer (some ⟨g, 0, none⟩)]] (fun _ => true) mixed hs ?_
        clear hs; intro wd4 hs
        refine Z.tXP 0 [0, 1, 3, 5, 6, 7, 8] (fun _ _ _ _ _ h => h) rfl rfl rfl (by rfl) (by kernel_rfl) ⟨_, hs, by first | (simp; done) | exact fun e he => List.mem_append_right _ he⟩ (by first | exact Z.Yd.loadA _ rfl Try.isAgg88 (fun _ => Z.cellsB (by first | ((repeat (first | exact List.mem_cons_self | refine List.mem_cons_of_mem _ ?_ | refine List.mem_append_right _ ?_)); done) | fail)) (by exact Try.sizeOf88) | fail "load 4.0") ?_
        refine Z.tXP 2 [2, 3, 5, 6, 7, 8] (fun _ _ _ _ _ h => h) rfl rfl rfl (by rfl) (by kernel_rfl) ⟨_, hs, by first | (simp; done) | exact fun e he => List.mem_append_right _ he⟩ (by first | exact Z.Yd.loadA _ rfl Try.isAgg88 (fun _ => Z.cellsB (by first | ((repeat (first | exact List.mem_cons_self | refine List.mem_cons_of_mem _ ?_ | refine List.mem_append_right _ ?_)); done) | fail)) (by exact Try.sizeOf88) | fail "load 4.2") ?_
        refine Z.tXP 4 [4, 5, 6, 7, 8] (fun _ _ _ _ _ h => h) rfl rfl rfl (by rfl) (by kernel_rfl) ⟨_, hs, by first | (simp; done) | exact fun e he => List.mem_append_right _ he⟩ (by first | exact Z.Yd.loadA _ rfl Try.isAgg88 (fun _ => Z.cellsB (by first | ((repeat (first | exact List.mem_cons_self | refine List.mem_cons_of_mem _ ?_ | refine List.mem_append_right _ ?_)); done) | fail)) (by exact Try.sizeOf88) | fail "load 4.4") ?_
        refine Z.tnP 1 rfl rfl (by kernel_rfl) rfl trivial ?_
        refine Z.ZO.callB rfl rfl (by rfl) rfl rfl Try.call55 rfl (mm_bits_any g T sv l (8 * p) 2 _ hs.lend hl hb (by omega) (by omega)) ?_ ?_
        · skip
          rintro v4_1 w4_1 ⟨hq, rfl, hz⟩
          replace hs := hs.regain hz
          have hpl : p < l.length := by omega
          rw [hGo, if_neg (fun k => k hpl)] at hG
          obtain ⟨f1, f2, f3, -, -, -⟩ := head_get hb hpl
          have hbd := byB_bd hb hpl
          obtain ⟨b, hbe⟩ : ∃ b, byB l p = b := ⟨_, rfl⟩
          rw [hbe] at f1 f2 f3 hG hbd
          have k1 : getV l (8 * p) ((2 : Nat) : Int) = b / 64 := f1
          have k2 : getV l (8 * p + 2) ((1 : Nat) : Int) = b / 32 % 2 := f2
          have k3 : getV l (8 * p + 2 + 1) ((5 : Nat) : Int) = b % 32 := f3
          rw [k1]
          refine Z.tkP (Dn := fun _ => true) (i := 1) (fun _ => ⟨_, hs, by first | (simp; done) | exact fun e he => List.mem_append_right _ he⟩) ?_
          refine Z.tnP 3 rfl rfl (by kernel_rfl) rfl trivial ?_
          refine Z.ZO.call rfl rfl (by rfl) rfl rfl Try.call55 rfl (mm_bits_ok g T sv l (8 * p + 2) 1 _ hs.lend hl hb (by omega) (by omega)) ?_
          rintro v4_3 w4_3 ⟨rfl, hz⟩
          replace hs := hs.regain hz
          rw [k2]
          refine Z.tkP (Dn := fun _ => true) (i := 3) (fun _ => ⟨_, hs, by first | (simp; done) | exact fun e he => List.mem_append_right _ he⟩) ?_
          refine Z.tnP 5 rfl rfl (by kernel_rfl) rfl trivial ?_
          refine Z.ZO.call rfl rfl (by rfl) rfl rfl Try.call55 rfl (mm_bits_ok g T sv l (8 * p + 2 + 1) 5 _ hs.lend hl hb (by omega) (by omega)) ?_
          rintro v4_5 w4_5 ⟨rfl, hz⟩
          replace hs := hs.regain hz
          rw [k3]
          refine Z.tkP (Dn := fun _ => true) (i := 5) (fun _ => ⟨_, hs, by first | (simp; done) | exact fun e he => List.mem_append_right _ he⟩) ?_
          refine Z.tXP 6 [6, 7, 8] (fun _ _ _ _ _ h => h) rfl rfl rfl (by rfl) (by kernel_rfl) ⟨_, hs, by first | (simp; done) | exact fun e he => List.mem_append_right _ he⟩ (Z.Yd.pure rfl) ?_
          refine Z.tXP 7 [7, 8] (fun _ _ _ _ _ h => h) rfl rfl rfl (by rfl) (by kernel_rfl) ⟨_, hs, by first | (simp; done) | exact fun e he => List.mem_append_right _ he⟩ (Z.Yd.pure rfl) ?_
          refine Z.tXP 8 [8] (fun _ _ _ _ _ h => h) rfl rfl rfl (by rfl) (by kernel_rfl) ⟨_, hs, by first | (simp; done) | exact fun e he => List.mem_append_right _ he⟩ (Z.Yd.pure rfl) ?_
          refine Z.tdP (by rfl) (by kernel_rfl) ?_
          refine Z.only [1, 2, 3, 4, 6, 7, 8] rfl ?_
          refine Z.nthen ?_
          refine Z.seq ?_
          refine Z.region ?_
          refine Z.lb 3 rfl ?_
          refine Z.lnil ?_
          refine Z.only [1, 2, 3, 4, 5, 6, 8] rfl ?_
          refine Z.nthen ?_
          refine Z.seq ?_
          refine Z.region ?_
          refine Z.lb 1 rfl ?_
          refine Z.le rfl trivial ?_
          refine Z.ZO.call rfl rfl (by rfl) rfl rfl Try.call21 rfl (mc_Control _ _) ?_
          rintro v6_1 w6_1 ⟨rfl, hy⟩
          replace hs := hs.call hy
          clear hy
          try simp only [List.cons_append, List.nil_append, List.append_nil] at hs
          refine Z.lb 5 rfl ?_
          refine Z.lnil ?_
          refine Z.only [1, 2, 3, 4, 5, 6, 8, 10] rfl ?_
          refine Z.nthen ?_
          refine Z.seq ?_
          refine Z.region ?_
          refine Z.lb 4 rfl ?_
          refine Z.split (s := 28) rfl (fun hsp28 => ?_) (fun hsp28 => ?_)
          · first
              | (exfalso; simp at hsp28 <;> omega)
              | (
                refine Z.yes (s := 28) (b := true) rfl hsp28 rfl ?_
                (try simp at hsp28)
                refine Z.le rfl (by exact ⟨rfl, trivial⟩) ?_
                refine Z.ZO.call rfl rfl (by rfl) rfl rfl Try.call53 rfl (mc_sdu _ _) ?_
                rintro v7_4 w7_4 ⟨rfl, hy⟩
                replace hs := hs.call hy
                clear hy
                try simp only [List.cons_append, List.nil_append, List.append_nil] at hs
                refine Z.lb 7 rfl ?_
                refine Z.yes (s := 28) (b := true) rfl rfl rfl ?_
                refine Z.l rfl rfl (by rfl) (Z.keepS hs) (Z.Yd.pickT rfl rfl) ?_
                refine Z.le rfl trivial ?_
                refine Z.ZO.callB rfl rfl (by rfl) rfl rfl Try.call31 rfl (mm_must_any _ 9 _) ?_ ?_
                · skip
                  rintro v7_13 w7_13 ⟨hm7, rfl, hy⟩
                  replace hs := hs.call hy
                  clear hy
                  try simp only [List.cons_append, List.nil_append, List.append_nil] at hs
                  refine Z.lnil ?_
                  refine Z.only [1, 2, 3, 4, 5, 8, 10] rfl ?_
                  refine Z.nthen ?_
                  refine Z.seq ?_
                  refine Z.region ?_
                  refine Z.l rfl rfl (by rfl) (Z.keepS hs) (Z.Yd.pure rfl) ?_
                  refine Z.lb 5 rfl ?_
                  refine Z.le rfl trivial ?_
                  refine Z.ZO.callB rfl rfl (by rfl) rfl rfl Try.call31 rfl (mm_must_any _ 9 _) ?_ ?_
                  · skip
                    rintro v8_6 w8_6 ⟨hm8, rfl, hy⟩
                    replace hs := hs.call hy
                    clear hy
                    try simp only [List.cons_append, List.nil_append, List.append_nil] at hs
                    refine Z.lnil ?_
                    refine Z.only [1, 2, 3, 4, 5, 8] rfl ?_
                    refine Z.nthen ?_
                    refine Z.seq ?_
                    refine Z.region ?_
                    refine Z.lb 11 rfl ?_
                    refine Z.l rfl rfl (by rfl) (Z.keepS hs) (Z.Yd.lenS rfl Try.underlying89) ?_
                    refine Z.lb 3 rfl ?_
                    refine Z.le rfl trivial ?_
                    refine Z.ZO.callB rfl rfl (by rfl) rfl rfl Try.call31 rfl (mm_must_any _ 9 _) ?_ ?_
                    · skip
                      rintro v9_15 w9_15 ⟨hm9, rfl, hy⟩
                      replace hs := hs.call hy
                      clear hy
                      try simp only [List.cons_append, List.nil_append, List.append_nil] at hs
                      refine Z.lnil ?_
                      refine Z.only [1, 2, 3, 4, 5, 8] rfl ?_
                      refine Z.nthen ?_
                      refine Z.seq ?_
                      refine Z.region ?_
                      have hnb : ¬ hdBad b acc.length data part := good_hd hsp28 hm7 hm8 hm9
                      rw [if_neg hnb] at hG
                      rw [show 8 * p + 2 + 1 + 5 = 8 * (p + 1) from by omega] at hs
                      refine Z.l rfl rfl (by rfl) (Z.keepS hs) (Z.Yd.pure rfl) ?_
                      refine Z.l rfl rfl (by rfl) (Z.keepS hs) (Z.Yd.buildL [(0, 1), (1, 1)] [.int .i64 0, .int .i64 0] rfl rfl (by intro w; kernel_rfl)) ?_
                      refine Z.le rfl trivial ?_
                      refine Z.ZO.alloc rfl rfl (by rfl) Try.zeroValue92 rfl hs ?_
                      clear hs; intro g11 w11 hs
                      refine Z.le rfl trivial ?_
                      first | refine Z.ZO.storeA rfl rfl hs rfl rfl (by kernel_rfl) (by first | (simp [Value.oneCell']; done) | (refine Z.all_one ?_; assumption)) (by first | exact SX.at0 | exact SX.at1 | exact SX.at2 | exact SX.at3 | exact SX.at4 | exact SX.at5 | exact Z.at6 | exact Z.at7 | exact Z.at8 | exact Z.at9 | exact Z.at10 | exact Z.at11 | exact Z.at12) (by rfl) ?_ | refine Z.ZO.storeP rfl rfl hs rfl rfl (by kernel_rfl) (by first | (simp [Value.oneCell']; done) | (refine Z.all_one ?_; assumption)) (by first | exact SX.at0 | exact SX.at1 | exact SX.at2 | exact SX.at3 | exact SX.at4 | exact SX.at5 | exact Z.at6 | exact Z.at7 | exact Z.at8 | exact Z.at9 | exact Z.at10 | exact Z.at11 | exact Z.at12) (by first | decide | (simp; done) | (simp; omega)) ?_ | refine Z.ZO.storePR rfl rfl hs rfl rfl (by kernel_rfl) (by first | (simp [Value.oneCell']; done) | (refine Z.all_one ?_; assumption)) (by first | exact SX.at0 | exact SX.at1 | exact SX.at2 | exact SX.at3 | exact SX.at4 | exact SX.at5 | exact Z.at6 | exact Z.at7 | exact Z.at8 | exact Z.at9 | exact Z.at10 | exact Z.at11 | exact Z.at12) (by first | decide | (simp; done) | (simp; omega)) ?_
                      clear hs; intro ws hs
                      simp only [Nat.zero_add, Nat.add_zero, Nat.reduceAdd, Int.reduceToNat, Nat.reduceMul, List.set_cons_zero, List.set_cons_succ, List.setIfInBounds_toArray] at hs
                      try simp only [Z.putL, Nat.zero_add] at hs
                      refine Z.lnil ?_
                      refine Z.only [1, 2, 3, 4, 5, 8, 11] rfl ?_
                      refine Z.nthen ?_
                      refine Z.seq ?_
                      refine Z.region ?_
                      refine Z.lb 3 rfl ?_
                      refine Z.split (s := 66) rfl (fun hsp66 => ?_) (fun hsp66 => ?_)
                      · first
                          | (exfalso; simp at hsp66 <;> omega)
                          | (
                            refine Z.yes (s := 66) (b := true) rfl hsp66 rfl ?_
                            (try simp at hsp66)
                            have e3 : (data || decide (sduB (b % 32))) = true := by rw [hsp66]; rfl
                            refine Z.ls rfl rfl rfl (by rfl) ?_
                            refine Z.l rfl rfl (by rfl) (Z.keepS hs) (Z.Yd.pickT rfl rfl) ?_
                            refine Z.lb 7 rfl ?_
                            refine Z.lnil ?_
                            refine Z.only [1, 2, 3, 4, 5, 8, 11] rfl ?_
                            refine Z.nthen ?_
                            refine Z.seq ?_
                            refine Z.seq ?_
                            refine Z.region ?_
                            refine Z.lb 1 rfl ?_
                            refine Z.le rfl trivial ?_
                            refine Z.ZO.call rfl rfl (by rfl) rfl rfl Try.call53 rfl (mc_sdu _ _) ?_
                            rintro v12_1 w12_1 ⟨rfl, hy⟩
                            replace hs := hs.call hy
                            clear hy
                            try simp only [List.cons_append, List.nil_append, List.append_nil] at hs
                            refine Z.lb 3 rfl ?_
                            refine Z.lnil ?_
                            refine Z.only [1, 2, 3, 4, 5, 11, 79] rfl ?_
                            refine Z.nthen ?_
                            refine Z.cond rfl (fun hc12 => ?_) (fun hc12 => ?_)
                            · first
                                | (exfalso; simp at hc12 <;> omega)
                                | (
                                  (try simp at hc12)
                                  refine Z.region ?_
                                  refine Z.l rfl rfl (by rfl) (Z.keepS hs) (by first | exact Z.Yd.loadA _ rfl Try.isAgg88 (fun _ => Z.cellsB (by first | ((repeat (first | exact List.mem_cons_self | refine List.mem_cons_of_mem _ ?_ | refine List.mem_append_right _ ?_)); done) | fail)) (by exact Try.sizeOf88) | fail "load 13.0") ?_
                                  replace hs : SX.St w M _ (RdL g T sv l (8 * (p + 1)) ++ [_, _, _]) := hs.rot (L1 := [_])
                                  refine Z.le rfl trivial ?_
                                  refine Z.ZO.callB rfl rfl (by rfl) rfl rfl Try.call56 rfl (mm_length g T sv l (p + 1) _ hs.lend hl hb (by omega)) ?_ ?_
                                  · skip
                                    rintro v13_1 w13_1 ⟨hln, rfl, hz⟩
                                    replace hs := hs.regain hz
                                    simp only [RdL, List.cons_append, List.nil_append] at hs
                                    refine Z.l rfl rfl (by rfl) (Z.keepS hs) (Z.Yd.fieldA (m := 1) rfl (by kernel_rfl)) ?_
                                    refine Z.le rfl trivial ?_
                                    first | refine Z.ZO.store rfl rfl hs Try.sizeOf3 rfl rfl rfl (by first | exact SX.at0 | exact SX.at1 | exact SX.at2 | exact SX.at3 | exact SX.at4 | exact SX.at5 | exact Z.at6 | exact Z.at7 | exact Z.at8 | exact Z.at9 | exact Z.at10 | exact Z.at11 | exact Z.at12) (by first | (simp; done) | (simp; omega)) ?_ | refine Z.ZO.storeR rfl rfl hs Try.sizeOf3 rfl rfl rfl (by first | exact SX.at0 | exact SX.at1 | exact SX.at2 | exact SX.at3 | exact SX.at4 | exact SX.at5 | exact Z.at6 | exact Z.at7 | exact Z.at8 | exact Z.at9 | exact Z.at10 | exact Z.at11 | exact Z.at12) (by first | omega | (simp [ints_length]; done) | (simp [ints_length]; omega)) ?_
                                    clear hs; intro ws hs
                                    simp only [Nat.zero_add, Nat.add_zero, Nat.reduceAdd, Int.reduceToNat, Nat.reduceMul, List.set_cons_zero, List.set_cons_succ, List.setIfInBounds_toArray] at hs
                                    refine Z.lnil ?_
                                    refine Z.only [1, 2, 3, 4, 5, 11] rfl ?_
                                    refine Z.nthen ?_
                                    refine Z.region ?_
                                    try simp only [RdL, List.cons_append, List.nil_append] at hs
                                    refine Z.l rfl rfl (by rfl) (Z.keepS hs) (Z.Yd.pure rfl) ?_
                                    refine Z.l rfl rfl (by rfl) (Z.keepS hs) (by first | exact Z.Yd.loadA _ rfl Try.isAgg92 (fun _ => Z.cellsB (by first | ((repeat (first | exact List.mem_cons_self | refine List.mem_cons_of_mem _ ?_ | refine List.mem_append_right _ ?_)); done) | fail)) (by exact Try.sizeOf92) | fail "load 14.1") ?_
                                    refine Z.le rfl trivial ?_
                                    refine Z.ZO.litL (T' := 92) [(0, 2)] [.int .i64 0, .int .i64 0] rfl rfl (by rfl) rfl rfl (by intro W; kernel_rfl) hs ?_
                                    clear hs; intro g85 w85 hs
                                    refine Z.le rfl trivial ?_
                                    refine Z.ZO.append (i0 := Try.t92) (size := 2) (bytes := 16) rfl rfl (by rfl) hs Try.underlying89 (by kernel_rfl) rfl rfl rfl rfl (by decide) rfl rfl (by first | exact SX.at0 | exact SX.at1 | exact SX.at2 | exact SX.at3 | exact SX.at4 | exact SX.at5 | exact Z.at6 | exact Z.at7 | exact Z.at8 | exact Z.at9 | exact Z.at10 | exact Z.at11 | exact Z.at12) (by first | exact SX.at0 | exact SX.at1 | exact SX.at2 | exact SX.at3 | exact SX.at4 | exact SX.at5 | exact Z.at6 | exact Z.at7 | exact Z.at8 | exact Z.at9 | exact Z.at10 | exact Z.at11 | exact Z.at12) (by first | rfl | simp) (by simp [Value.oneCell']) (by decide) (by unfold maxLen; omega) (by omega) ?_
                                    clear hs; intro g86 cap86 w86 hs
                                    simp only [List.set_cons_zero, List.set_cons_succ, List.eraseIdx_cons_zero, List.eraseIdx_cons_succ] at hs
                                    refine Z.lb 1 rfl ?_
                                    refine Z.lnil ?_
                                    refine Z.only [1, 2, 3, 4, 5] rfl ?_
                                    refine Z.nblock ?_
                                    refine Z.nthen ?_
                                    have hpa : (part || decide (b % 32 ≠ 31)) = (part || b % 32 != 31) := congrArg (part || ·) (by rw [Bool.eq_iff_iff]; simp)
                                    have eL : ∀ n : Int, (acc ++ [(b % 32, n)]).length = acc.length + 1 := fun n => by simp
                                    have eF : ∀ n : Int, acc.flatMap encH ++ [Value.int .i64 (b % 32), Value.int .i64 n] = (acc ++ [(b % 32, n)]).flatMap encH := fun n => by simp [encH]
                                    rw [eF, ← eL] at hs
                                    rw [hpa, e3] at hG
                                    by_cases hm : b / 32 % 2 = 1
                                    · rw [if_pos hm] at hG
                                      first
                                      | (rw [if_pos hc12.1, if_neg (fun k => k hln)] at hG
                                         have hle := lnP_le hln
                                         exact Z.again (lnP l (p + 1), acc ++ [(b % 32, lnV l (p + 1))], _, (part || b % 32 != 31), (b / 32 % 2 == 1), _) (by refine ⟨?_, ?_, ?_, ?_, ?_, trivial⟩ <;> (first | rfl | (refine Z.lookv rfl ?_; simp; done) | (refine Z.lookv rfl ?_; simp; omega))) ⟨⟨hle.2, by simp only [eL]; omega, fun _ => ⟨F, by simp only; omega, hG⟩, fun h => by simp [hm] at h⟩, hs.sel [0, 1, 2, 3] (by decide)⟩ (by simp only; omega))
                                      | (rw [if_neg (fun k => hc12 k hm)] at hG
                                         exact Z.again (p + 1, acc ++ [(b % 32, -1)], _, (part || b % 32 != 31), (b / 32 % 2 == 1), _) (by refine ⟨?_, ?_, ?_, ?_, ?_, trivial⟩ <;> (first | rfl | (refine Z.lookv rfl ?_; simp; done) | (refine Z.lookv rfl ?_; simp; omega))) ⟨⟨by simp only; omega, by simp only [eL]; omega, fun _ => ⟨F, by simp only; omega, hG⟩, fun h => by simp [hm] at h⟩, hs.sel [1, 2, 3, 4] (by decide)⟩ (by simp only; omega))
                                    · rw [if_neg hm] at hG
                                      first
                                      | exact absurd hc12.2 hm
                                      | exact Z.again (p + 1, acc ++ [(b % 32, -1)], _, (part || b % 32 != 31), (b / 32 % 2 == 1), _) (by refine ⟨?_, ?_, ?_, ?_, ?_, trivial⟩ <;> (first | rfl | (refine Z.lookv rfl ?_; simp; done) | (refine Z.lookv rfl ?_; simp; omega))) ⟨⟨by simp only; omega, by simp only [eL]; omega, fun h => by simp [hm] at h, fun _ => hG.symm⟩, hs.sel [1, 2, 3, 4] (by decide)⟩ (by simp only; omega)
                                  · skip
                                    rintro c13_1 w13_1 ⟨hln, rfl, a', hz⟩
                                    repeat (first | refine Z.pthen ?_ | refine Z.pblock ?_ | refine Z.pscope ?_)
                                    -- ret#0
                                    refine Z.outp ?_
                                    first
                                    | exact .inr ⟨_, rfl, (pan_ln hG hc12 hln).1, (pan_ln hG hc12 hln).2, _, (hs.regain hz).sub (List.sublist_append_left _ _)⟩
                                    | exact .inr ⟨_, rfl, (pan_hd hG (bad7n hsp28)).1, (pan_hd hG (bad7n hsp28)).2, _, hs.sub (List.sublist_append_left _ _)⟩
                                    | exact .inr ⟨_, rfl, (pan_hd hG (bad7 hm7)).1, (pan_hd hG (bad7 hm7)).2, _, hs.sub (List.sublist_append_left _ _)⟩
                                    | exact .inr ⟨_, rfl, (pan_hd hG (bad8 hm8)).1, (pan_hd hG (bad8 hm8)).2, _, hs.sub (List.sublist_append_left _ _)⟩
                                    | exact .inr ⟨_, rfl, (pan_hd hG (bad9 hm9)).1, (pan_hd hG (bad9 hm9)).2, _, hs.sub (List.sublist_append_left _ _)⟩
                                    | exact .inr ⟨_, rfl, (pan_end hG (not_at hq)).1, (pan_end hG (not_at hq)).2, _, (hs.regain hz).sub (List.sublist_append_left _ _)⟩
                                  )
                            · first
                                | (exfalso; simp at hc12 <;> omega)
                                | (
                                  (try simp at hc12)
                                  refine Z.skip ?_
                                  refine Z.nthen ?_
                                  refine Z.region ?_
                                  try simp only [RdL, List.cons_append, List.nil_append] at hs
                                  refine Z.l rfl rfl (by rfl) (Z.keepS hs) (Z.Yd.pure rfl) ?_
                                  refine Z.l rfl rfl (by rfl) (Z.keepS hs) (by first | exact Z.Yd.loadA _ rfl Try.isAgg92 (fun _ => Z.cellsB (by first | ((repeat (first | exact List.mem_cons_self | refine List.mem_cons_of_mem _ ?_ | refine List.mem_append_right _ ?_)); done) | fail)) (by exact Try.sizeOf92) | fail "load 14.1") ?_
                                  refine Z.le rfl trivial ?_
                                  refine Z.ZO.litL (T' := 92) [(0, 2)] [.int .i64 0, .int .i64 0] rfl rfl (by rfl) rfl rfl (by intro W; kernel_rfl) hs ?_
                                  clear hs; intro g85 w85 hs
                                  refine Z.le rfl trivial ?_
                                  refine Z.ZO.append (i0 := Try.t92) (size := 2) (bytes := 16) rfl rfl (by rfl) hs Try.underlying89 (by kernel_rfl) rfl rfl rfl rfl (by decide) rfl rfl (by first | exact SX.at0 | exact SX.at1 | exact SX.at2 | exact SX.at3 | exact SX.at4 | exact SX.at5 | exact Z.at6 | exact Z.at7 | exact Z.at8 | exact Z.at9 | exact Z.at10 | exact Z.at11 | exact Z.at12) (by first | exact SX.at0 | exact SX.at1 | exact SX.at2 | exact SX.at3 | exact SX.at4 | exact SX.at5 | exact Z.at6 | exact Z.at7 | exact Z.at8 | exact Z.at9 | exact Z.at10 | exact Z.at11 | exact Z.at12) (by first | rfl | simp) (by simp [Value.oneCell']) (by decide) (by unfold maxLen; omega) (by omega) ?_
                                  clear hs; intro g86 cap86 w86 hs
                                  simp only [List.set_cons_zero, List.set_cons_succ, List.eraseIdx_cons_zero, List.eraseIdx_cons_succ] at hs
                                  refine Z.lb 1 rfl ?_
                                  refine Z.lnil ?_
                                  refine Z.only [1, 2, 3, 4, 5] rfl ?_
                                  refine Z.nblock ?_
                                  refine Z.nthen ?_
                                  have hpa : (part || decide (b % 32 ≠ 31)) = (part || b % 32 != 31) := congrArg (part || ·) (by rw [Bool.eq_iff_iff]; simp)
                                  have eL : ∀ n : Int, (acc ++ [(b % 32, n)]).length = acc.length + 1 := fun n => by simp
                                  have eF : ∀ n : Int, acc.flatMap encH ++ [Value.int .i64 (b % 32), Value.int .i64 n] = (acc ++ [(b % 32, n)]).flatMap encH := fun n => by simp [encH]
                                  rw [eF, ← eL] at hs
                                  rw [hpa, e3] at hG
                                  by_cases hm : b / 32 % 2 = 1
                                  · rw [if_pos hm] at hG
                                    first
                                    | (rw [if_pos hc12.1, if_neg (fun k => k hln)] at hG
                                       have hle := lnP_le hln
                                       exact Z.again (lnP l (p + 1), acc ++ [(b % 32, lnV l (p + 1))], _, (part || b % 32 != 31), (b / 32 % 2 == 1), _) (by refine ⟨?_, ?_, ?_, ?_, ?_, trivial⟩ <;> (first | rfl | (refine Z.lookv rfl ?_; simp; done) | (refine Z.lookv rfl ?_; simp; omega))) ⟨⟨hle.2, by simp only [eL]; omega, fun _ => ⟨F, by simp only; omega, hG⟩, fun h => by simp [hm] at h⟩, hs.sel [0, 1, 2, 3] (by decide)⟩ (by simp only; omega))
                                    | (rw [if_neg (fun k => hc12 k hm)] at hG
                                       exact Z.again (p + 1, acc ++ [(b % 32, -1)], _, (part || b % 32 != 31), (b / 32 % 2 == 1), _) (by refine ⟨?_, ?_, ?_, ?_, ?_, trivial⟩ <;> (first | rfl | (refine Z.lookv rfl ?_; simp; done) | (refine Z.lookv rfl ?_; simp; omega))) ⟨⟨by simp only; omega, by simp only [eL]; omega, fun _ => ⟨F, by simp only; omega, hG⟩, fun h => by simp [hm] at h⟩, hs.sel [1, 2, 3, 4] (by decide)⟩ (by simp only; omega))
                                  · rw [if_neg hm] at hG
                                    first
                                    | exact absurd hc12.2 hm
                                    | exact Z.again (p + 1, acc ++ [(b % 32, -1)], _, (part || b % 32 != 31), (b / 32 % 2 == 1), _) (by refine ⟨?_, ?_, ?_, ?_, ?_, trivial⟩ <;> (first | rfl | (refine Z.lookv rfl ?_; simp; done) | (refine Z.lookv rfl ?_; simp; omega))) ⟨⟨by simp only; omega, by simp only [eL]; omega, fun h => by simp [hm] at h, fun _ => hG.symm⟩, hs.sel [1, 2, 3, 4] (by decide)⟩ (by simp only; omega)
                                  )
                            )
                      · first
                          | (exfalso; simp at hsp66 <;> omega)
                          | (
                            refine Z.yes (s := 66) (b := false) rfl hsp66 rfl ?_
                            (try simp at hsp66)
                            have e3 : (data || decide (sduB (b % 32))) = decide (sduB (b % 32)) := by rw [hsp66]; rfl
                            refine Z.le rfl (by exact ⟨rfl, trivial⟩) ?_
                            refine Z.ZO.call rfl rfl (by rfl) rfl rfl Try.call53 rfl (mc_sdu _ _) ?_
                            rintro v11_3 w11_3 ⟨rfl, hy⟩
                            replace hs := hs.call hy
                            clear hy
                            try simp only [List.cons_append, List.nil_append, List.append_nil] at hs
                            refine Z.l rfl rfl (by rfl) (Z.keepS hs) (Z.Yd.pickF rfl rfl) ?_
                            refine Z.lb 7 rfl ?_
                            refine Z.lnil ?_
                            refine Z.only [1, 2, 3, 4, 5, 8, 11] rfl ?_
                            refine Z.nthen ?_
                            refine Z.seq ?_
                            refine Z.seq ?_
                            refine Z.region ?_
                            refine Z.lb 1 rfl ?_
                            refine Z.le rfl trivial ?_
                            refine Z.ZO.call rfl rfl (by rfl) rfl rfl Try.call53 rfl (mc_sdu _ _) ?_
                            rintro v12_1 w12_1 ⟨rfl, hy⟩
                            replace hs := hs.call hy
                            clear hy
                            try simp only [List.cons_append, List.nil_append, List.append_nil] at hs
                            refine Z.lb 3 rfl ?_
                            refine Z.lnil ?_
                            refine Z.only [1, 2, 3, 4, 5, 11, 79] rfl ?_
                            refine Z.nthen ?_
                            refine Z.cond rfl (fun hc12 => ?_) (fun hc12 => ?_)
                            · first
                                | (exfalso; simp at hc12 <;> omega)
                                | (
                                  (try simp at hc12)
                                  refine Z.region ?_
                                  refine Z.l rfl rfl (by rfl) (Z.keepS hs) (by first | exact Z.Yd.loadA _ rfl Try.isAgg88 (fun _ => Z.cellsB (by first | ((repeat (first | exact List.mem_cons_self | refine List.mem_cons_of_mem _ ?_ | refine List.mem_append_right _ ?_)); done) | fail)) (by exact Try.sizeOf88) | fail "load 13.0") ?_
                                  replace hs : SX.St w M _ (RdL g T sv l (8 * (p + 1)) ++ [_, _, _]) := hs.rot (L1 := [_])
                                  refine Z.le rfl trivial ?_
                                  refine Z.ZO.callB rfl rfl (by rfl) rfl rfl Try.call56 rfl (mm_length g T sv l (p + 1) _ hs.lend hl hb (by omega)) ?_ ?_
                                  · skip
                                    rintro v13_1 w13_1 ⟨hln, rfl, hz⟩
                                    replace hs := hs.regain hz
                                    simp only [RdL, List.cons_append, List.nil_append] at hs
                                    refine Z.l rfl rfl (by rfl) (Z.keepS hs) (Z.Yd.fieldA (m := 1) rfl (by kernel_rfl)) ?_
                                    refine Z.le rfl trivial ?_
                                    first | refine Z.ZO.store rfl rfl hs Try.sizeOf3 rfl rfl rfl (by first | exact SX.at0 | exact SX.at1 | exact SX.at2 | exact SX.at3 | exact SX.at4 | exact SX.at5 | exact Z.at6 | exact Z.at7 | exact Z.at8 | exact Z.at9 | exact Z.at10 | exact Z.at11 | exact Z.at12) (by first | (simp; done) | (simp; omega)) ?_ | refine Z.ZO.storeR rfl rfl hs Try.sizeOf3 rfl rfl rfl (by first | exact SX.at0 | exact SX.at1 | exact SX.at2 | exact SX.at3 | exact SX.at4 | exact SX.at5 | exact Z.at6 | exact Z.at7 | exact Z.at8 | exact Z.at9 | exact Z.at10 | exact Z.at11 | exact Z.at12) (by first | omega | (simp [ints_length]; done) | (simp [ints_length]; omega)) ?_
                                    clear hs; intro ws hs
                                    simp only [Nat.zero_add, Nat.add_zero, Nat.reduceAdd, Int.reduceToNat, Nat.reduceMul, List.set_cons_zero, List.set_cons_succ, List.setIfInBounds_toArray] at hs
                                    refine Z.lnil ?_
                                    refine Z.only [1, 2, 3, 4, 5, 11] rfl ?_
                                    refine Z.nthen ?_
                                    refine Z.region ?_
                                    try simp only [RdL, List.cons_append, List.nil_append] at hs
                                    refine Z.l rfl rfl (by rfl) (Z.keepS hs) (Z.Yd.pure rfl) ?_
                                    refine Z.l rfl rfl (by rfl) (Z.keepS hs) (by first | exact Z.Yd.loadA _ rfl Try.isAgg92 (fun _ => Z.cellsB (by first | ((repeat (first | exact List.mem_cons_self | refine List.mem_cons_of_mem _ ?_ | refine List.mem_append_right _ ?_)); done) | fail)) (by exact Try.sizeOf92) | fail "load 14.1") ?_
                                    refine Z.le rfl trivial ?_
                                    refine Z.ZO.litL (T' := 92) [(0, 2)] [.int .i64 0, .int .i64 0] rfl rfl (by rfl) rfl rfl (by intro W; kernel_rfl) hs ?_
                                    clear hs; intro g85 w85 hs
                                    refine Z.le rfl trivial ?_
                                    refine Z.ZO.append (i0 := Try.t92) (size := 2) (bytes := 16) rfl rfl (by rfl) hs Try.underlying89 (by kernel_rfl) rfl rfl rfl rfl (by decide) rfl rfl (by first | exact SX.at0 | exact SX.at1 | exact SX.at2 | exact SX.at3 | exact SX.at4 | exact SX.at5 | exact Z.at6 | exact Z.at7 | exact Z.at8 | exact Z.at9 | exact Z.at10 | exact Z.at11 | exact Z.at12) (by first | exact SX.at0 | exact SX.at1 | exact SX.at2 | exact SX.at3 | exact SX.at4 | exact SX.at5 | exact Z.at6 | exact Z.at7 | exact Z.at8 | exact Z.at9 | exact Z.at10 | exact Z.at11 | exact Z.at12) (by first | rfl | simp) (by simp [Value.oneCell']) (by decide) (by unfold maxLen; omega) (by omega) ?_
                                    clear hs; intro g86 cap86 w86 hs
                                    simp only [List.set_cons_zero, List.set_cons_succ, List.eraseIdx_cons_zero, List.eraseIdx_cons_succ] at hs
                                    refine Z.lb 1 rfl ?_
                                    refine Z.lnil ?_
                                    refine Z.only [1, 2, 3, 4, 5] rfl ?_
                                    refine Z.nblock ?_
                                    refine Z.nthen ?_
                                    have hpa : (part || decide (b % 32 ≠ 31)) = (part || b % 32 != 31) := congrArg (part || ·) (by rw [Bool.eq_iff_iff]; simp)
                                    have eL : ∀ n : Int, (acc ++ [(b % 32, n)]).length = acc.length + 1 := fun n => by simp
                                    have eF : ∀ n : Int, acc.flatMap encH ++ [Value.int .i64 (b % 32), Value.int .i64 n] = (acc ++ [(b % 32, n)]).flatMap encH := fun n => by simp [encH]
                                    rw [eF, ← eL] at hs
                                    rw [hpa, e3] at hG
                                    by_cases hm : b / 32 % 2 = 1
                                    · rw [if_pos hm] at hG
                                      first
                                      | (rw [if_pos hc12.1, if_neg (fun k => k hln)] at hG
                                         have hle := lnP_le hln
                                         exact Z.again (lnP l (p + 1), acc ++ [(b % 32, lnV l (p + 1))], _, (part || b % 32 != 31), (b / 32 % 2 == 1), _) (by refine ⟨?_, ?_, ?_, ?_, ?_, trivial⟩ <;> (first | rfl | (refine Z.lookv rfl ?_; simp; done) | (refine Z.lookv rfl ?_; simp; omega))) ⟨⟨hle.2, by simp only [eL]; omega, fun _ => ⟨F, by simp only; omega, hG⟩, fun h => by simp [hm] at h⟩, hs.sel [0, 1, 2, 3] (by decide)⟩ (by simp only; omega))
                                      | (rw [if_neg (fun k => hc12 k hm)] at hG
                                         exact Z.again (p + 1, acc ++ [(b % 32, -1)], _, (part || b % 32 != 31), (b / 32 % 2 == 1), _) (by refine ⟨?_, ?_, ?_, ?_, ?_, trivial⟩ <;> (first | rfl | (refine Z.lookv rfl ?_; simp; done) | (refine Z.lookv rfl ?_; simp; omega))) ⟨⟨by simp only; omega, by simp only [eL]; omega, fun _ => ⟨F, by simp only; omega, hG⟩, fun h => by simp [hm] at h⟩, hs.sel [1, 2, 3, 4] (by decide)⟩ (by simp only; omega))
                                    · rw [if_neg hm] at hG
                                      first
                                      | exact absurd hc12.2 hm
                                      | exact Z.again (p + 1, acc ++ [(b % 32, -1)], _, (part || b % 32 != 31), (b / 32 % 2 == 1), _) (by refine ⟨?_, ?_, ?_, ?_, ?_, trivial⟩ <;> (first | rfl | (refine Z.lookv rfl ?_; simp; done) | (refine Z.lookv rfl ?_; simp; omega))) ⟨⟨by simp only; omega, by simp only [eL]; omega, fun h => by simp [hm] at h, fun _ => hG.symm⟩, hs.sel [1, 2, 3, 4] (by decide)⟩ (by simp only; omega)
                                  · skip
                                    rintro c13_1 w13_1 ⟨hln, rfl, a', hz⟩
                                    repeat (first | refine Z.pthen ?_ | refine Z.pblock ?_ | refine Z.pscope ?_)
                                    -- ret#1
                                    refine Z.outp ?_
                                    first
                                    | exact .inr ⟨_, rfl, (pan_ln hG hc12 hln).1, (pan_ln hG hc12 hln).2, _, (hs.regain hz).sub (List.sublist_append_left _ _)⟩
                                    | exact .inr ⟨_, rfl, (pan_hd hG (bad7n hsp28)).1, (pan_hd hG (bad7n hsp28)).2, _, hs.sub (List.sublist_append_left _ _)⟩
                                    | exact .inr ⟨_, rfl, (pan_hd hG (bad7 hm7)).1, (pan_hd hG (bad7 hm7)).2, _, hs.sub (List.sublist_append_left _ _)⟩
                                    | exact .inr ⟨_, rfl, (pan_hd hG (bad8 hm8)).1, (pan_hd hG (bad8 hm8)).2, _, hs.sub (List.sublist_append_left _ _)⟩
                                    | exact .inr ⟨_, rfl, (pan_hd hG (bad9 hm9)).1, (pan_hd hG (bad9 hm9)).2, _, hs.sub (List.sublist_append_left _ _)⟩
                                    | exact .inr ⟨_, rfl, (pan_end hG (not_at hq)).1, (pan_end hG (not_at hq)).2, _, (hs.regain hz).sub (List.sublist_append_left _ _)⟩
                                  )
                            · first
                                | (exfalso; simp at hc12 <;> omega)
                                | (
                                  (try simp at hc12)
                                  refine Z.skip ?_
                                  refine Z.nthen ?_
                                  refine Z.region ?_
                                  try simp only [RdL, List.cons_append, List.nil_append] at hs
                                  refine Z.l rfl rfl (by rfl) (Z.keepS hs) (Z.Yd.pure rfl) ?_
                                  refine Z.l rfl rfl (by rfl) (Z.keepS hs) (by first | exact Z.Yd.loadA _ rfl Try.isAgg92 (fun _ => Z.cellsB (by first | ((repeat (first | exact List.mem_cons_self | refine List.mem_cons_of_mem _ ?_ | refine List.mem_append_right _ ?_)); done) | fail)) (by exact Try.sizeOf92) | fail "load 14.1") ?_
                                  refine Z.le rfl trivial ?_
                                  refine Z.ZO.litL (T' := 92) [(0, 2)] [.int .i64 0, .int .i64 0] rfl rfl (by rfl) rfl rfl (by intro W; kernel_rfl) hs ?_
                                  clear hs; intro g85 w85 hs
                                  refine Z.le rfl trivial ?_
                                  refine Z.ZO.append (i0 := Try.t92) (size := 2) (bytes := 16) rfl rfl (by rfl) hs Try.underlying89 (by kernel_rfl) rfl rfl rfl rfl (by decide) rfl rfl (by first | exact SX.at0 | exact SX.at1 | exact SX.at2 | exact SX.at3 | exact SX.at4 | exact SX.at5 | exact Z.at6 | exact Z.at7 | exact Z.at8 | exact Z.at9 | exact Z.at10 | exact Z.at11 | exact Z.at12) (by first | exact SX.at0 | exact SX.at1 | exact SX.at2 | exact SX.at3 | exact SX.at4 | exact SX.at5 | exact Z.at6 | exact Z.at7 | exact Z.at8 | exact Z.at9 | exact Z.at10 | exact Z.at11 | exact Z.at12) (by first | rfl | simp) (by simp [Value.oneCell']) (by decide) (by unfold maxLen; omega) (by omega) ?_
                                  clear hs; intro g86 cap86 w86 hs
                                  simp only [List.set_cons_zero, List.set_cons_succ, List.eraseIdx_cons_zero, List.eraseIdx_cons_succ] at hs
                                  refine Z.lb 1 rfl ?_
                                  refine Z.lnil ?_
                                  refine Z.only [1, 2, 3, 4, 5] rfl ?_
                                  refine Z.nblock ?_
                                  refine Z.nthen ?_
                                  have hpa : (part || decide (b % 32 ≠ 31)) = (part || b % 32 != 31) := congrArg (part || ·) (by rw [Bool.eq_iff_iff]; simp)
                                  have eL : ∀ n : Int, (acc ++ [(b % 32, n)]).length = acc.length + 1 := fun n => by simp
                                  have eF : ∀ n : Int, acc.flatMap encH ++ [Value.int .i64 (b % 32), Value.int .i64 n] = (acc ++ [(b % 32, n)]).flatMap encH := fun n => by simp [encH]
                                  rw [eF, ← eL] at hs
                                  rw [hpa, e3] at hG
                                  by_cases hm : b / 32 % 2 = 1
                                  · rw [if_pos hm] at hG
                                    first
                                    | (rw [if_pos hc12.1, if_neg (fun k => k hln)] at hG
                                       have hle := lnP_le hln
                                       exact Z.again (lnP l (p + 1), acc ++ [(b % 32, lnV l (p + 1))], _, (part || b % 32 != 31), (b / 32 % 2 == 1), _) (by refine ⟨?_, ?_, ?_, ?_, ?_, trivial⟩ <;> (first | rfl | (refine Z.lookv rfl ?_; simp; done) | (refine Z.lookv rfl ?_; simp; omega))) ⟨⟨hle.2, by simp only [eL]; omega, fun _ => ⟨F, by simp only; omega, hG⟩, fun h => by simp [hm] at h⟩, hs.sel [0, 1, 2, 3] (by decide)⟩ (by simp only; omega))
                                    | (rw [if_neg (fun k => hc12 k hm)] at hG
                                       exact Z.again (p + 1, acc ++ [(b % 32, -1)], _, (part || b % 32 != 31), (b / 32 % 2 == 1), _) (by refine ⟨?_, ?_, ?_, ?_, ?_, trivial⟩ <;> (first | rfl | (refine Z.lookv rfl ?_; simp; done) | (refine Z.lookv rfl ?_; simp; omega))) ⟨⟨by simp only; omega, by simp only [eL]; omega, fun _ => ⟨F, by simp only; omega, hG⟩, fun h => by simp [hm] at h⟩, hs.sel [1, 2, 3, 4] (by decide)⟩ (by simp only; omega))
                                  · rw [if_neg hm] at hG
                                    first
                                    | exact absurd hc12.2 hm
                                    | exact Z.again (p + 1, acc ++ [(b % 32, -1)], _, (part || b % 32 != 31), (b / 32 % 2 == 1), _) (by refine ⟨?_, ?_, ?_, ?_, ?_, trivial⟩ <;> (first | rfl | (refine Z.lookv rfl ?_; simp; done) | (refine Z.lookv rfl ?_; simp; omega))) ⟨⟨by simp only; omega, by simp only [eL]; omega, fun h => by simp [hm] at h, fun _ => hG.symm⟩, hs.sel [1, 2, 3, 4] (by decide)⟩ (by simp only; omega)
                                  )
                            )
                    · skip
                      rintro c9_15 w9_15 ⟨hm9, rfl, hy⟩
                      replace hs := hs.call hy
                      clear hy
                      try simp only [List.cons_append, List.nil_append, List.append_nil] at hs
                      repeat (first | refine Z.pthen ?_ | refine Z.pblock ?_ | refine Z.pscope ?_)
                      -- ret#2
                      refine Z.outp ?_
                      first
                      | exact .inr ⟨_, rfl, (pan_ln hG hc12 hln).1, (pan_ln hG hc12 hln).2, _, (hs.regain hz).sub (List.sublist_append_left _ _)⟩
                      | exact .inr ⟨_, rfl, (pan_hd hG (bad7n hsp28)).1, (pan_hd hG (bad7n hsp28)).2, _, hs.sub (List.sublist_append_left _ _)⟩
                      | exact .inr ⟨_, rfl, (pan_hd hG (bad7 hm7)).1, (pan_hd hG (bad7 hm7)).2, _, hs.sub (List.sublist_append_left _ _)⟩
                      | exact .inr ⟨_, rfl, (pan_hd hG (bad8 hm8)).1, (pan_hd hG (bad8 hm8)).2, _, hs.sub (List.sublist_append_left _ _)⟩
                      | exact .inr ⟨_, rfl, (pan_hd hG (bad9 hm9)).1, (pan_hd hG (bad9 hm9)).2, _, hs.sub (List.sublist_append_left _ _)⟩
                      | exact .inr ⟨_, rfl, (pan_end hG (not_at hq)).1, (pan_end hG (not_at hq)).2, _, (hs.regain hz).sub (List.sublist_append_left _ _)⟩
                  · skip
                    rintro c8_6 w8_6 ⟨hm8, rfl, hy⟩
                    replace hs := hs.call hy
                    clear hy
                    try simp only [List.cons_append, List.nil_append, List.append_nil] at hs
                    repeat (first | refine Z.pthen ?_ | refine Z.pblock ?_ | refine Z.pscope ?_)
                    -- ret#3
                    refine Z.outp ?_
                    first
                    | exact .inr ⟨_, rfl, (pan_ln hG hc12 hln).1, (pan_ln hG hc12 hln).2, _, (hs.regain hz).sub (List.sublist_append_left _ _)⟩
                    | exact .inr ⟨_, rfl, (pan_hd hG (bad7n hsp28)).1, (pan_hd hG (bad7n hsp28)).2, _, hs.sub (List.sublist_append_left _ _)⟩
                    | exact .inr ⟨_, rfl, (pan_hd hG (bad7 hm7)).1, (pan_hd hG (bad7 hm7)).2, _, hs.sub (List.sublist_append_left _ _)⟩
                    | exact .inr ⟨_, rfl, (pan_hd hG (bad8 hm8)).1, (pan_hd hG (bad8 hm8)).2, _, hs.sub (List.sublist_append_left _ _)⟩
                    | exact .inr ⟨_, rfl, (pan_hd hG (bad9 hm9)).1, (pan_hd hG (bad9 hm9)).2, _, hs.sub (List.sublist_append_left _ _)⟩
                    | exact .inr ⟨_, rfl, (pan_end hG (not_at hq)).1, (pan_end hG (not_at hq)).2, _, (hs.regain hz).sub (List.sublist_append_left _ _)⟩
                · skip
                  rintro c7_13 w7_13 ⟨hm7, rfl, hy⟩
                  replace hs := hs.call hy
                  clear hy
                  try simp only [List.cons_append, List.nil_append, List.append_nil] at hs
                  repeat (first | refine Z.pthen ?_ | refine Z.pblock ?_ | refine Z.pscope ?_)
                  -- ret#4
                  refine Z.outp ?_
                  first
                  | exact .inr ⟨_, rfl, (pan_ln hG hc12 hln).1, (pan_ln hG hc12 hln).2, _, (hs.regain hz).sub (List.sublist_append_left _ _)⟩
                  | exact .inr ⟨_, rfl, (pan_hd hG (bad7n hsp28)).1, (pan_hd hG (bad7n hsp28)).2, _, hs.sub (List.sublist_append_left _ _)⟩
                  | exact .inr ⟨_, rfl, (pan_hd hG (bad7 hm7)).1, (pan_hd hG (bad7 hm7)).2, _, hs.sub (List.sublist_append_left _ _)⟩
                  | exact .inr ⟨_, rfl, (pan_hd hG (bad8 hm8)).1, (pan_hd hG (bad8 hm8)).2, _, hs.sub (List.sublist_append_left _ _)⟩
                  | exact .inr ⟨_, rfl, (pan_hd hG (bad9 hm9)).1, (pan_hd hG (bad9 hm9)).2, _, hs.sub (List.sublist_append_left _ _)⟩
                  | exact .inr ⟨_, rfl, (pan_end hG (not_at hq)).1, (pan_end hG (not_at hq)).2, _, (hs.regain hz).sub (List.sublist_append_left _ _)⟩
                )
          · first
              | (exfalso; simp at hsp28 <;> omega)
              | (
                refine Z.yes (s := 28) (b := false) rfl hsp28 rfl ?_
                (try simp at hsp28)
                refine Z.ls rfl rfl rfl (by rfl) ?_
                refine Z.ls rfl rfl rfl (by rfl) ?_
                refine Z.lsU rfl rfl rfl (by rfl) ?_
                refine Z.ls rfl rfl rfl (by rfl) ?_
                refine Z.ls rfl rfl rfl (by rfl) ?_
                refine Z.lsU rfl rfl rfl (by rfl) ?_
                refine Z.lsU rfl rfl rfl (by rfl) ?_
                refine Z.ls rfl rfl rfl (by rfl) ?_
                refine Z.l rfl rfl (by rfl) (Z.keepS hs) (Z.Yd.pickF rfl rfl) ?_
                refine Z.le rfl trivial ?_
                refine Z.ZO.callB rfl rfl (by rfl) rfl rfl Try.call31 rfl (mm_must_any _ 9 _) ?_ ?_
                · skip
                  rintro v7_13 w7_13 ⟨hm7, rfl, hy⟩
                  replace hs := hs.call hy
                  clear hy
                  try simp only [List.cons_append, List.nil_append, List.append_nil] at hs
                  refine Z.lnil ?_
                  refine Z.only [1, 2, 3, 4, 5, 8, 10] rfl ?_
                  refine Z.nthen ?_
                  refine Z.seq ?_
                  refine Z.region ?_
                  exact absurd hm7 (by simp)
                · skip
                  rintro c7_13 w7_13 ⟨hm7, rfl, hy⟩
                  replace hs := hs.call hy
                  clear hy
                  try simp only [List.cons_append, List.nil_append, List.append_nil] at hs
                  repeat (first | refine Z.pthen ?_ | refine Z.pblock ?_ | refine Z.pscope ?_)
                  -- ret#5
                  refine Z.outp ?_
                  first
                  | exact .inr ⟨_, rfl, (pan_ln hG hc12 hln).1, (pan_ln hG hc12 hln).2, _, (hs.regain hz).sub (List.sublist_append_left _ _)⟩
                  | exact .inr ⟨_, rfl, (pan_hd hG (bad7n hsp28)).1, (pan_hd hG (bad7n hsp28)).2, _, hs.sub (List.sublist_append_left _ _)⟩
                  | exact .inr ⟨_, rfl, (pan_hd hG (bad7 hm7)).1, (pan_hd hG (bad7 hm7)).2, _, hs.sub (List.sublist_append_left _ _)⟩
                  | exact .inr ⟨_, rfl, (pan_hd hG (bad8 hm8)).1, (pan_hd hG (bad8 hm8)).2, _, hs.sub (List.sublist_append_left _ _)⟩
                  | exact .inr ⟨_, rfl, (pan_hd hG (bad9 hm9)).1, (pan_hd hG (bad9 hm9)).2, _, hs.sub (List.sublist_append_left _ _)⟩
                  | exact .inr ⟨_, rfl, (pan_end hG (not_at hq)).1, (pan_end hG (not_at hq)).2, _, (hs.regain hz).sub (List.sublist_append_left _ _)⟩
                )
        · skip
          rintro c4_1 w4_1 ⟨hq, rfl, a', hz⟩
          repeat (first | refine Z.pthen ?_ | refine Z.pblock ?_ | refine Z.pscope ?_)
          -- ret#6
          refine Z.outp ?_
          first
          | exact .inr ⟨_, rfl, (pan_ln hG hc12 hln).1, (pan_ln hG hc12 hln).2, _, (hs.regain hz).sub (List.sublist_append_left _ _)⟩
          | exact .inr ⟨_, rfl, (pan_hd hG (bad7n hsp28)).1, (pan_hd hG (bad7n hsp28)).2, _, hs.sub (List.sublist_append_left _ _)⟩
          | exact .inr ⟨_, rfl, (pan_hd hG (bad7 hm7)).1, (pan_hd hG (bad7 hm7)).2, _, hs.sub (List.sublist_append_left _ _)⟩
          | exact .inr ⟨_, rfl, (pan_hd hG (bad8 hm8)).1, (pan_hd hG (bad8 hm8)).2, _, hs.sub (List.sublist_append_left _ _)⟩
          | exact .inr ⟨_, rfl, (pan_hd hG (bad9 hm9)).1, (pan_hd hG (bad9 hm9)).2, _, hs.sub (List.sublist_append_left _ _)⟩
          | exact .inr ⟨_, rfl, (pan_end hG (not_at hq)).1, (pan_end hG (not_at hq)).2, _, (hs.regain hz).sub (List.sublist_append_left _ _)⟩
        )
  · first
      | (exfalso; simp at hc3 <;> omega)
      | (
        (try simp at hc3)
        refine Z.exit ?_
        refine Z.xthen ?_
        refine Z.xthen ?_
        refine Z.xblock ?_
        refine Z.nthen ?_
        refine Z.seq ?_
        refine Z.region ?_
        refine Z.lb 2 rfl ?_
        refine Z.lnil ?_
        refine Z.only [2] rfl ?_
        refine Z.nthen ?_
        refine Z.ret ?_
        -- ret#7
        refine Z.out1 (by exact ⟨rfl, trivial⟩) ?_
        have hRR := hno (by simp_all)
        subst hRR
        exact .inl ⟨_, rfl, rfl, hp, by simp only; omega, hs.sub (by simp)⟩
        )
end Go.Proofs.Ytogjkgoiofngaaa

/- MAC PDUs: Build, plain parts. -/
namespace Go.Proofs.Ytogjkgoiofngaaa
open Go.RowKit
set_option linter.unusedSimpArgs false
set_option linter.unusedVariables false
--newlaws

theorem mm_headI (g T : Nat) (sv : Value) (acc : List Int) (x : Int) (b : Bool) (w : World) (hs : SX.St w (SX.idsOf (WrL g T sv (unb acc))) w (WrL g T sv (unb acc))) (hx : 0 ≤ x ∧ x < 32) (ha : acc.length ≤ 100000) :
    Calls Try.prog 33 #[.int .i64 x, .bool b, .pointer (some ⟨g, 0, none⟩)] w (SX.Ret fun v w' => ∃ sv', v = .tuple #[] ∧ SX.St w (SX.idsOf (WrL g T sv (unb acc))) w' (WrL g T sv' (unb (acc ++ [x + if b then 32 else 0])))) := by
  obtain ⟨n, rfl⟩ := Int.eq_ofNat_of_zero_le hx.1
  exact mm_head g T sv acc n b w hs (by omega) ha
/-- the format of a length field: flag, width, greatest length -/
def fmOf (n : Nat) : Int × Int × Int := if n ≤ 127 then (0, 7, 127) else (1, 15, 32767)
def lnF (n : Nat) : List (Int × Int) := [((fmOf n).1, 1), ((n : Int), (fmOf n).2.1)]
theorem lnF_ok {n : Nat} (h : n ≤ 32767) : (∀ f ∈ lnF n, GoodF f) ∧ chkA (lnF n) = 0 ∧ (lnF n).flatMap fldF = unb (lenF n) := by
  unfold lnF fmOf lenF
  by_cases h1 : n ≤ 127
  · rw [if_pos h1, if_pos h1]
    refine ⟨?_, ?_, ?_⟩
    · intro f hf
      simp only [List.mem_cons, List.mem_nil_iff, or_false] at hf
      unfold GoodF
      rcases hf with rfl | rfl
      · decide
      · simp only; omega
    · have e1 : chkF (0, 1) = 0 := by decide
      have e2 : chkF ((n : Int), 7) = 0 := by
        unfold chkF quoF
        simp only [Int.toNat_natCast]
        rw [if_neg (by omega), if_pos (by simp; omega)]
      simp only [chkA, e1, e2, if_true]
    · have := len_short ⟨n, by omega⟩
      simpa [fldF, unb] using this
  · rw [if_neg h1, if_neg h1]
    refine ⟨?_, ?_, ?_⟩
    · intro f hf
      simp only [List.mem_cons, List.mem_nil_iff, or_false] at hf
      unfold GoodF
      rcases hf with rfl | rfl
      · decide
      · simp only; omega
    · have e1 : chkF (1, 1) = 0 := by decide
      have e2 : chkF ((n : Int), 15) = 0 := by
        unfold chkF quoF
        simp only [Int.toNat_natCast]
        rw [if_neg (by omega), if_pos (by simp; omega)]
      simp only [chkA, e1, e2, if_true]
    · have h2 := len_long (n := n) (by omega)
      have e1 : (128 + (n : Int) / 256).toNat = 128 + n / 256 := by omega
      have e2 : ((n : Int) % 256).toNat = n % 256 := by omega
      simpa [fldF, unb, e1, e2] using h2
theorem fm_ext {q : MpV} (h : sduB q.lc) : extP q.plain = if q.l.length ≤ 127 then 1 else 2 := by
  have e1 : q.plain.1 = q.lc := rfl
  have e2 : q.plain.2 = q.l := rfl
  unfold extP
  rw [e1, e2, if_pos h]
  by_cases h1 : q.l.length ≤ 127
  · rw [if_pos h1, if_neg (by omega)]
  · rw [if_neg h1, if_pos (by omega)]
theorem ext_pos {q : MpV} : 0 < extP q.plain ↔ sduB q.lc := by
  constructor
  · intro h
    by_cases h1 : sduB q.lc
    · exact h1
    · have := ext_no (p := q.plain) h1
      omega
  · intro h
    rw [fm_ext h]
    split <;> omega
theorem hdsR_bd {a : Bool} : ∀ {r : List Prt}, (∀ p ∈ r, (1 ≤ p.1 ∧ p.1 ≤ 30) ∧ p.2.length ≤ 32767) → ∀ x ∈ hdsR r a, 0 ≤ x ∧ x < 256
  | [], _, x, hx => by cases hx
  | p :: r, h, x, hx => by
    rw [hdsR_cons] at hx
    have hp := h p (by simp)
    rcases List.mem_append.1 hx with h1 | h1
    · split at h1
      · obtain rfl : x = p.1 := by simpa using h1
        omega
      · rcases List.mem_cons.1 h1 with rfl | h2
        · omega
        · split at h2
          · exact (lenF_bd hp.2).1 x h2
          · cases h2
    · exact hdsR_bd (fun q hq => h q (by simp [hq])) x h1
/-- all subheaders -/
def headB (r : List Prt) (f : Nat) (tr : Bool) : List Int := List.replicate f 63 ++ hdsR r tr ++ if tr then [31] else []
theorem headB_bd {r : List Prt} {f : Nat} {tr : Bool} (h : ∀ p ∈ r, (1 ≤ p.1 ∧ p.1 ≤ 30) ∧ p.2.length ≤ 32767) : ∀ x ∈ headB r f tr, 0 ≤ x ∧ x < 256 := by
  intro x hx
  unfold headB at hx
  rcases List.mem_append.1 hx with hx | hx
  · rcases List.mem_append.1 hx with hx | hx
    · have := (List.mem_replicate.1 hx).2; omega
    · exact hdsR_bd h x hx
  · split at hx
    · have : x = 31 := by simpa using hx
      omega
    · cases hx
theorem join_few (r : List Prt) (d : Nat) : joinB r d (-1) = headB r d false ++ datR r := by simp [joinB, headB]
theorem join_tr (r : List Prt) (a : Nat) : joinB r 0 (a : Int) = headB r 0 true ++ datR r ++ List.replicate a 0 := by simp [joinB, headB]
theorem headB_len_t (r : List Prt) : ((headB r 0 true ++ datR r).length : Int) = totP r + 1 := by
  have := hds_true r
  simp [headB]
  omega
theorem headB_len_f (r : List Prt) (d : Nat) (h : r ≠ []) : ((headB r d false ++ datR r).length : Int) = needP r + d := by
  have := hds_false r h
  simp [headB]
  omega
end Go.Proofs.Ytogjkgoiofngaaa

/- MAC PDUs: parsing, plainly. -/
namespace Go.Proofs.Ytogjkgoiofngaaa
open Go.RowKit
set_option linter.unusedSimpArgs false
set_option linter.unusedVariables false

/-- the length of the data of a part at byte p -/
def ptN (l : List Int) (p : Nat) (x n : Int) (last : Bool) : Int := if ctlN x ≠ 0 then ctlN x else if last then (l.length : Int) - p else n
/-- the parts from byte p on: the error, the parts -/
def ptGo (l : List Int) : List (Int × Int) → Nat → List Prt → Int × List Prt
  | [], _, acc => if acc = [] then (9, []) else (0, acc)
  | h :: hs, p, acc => if h.1 = 31 then ptGo l hs p acc
    else if ¬ p + (ptN l p h.1 h.2 hs.isEmpty).toNat ≤ l.length then (5, [])
    else if hs.isEmpty = true ∧ ¬ (0 < (ptN l p h.1 h.2 hs.isEmpty).toNat ∧ p + (ptN l p h.1 h.2 hs.isEmpty).toNat = l.length) then (9, [])
    else ptGo l hs (p + (ptN l p h.1 h.2 hs.isEmpty).toNat) (acc ++ [(h.1, (l.drop p).take (ptN l p h.1 h.2 hs.isEmpty).toNat)])
def hdV (l : List Int) : Int × List (Int × Int) × Nat := hGo l (l.length + 1) 0 [] false false
/-- the parts of a PDU: the error, the parts -/
def parV (l : List Int) : Int × List Prt := if 16384 < l.length then (4, []) else if (hdV l).1 ≠ 0 then ((hdV l).1, []) else ptGo l (hdV l).2.1 (hdV l).2.2 []
def hdT (h : Int × Int) : Prop := sduB h.1 ∨ ctlN h.1 ≠ 0 ∨ h.1 = 31
def hdG (h : Int × Int) : Prop := hdT h ∧ (sduB h.1 → 1 ≤ h.2 ∧ h.2 ≤ 32767)
theorem lnV_bd {l : List Int} (hb : ∀ x ∈ l, 0 ≤ x ∧ x < 256) {p : Nat} (h : lnE l p = 0) : 1 ≤ lnV l p ∧ lnV l p ≤ 32767 := by
  unfold lnE at h
  unfold lnV
  by_cases h1 : p < l.length
  · have b1 := byB_bd hb h1
    rw [if_neg (fun k => k h1)] at h
    by_cases h2 : byB l p < 128
    · rw [if_pos h2] at h ⊢
      by_cases h3 : byB l p = 0
      · rw [if_pos h3] at h; cases h
      · omega
    · rw [if_neg h2] at h ⊢
      by_cases h3 : p + 1 < l.length
      · have b2 := byB_bd hb h3
        rw [if_neg (fun k => k h3)] at h
        by_cases h4 : 127 < byB l p % 128 * 256 + byB l (p + 1)
        · omega
        · rw [if_neg h4] at h; cases h
      · rw [if_pos h3] at h; cases h
  · rw [if_pos h1] at h; cases h
theorem hGo_good {l : List Int} (hb : ∀ x ∈ l, 0 ≤ x ∧ x < 256) : ∀ (F p : Nat) (acc : List (Int × Int)) (d pt : Bool), (∀ h ∈ acc, hdG h) → (hGo l F p acc d pt).1 = 0 → ∃ a h, (hGo l F p acc d pt).2.1 = a ++ [h] ∧ (∀ x ∈ a, hdG x) ∧ hdT h
  | 0, _, _, _, _ => by intro _ h; cases h
  | F + 1, p, acc, d, pt => by
    intro ha
    rw [hGo]
    by_cases h1 : p < l.length
    · rw [if_neg (fun k => k h1)]
      by_cases h2 : hdBad (byB l p) acc.length d pt
      · rw [if_pos h2]; intro h; exact absurd h (by decide)
      · rw [if_neg h2]
        have hT : sduB (byB l p % 32) ∨ ctlN (byB l p % 32) ≠ 0 ∨ byB l p % 32 = 31 := by
          unfold hdBad at h2
          exact (Classical.not_not.1 (fun k => h2 (.inl k))).2
        by_cases h3 : byB l p / 32 % 2 = 1
        · rw [if_pos h3]
          by_cases h4 : sduB (byB l p % 32)
          · rw [if_pos h4]
            by_cases h5 : lnE l (p + 1) = 0
            · rw [if_neg (fun k => k h5)]
              refine hGo_good hb F _ _ _ _ ?_
              intro x hx
              rcases List.mem_append.1 hx with h | h
              · exact ha x h
              · obtain rfl : x = _ := by simpa using h
                exact ⟨.inl h4, fun _ => lnV_bd hb h5⟩
            · rw [if_pos h5]; intro h; exact absurd h h5
          · rw [if_neg h4]
            refine hGo_good hb F _ _ _ _ ?_
            intro x hx
            rcases List.mem_append.1 hx with h | h
            · exact ha x h
            · obtain rfl : x = _ := by simpa using h
              exact ⟨hT, fun h => absurd h h4⟩
        · rw [if_neg h3]
          intro _
          exact ⟨acc, _, rfl, ha, hT⟩
    · rw [if_pos h1]; intro h; exact absurd h (by decide)
theorem dropc {l : List Int} {p : Nat} {b : Int} {X : List Int} (h : l.drop p = b :: X) : p < l.length ∧ byB l p = b ∧ l.drop (p + 1) = X := by
  have hp : p < l.length := by
    rcases Nat.lt_or_ge p l.length with h1 | h1
    · exact h1
    · rw [List.drop_of_length_le h1] at h; cases h
  rw [drop_elt hp] at h
  injection h with h1 h2
  exact ⟨hp, h1, h2⟩
theorem ln_of {l : List Int} {p n : Nat} {X : List Int} (h : l.drop p = lenF n ++ X) (hn : 1 ≤ n ∧ n ≤ 32767) : lnE l p = 0 ∧ lnV l p = n ∧ lnP l p = p + (lenF n).length ∧ l.drop (lnP l p) = X := by
  unfold lenF at h ⊢
  by_cases h1 : n ≤ 127
  · rw [if_pos h1] at h ⊢
    obtain ⟨a, b, c⟩ := dropc h
    have e : lnP l p = p + 1 := by unfold lnP; rw [b, if_pos (by omega)]
    refine ⟨?_, ?_, e, by rw [e]; exact c⟩
    · unfold lnE; rw [if_neg (fun k => k a), b, if_pos (by omega), if_neg (by omega)]
    · unfold lnV; rw [b, if_pos (by omega)]
  · rw [if_neg h1] at h ⊢
    obtain ⟨a, b, c⟩ := dropc h
    obtain ⟨a2, b2, c2⟩ := dropc c
    have e : lnP l p = p + 2 := by unfold lnP; rw [b, if_neg (by omega)]
    refine ⟨?_, ?_, e, by rw [e]; exact c2⟩
    · unfold lnE; rw [if_neg (fun k => k a), b, if_neg (by omega), if_neg (fun k => k a2), b2, if_pos (by omega)]
    · unfold lnV; rw [b, b2, if_neg (by omega)]; omega
/-- the subheaders of parts; whether padding follows -/
def hdO (a : Bool) : List Prt → List (Int × Int)
  | [] => if a then [(31, -1)] else []
  | p :: r => (p.1, if r.isEmpty && !a then -1 else if sduB p.1 then (p.2.length : Int) else -1) :: hdO a r
theorem sdu_bd {x : Int} (h : sduB x) : 1 ≤ x ∧ x ≤ 10 := h
theorem hGo_parts {l : List Int} {a : Bool} {X : List Int} : ∀ (r : List Prt) (F p : Nat) (acc : List (Int × Int)) (d pt : Bool), r.length + 1 ≤ F → l.drop p = hdsR r a ++ ((if a then [31] else []) ++ X) → vldP d r = true → (r ≠ [] ∨ a = true) →
    hGo l F p acc d pt = (0, acc ++ hdO a r, p + (hdsR r a).length + (if a then 1 else 0))
  | [], F, p, acc, d, pt, hF, hd, hv, hr => by
    have ha : a = true := by rcases hr with h | h; exact absurd rfl h; exact h
    subst ha
    obtain ⟨F, rfl⟩ : ∃ F', F = F' + 1 := ⟨F - 1, by simp at hF; omega⟩
    obtain ⟨h1, h2, -⟩ := dropc (b := 31) (X := X) (by simpa [hdsR] using hd)
    rw [hGo, if_neg (fun k => k h1), h2, if_neg (by unfold hdBad; simp [ctlN]), if_neg (by decide)]
    simp [hdO, hdsR]
  | q :: r, F, p, acc, d, pt, hF, hd, hv, hr => by
    obtain ⟨F, rfl⟩ : ∃ F', F = F' + 1 := ⟨F - 1, by simp at hF; omega⟩
    have hF' : r.length + 1 ≤ F := by simp at hF; omega
    obtain ⟨⟨q1, q2⟩, q3⟩ := vldP_mem hv q (by simp)
    rw [vldP_cons] at hv
    have hty : sduB q.1 ∨ ctlN q.1 ≠ 0 := by
      by_cases h : sduB q.1
      · exact .inl h
      · rw [if_neg h] at hv; simp at hv; exact .inr hv.1.1.2
    have hcd : ¬ (ctlN q.1 ≠ 0 ∧ d = true) := by
      rintro ⟨h1, h2⟩
      by_cases h : sduB q.1
      · exact h1 (sdu_ctl h)
      · rw [if_neg h] at hv; simp [h2] at hv
    have h31 : q.1 ≠ 31 := by omega
    rw [hdsR_cons] at hd
    by_cases hla : (r.isEmpty && !a) = true
    · rw [if_pos hla] at hd
      obtain ⟨h1, h2, -⟩ := dropc (b := q.1) (X := hdsR r a ++ ((if a then [31] else []) ++ X)) (by simpa using hd)
      have hre : r = [] ∧ a = false := by simpa using hla
      obtain ⟨rfl, rfl⟩ := hre
      have e1 : q.1 % 32 = q.1 := by omega
      have e2 : q.1 / 64 = 0 := by omega
      have e3 : ¬ q.1 / 32 % 2 = 1 := by omega
      have hnb : ¬ hdBad q.1 acc.length d pt := by
        unfold hdBad
        rw [e1, e2]
        rintro (h | h | h)
        · exact h ⟨rfl, by rcases hty with h | h; exact .inl h; exact .inr (.inl h)⟩
        · exact hcd h
        · exact h31 h.1
      rw [hGo, if_neg (fun k => k h1), h2, if_neg hnb, if_neg e3, e1]
      simp [hdO, hdsR]
    · rw [if_neg hla] at hd
      obtain ⟨h1, h2, h3⟩ := dropc (b := q.1 + 32) (X := (if sduB q.1 then lenF q.2.length else []) ++ (hdsR r a ++ ((if a then [31] else []) ++ X))) (by simpa using hd)
      have hra : r ≠ [] ∨ a = true := by
        cases a
        · left; intro h; subst h; exact hla rfl
        · exact .inr rfl
      have e1 : (q.1 + 32) % 32 = q.1 := by omega
      have e2 : (q.1 + 32) / 64 = 0 := by omega
      have e3 : (q.1 + 32) / 32 % 2 = 1 := by omega
      have hnb : ¬ hdBad (q.1 + 32) acc.length d pt := by
        unfold hdBad
        rw [e1, e2]
        rintro (h | h | h)
        · exact h ⟨rfl, by rcases hty with h | h; exact .inl h; exact .inr (.inl h)⟩
        · exact hcd h
        · exact h31 h.1
      rw [hGo, if_neg (fun k => k h1), h2, if_neg hnb, if_pos e3, e1]
      have eO : hdO a (q :: r) = (q.1, if sduB q.1 then (q.2.length : Int) else -1) :: hdO a r := by rw [hdO, if_neg hla]
      rw [eO, hdsR_cons, if_neg hla]
      by_cases hsd : sduB q.1
      · rw [if_pos hsd] at hv h3 ⊢
        simp only [Bool.and_eq_true, decide_eq_true_eq] at hv
        obtain ⟨l1, l2, l3, l4⟩ := ln_of h3 ⟨hv.1.1, q3⟩
        rw [if_neg (by rw [l1]; decide), l2, l3]
        rw [l3] at l4
        rw [hGo_parts r F _ _ _ _ hF' l4 (by simpa [hsd] using hv.2) hra]
        simp [hsd]
        omega
      · rw [if_neg hsd] at hv h3 ⊢
        simp only [Bool.and_eq_true, Bool.not_eq_true', decide_eq_true_eq] at hv
        rw [hGo_parts r F _ _ _ _ hF' (by simpa using h3) (by simpa [hsd, hv.1.1.1] using hv.2) hra]
        simp [hsd]
        omega
theorem hGo_front {l : List Int} {X : List Int} : ∀ (f F p : Nat) (acc : List (Int × Int)), acc.length + f ≤ 2 → l.drop p = List.replicate f 63 ++ X → hGo l (F + f) p acc false false = hGo l F (p + f) (acc ++ List.replicate f (31, -1)) false false ∧ l.drop (p + f) = X
  | 0, F, p, acc, _, h => by simpa using h
  | f + 1, F, p, acc, ha, h => by
    rw [List.replicate_succ, List.cons_append] at h
    obtain ⟨h1, h2, h3⟩ := dropc h
    obtain ⟨k1, k2⟩ := hGo_front f F (p + 1) (acc ++ [(31, -1)]) (by simp; omega) h3
    have hnb : ¬ hdBad 63 acc.length false false := by
      unfold hdBad
      rintro (h | h | h)
      · exact h ⟨by decide, .inr (.inr (by decide))⟩
      · exact absurd h.2 (by decide)
      · rcases h.2.2 with h | h
        · cases h
        · omega
    have e1 : ¬ sduB ((63 : Int) % 32) := by decide
    have e : hGo l (F + (f + 1)) p acc false false = hGo l (F + f) (p + 1) (acc ++ [(31, -1)]) false false := by
      rw [← Nat.add_assoc, hGo, if_neg (fun k => k h1), h2, if_neg hnb, if_pos (by decide), if_neg e1]
      rfl
    rw [e, k1, List.append_assoc, List.replicate_succ]
    exact ⟨by rw [show p + 1 + f = p + (f + 1) from by omega]; rfl, by rw [← k2]; congr 1; omega⟩
theorem ptGo_front {l : List Int} {hs : List (Int × Int)} {p : Nat} {acc : List Prt} : ∀ f : Nat, ptGo l (List.replicate f (31, -1) ++ hs) p acc = ptGo l hs p acc
  | 0 => rfl
  | f + 1 => by
    rw [List.replicate_succ, List.cons_append, ptGo, if_pos rfl]
    exact ptGo_front f
theorem hdO_empty {a : Bool} {r : List Prt} : (hdO a r).isEmpty = (r.isEmpty && !a) := by
  cases r with
  | nil => cases a <;> rfl
  | cons q r => rfl
theorem ptGo_parts {l : List Int} {a : Bool} {Y : List Int} (hY : a = false → Y = []) : ∀ (r : List Prt) (p : Nat) (acc : List Prt) (d : Bool), vldP d r = true → l.drop p = datR r ++ Y → (r ≠ [] ∨ acc ≠ []) → ptGo l (hdO a r) p acc = (0, acc ++ r)
  | [], p, acc, d, hv, hd, hr => by
    have ha : acc ≠ [] := by rcases hr with h | h; exact absurd rfl h; exact h
    cases a
    · simp [hdO, ptGo, ha]
    · simp [hdO, ptGo, ha]
  | q :: r, p, acc, d, hv, hd, hr => by
    obtain ⟨⟨q1, q2⟩, q3⟩ := vldP_mem hv q (by simp)
    rw [vldP_cons] at hv
    rw [datR_cons, List.append_assoc] at hd
    have hlen := congrArg List.length hd
    rw [List.length_drop, List.length_append] at hlen
    have hq0 : 1 ≤ q.2.length := by
      by_cases h : sduB q.1
      · rw [if_pos h] at hv; simp at hv; exact hv.1.1
      · rw [if_neg h] at hv
        simp at hv
        have h2 := hv.1.2
        have h3 := hv.1.1.2
        have h4 := ctlN_bd q.1
        omega
    obtain ⟨n, hn⟩ : ∃ n : Int, (if r.isEmpty && !a then -1 else if sduB q.1 then (q.2.length : Int) else -1) = n := ⟨_, rfl⟩
    have hk : (ptN l p q.1 n (hdO a r).isEmpty).toNat = q.2.length := by
      unfold ptN
      by_cases h : sduB q.1
      · rw [if_neg (by simpa using sdu_ctl h), hdO_empty]
        by_cases hla : (r.isEmpty && !a) = true
        · rw [if_pos hla]
          have hre : r = [] ∧ a = false := by simpa using hla
          obtain ⟨rfl, hf⟩ := hre
          rw [hY hf] at hlen
          simp [datR] at hlen
          omega
        · rw [if_neg hla] at hn
          rw [if_neg hla, ← hn, if_pos h]
          rfl
      · rw [if_neg h] at hv
        simp at hv
        rw [if_pos (by exact hv.1.1.2), ← hv.1.2]
        rfl
    have ht : (l.drop p).take q.2.length = q.2 := by rw [hd]; simp
    have hdr : l.drop (p + q.2.length) = datR r ++ Y := by rw [← List.drop_drop, hd]; simp
    rw [hdO, hn, ptGo, if_neg (by simp only; omega)]
    simp only [hk, ht]
    rw [if_neg (by omega), if_neg]
    · have hv' : ∃ d', vldP d' r = true := by
        by_cases h : sduB q.1
        · rw [if_pos h] at hv; simp at hv; exact ⟨_, hv.2⟩
        · rw [if_neg h] at hv; simp at hv; exact ⟨_, hv.2⟩
      obtain ⟨d', hv'⟩ := hv'
      rw [ptGo_parts hY r _ _ d' hv' hdr (.inr (by simp))]
      simp
    · rintro ⟨h1, h2⟩
      rw [hdO_empty] at h1
      have hre : r = [] ∧ a = false := by simpa using h1
      obtain ⟨rfl, hf⟩ := hre
      rw [hY hf] at hlen
      simp [datR] at hlen
      exact h2 ⟨by omega, by omega⟩
theorem hds_len (a : Bool) : ∀ r : List Prt, r.length ≤ (hdsR r a).length
  | [] => Nat.zero_le _
  | q :: r => by
    have := hds_len a r
    rw [hdsR_cons]
    split <;> simp <;> omega
theorem par_join {r : List Prt} (hr : r ≠ []) (hv : vldP false r = true) {a : Bool} {f M : Nat} (hf : f ≤ 2) (hM : a = false → M = 0) (hl : (headB r f a ++ datR r ++ List.replicate M (0 : Int)).length ≤ 16384) :
    parV (headB r f a ++ datR r ++ List.replicate M 0) = (0, r) := by
  obtain ⟨l, hle⟩ : ∃ l, headB r f a ++ datR r ++ List.replicate M (0 : Int) = l := ⟨_, rfl⟩
  rw [hle] at hl ⊢
  have h0 : l.drop 0 = List.replicate f 63 ++ (hdsR r a ++ ((if a then [31] else []) ++ (datR r ++ List.replicate M 0))) := by
    rw [List.drop_zero, ← hle]
    simp [headB]
  have hlen := congrArg List.length h0
  have hhl := hds_len a r
  rw [List.drop_zero, List.length_append, List.length_append, List.length_replicate] at hlen
  obtain ⟨F, hF⟩ : ∃ F, l.length + 1 = F + f := ⟨l.length + 1 - f, by omega⟩
  obtain ⟨g1, g2⟩ := hGo_front f F 0 [] (by simpa using hf) h0
  have g3 := hGo_parts r F (0 + f) ([] ++ List.replicate f (31, -1)) false false (by omega) g2 hv (.inl hr)
  have hV : hdV l = (0, List.replicate f (31, -1) ++ hdO a r, 0 + f + (hdsR r a).length + (if a then 1 else 0)) := by
    unfold hdV
    rw [hF, g1, g3, List.nil_append]
  have hd : l.drop (0 + f + (hdsR r a).length + (if a then 1 else 0)) = datR r ++ List.replicate M 0 := by
    rw [Nat.add_assoc, ← List.drop_drop, g2, ← List.drop_drop, List.drop_left]
    cases a <;> simp
  unfold parV
  rw [if_neg (by omega), hV]
  simp only
  rw [if_neg (by simp), ptGo_front, ptGo_parts (fun h => by rw [hM h]; rfl) r _ [] false hv hd (.inl hr)]
  rfl
theorem par_build {size : Int} {r : List Prt} (h : (bldV size r).2 = 0) : parV (bldV size r).1 = (0, r) := by
  by_cases h1 : (1 ≤ size ∧ size ≤ 16384) ∧ okN r
  · by_cases h2 : size - needP r < 0
    · rw [bld_long h1 h2] at h; exact absurd h (by decide)
    · obtain ⟨d, hd⟩ : ∃ d : Nat, size - needP r = (d : Int) := ⟨(size - needP r).toNat, by omega⟩
      by_cases h3 : d ≤ 2
      · rw [bld_few h1 hd h3]
        have hl := headB_len_f r d h1.2.1
        simp only [join_few]
        have := par_join (a := false) (f := d) (M := 0) h1.2.1 h1.2.2 h3 (fun _ => rfl) (by simp only [List.replicate_zero, List.append_nil]; omega)
        simpa using this
      · have hnt := need_tot r
        rw [bld_pad h1 (by omega)]
        obtain ⟨M, hM⟩ : ∃ M : Nat, size - (totP r + 1) = (M : Int) := ⟨(size - (totP r + 1)).toNat, by omega⟩
        have hl := headB_len_t r
        rw [hM]
        simp only [join_tr]
        exact par_join (a := true) (f := 0) (M := M) h1.2.1 h1.2.2 (by omega) (fun h => by cases h) (by rw [List.length_append, List.length_replicate]; omega)
  · rw [bld_arg h1] at h; exact absurd h (by decide)
end Go.Proofs.Ytogjkgoiofngaaa

/- MAC PDUs: a part read. -/
namespace Go.Proofs.Ytogjkgoiofngaaa
open Go.RowKit
set_option linter.unusedSimpArgs false
set_option linter.unusedVariables false
--newlaws

abbrev PtR (g T : Nat) (sv : Value) (l : List Int) (p : Nat) (x : Int) (last : Bool) (k : Nat) (w : World) : Ending → World → Prop := Z.Bo (fun v w' => (p + k ≤ l.length ∧ (last = true → 0 < k ∧ p + k = l.length)) ∧ ∃ B co, v = .agg #[.int .i64 x, .slice B k k] ∧ SX.St w (SX.idsOf (RdL g T sv l (8 * p))) w' (RdL g T sv l (8 * (p + k)) ++ [SX.Ent.row (.slice B k co) 5 1 k (ints .u8 ((l.drop p).take k))])) fun c w' => (¬ p + k ≤ l.length ∨ last = true ∧ ¬ (0 < k ∧ p + k = l.length)) ∧ c = mperr (if p + k ≤ l.length then 9 else 5) ∧ ∃ a', SX.St w (SX.idsOf (RdL g T sv l (8 * p))) w' (RdL g T sv l a')
theorem mm_gotb_any (x : Value) (e : Int) (w : World) : Calls Try.prog 58 #[x, .int .i64 e] w (Z.Bo (fun v w' => e = 0 ∧ v = x ∧ SX.St w [] w' []) fun c w' => e ≠ 0 ∧ c = mperr e ∧ SX.St w [] w' []) := by
  by_cases h : e = 0
  · subst h; exact Z.Bo.ret ((mm_gotb_ok x w).mono fun e w' ⟨v, h1, h2⟩ => ⟨v, h1, rfl, h2⟩)
  · exact Z.Bo.pan ((mm_gotb_bad x e w h).mono fun e w' ⟨v, h1, h2⟩ => ⟨v, h1, h, h2⟩)
set_option maxHeartbeats 1000000 in
set_option maxRecDepth 100000 in
theorem mm_part_mid (g T : Nat) (sv : Value) (l : List Int) (p : Nat) (x n : Int) (k : Nat) (w : World) (hs : SX.St w (SX.idsOf (RdL g T sv l (8 * p))) w (RdL g T sv l (8 * p))) (hl : l.length ≤ 1000000) (hb : ∀ x ∈ l, 0 ≤ x ∧ x < 256) (hp : p ≤ l.length) (hk : ptN l p x n false = k) :
    Calls Try.prog 47 #[.agg #[.pointer (some ⟨g, 0, none⟩)], .agg #[.int .i64 x, .int .i64 n], .bool false] w (PtR g T sv l p x false k w) := by
  unfold PtR
  generalize hM : SX.idsOf (RdL g T sv l (8 * p)) = M at *
  obtain ⟨c, hc⟩ : ∃ c : Bool, decide (ctlN x ≠ 0) = c := ⟨_, rfl⟩
  have hkT : c = true → ctlN x = (k : Int) := fun h => by rw [← hk]; unfold ptN; rw [if_pos (by subst h; simpa using hc)]
  have hkF : c = false → n = (k : Int) := fun h => by rw [← hk]; unfold ptN; rw [if_neg (by subst h; simpa using hc)]; rfl
  have hgb : gbE l (8 * p) (k : Int) = 0 → p + k ≤ l.length := fun h => by
    rcases Nat.lt_or_ge l.length (p + k) with h1 | h1
    · rw [gb_bad hp (by omega)] at h; cases h
    · exact h1
  have hgc : gbE l (8 * p) (k : Int) ≠ 0 → ¬ p + k ≤ l.length := fun h h1 => h (gb_ok hb h1).1
  refine Z.enter Try.func47 rfl Try.ntmps47 rfl rfl ?_
  refine Z.seq ?_
  refine Z.region ?_
  refine Z.le rfl trivial ?_
  refine Z.ZO.box rfl rfl (by rfl) rfl rfl hs ?_
  clear hs; intro g3 w3 hs
  refine Z.le rfl trivial ?_
  refine Z.ZO.box rfl rfl (by rfl) rfl rfl hs ?_
  clear hs; intro g4 w4 hs
  refine Z.le rfl trivial ?_
  refine Z.ZO.alloc rfl rfl (by rfl) Try.zeroValue47 rfl hs ?_
  clear hs; intro g6 w6 hs
  refine Z.lnil ?_
  refine Z.only [2, 3, 4, 6] rfl ?_
  refine Z.nthen ?_
  refine Z.seq ?_
  refine Z.region ?_
  refine Z.l rfl rfl (by rfl) (Z.keepS hs) (Z.Yd.fieldA (m := 0) rfl (by kernel_rfl)) ?_
  refine Z.l rfl rfl (by rfl) (Z.keepS hs) (by first | exact Z.Yd.load rfl Try.isAgg3 (fun _ => Z.cellB (by first | ((repeat (first | exact List.mem_cons_self | refine List.mem_cons_of_mem _ ?_ | refine List.mem_append_right _ ?_)); done) | fail) rfl) | exact Z.Yd.load rfl Try.isAgg3 (fun _ => Z.cellO (by assumption) (by simp) (by assumption)) | fail "load 1.1") ?_
  refine Z.le rfl trivial ?_
  refine Z.ZO.call rfl rfl (by rfl) rfl rfl Try.call21 rfl (mc_Control _ _) ?_
  rintro v1_2 w1_2 ⟨rfl, hy⟩
  replace hs := hs.call hy
  clear hy
  try simp only [List.cons_append, List.nil_append, List.append_nil] at hs
  rw [hc]
  refine Z.lb 5 rfl ?_
  refine Z.lnil ?_
  refine Z.only [2, 3, 4, 6, 7, 8] rfl ?_
  refine Z.nthen ?_
  refine Z.seq ?_
  refine Z.block ?_
  refine Z.seq ?_
  refine Z.region ?_
  refine Z.lb 6 rfl ?_
  refine Z.lnil ?_
  refine Z.only [2, 3, 4, 6, 7, 8, 16] rfl ?_
  refine Z.nthen ?_
  refine Z.cond rfl (fun h => absurd h (by cases c <;> simp)) (fun hc2 => ?_)
  refine Z.seq ?_
  refine Z.region ?_
  refine Z.lb 3 rfl ?_
  refine Z.lnil ?_
  refine Z.only [2, 3, 4, 6, 7, 26] rfl ?_
  refine Z.nthen ?_
  refine Z.cond rfl (fun hc4 => ?_) (fun hc4 => ?_)
  · first
      | (exfalso; simp at hc4 <;> omega)
      | (
        (try simp at hc4)
        obtain rfl : c = false := by simpa using hc4
        obtain rfl := hkF rfl
        refine Z.region ?_
        refine Z.l rfl rfl (by rfl) (Z.keepS hs) (Z.Yd.fieldA (m := 1) rfl (by kernel_rfl)) ?_
        refine Z.l rfl rfl (by rfl) (Z.keepS hs) (by first | exact Z.Yd.load rfl Try.isAgg3 (fun _ => Z.cellB (by first | ((repeat (first | exact List.mem_cons_self | refine List.mem_cons_of_mem _ ?_ | refine List.mem_append_right _ ?_)); done) | fail) rfl) | exact Z.Yd.load rfl Try.isAgg3 (fun _ => Z.cellO (by assumption) (by simp) (by assumption)) | fail "load 5.1") ?_
        refine Z.lb 1 rfl ?_
        refine Z.lnil ?_
        refine Z.only [2, 3, 4, 6, 7] rfl ?_
        refine Z.nblock ?_
        refine Z.nthen ?_
        refine Z.seq ?_
        refine Z.region ?_
        refine Z.l rfl rfl (by rfl) (Z.keepS hs) (Z.Yd.fieldA (m := 0) rfl (by kernel_rfl)) ?_
        refine Z.l rfl rfl (by rfl) (Z.keepS hs) (by first | exact Z.Yd.load rfl Try.isAgg85 (fun _ => Z.cellB (by first | ((repeat (first | exact List.mem_cons_self | refine List.mem_cons_of_mem _ ?_ | refine List.mem_append_right _ ?_)); done) | fail) rfl) | exact Z.Yd.load rfl Try.isAgg85 (fun _ => Z.cellO (by assumption) (by simp) (by assumption)) | fail "load 6.1") ?_
        refine Z.lb 1 rfl ?_
        first
        | replace hs : SX.St w M _ (RdL g T sv l (8 * p) ++ [_, _, _]) := hs.rot (L1 := [_, _, _])
        | replace hs : SX.St w M _ (RdL g T sv l (8 * p) ++ [_, _, _]) := hs
        refine Z.le rfl trivial ?_
        refine Z.ZO.call rfl rfl (by rfl) rfl rfl Try.call59 rfl (rgetbytes_any g T sv l (8 * p) _ _ hs.lend hl (by omega) hb) ?_
        rintro v6_3 w6_3 ⟨so, rfl, hz⟩
        replace hs := hs.regain hz
        refine Z.lb 2 rfl ?_
        refine Z.le rfl trivial ?_
        refine Z.ZO.callB rfl rfl (by rfl) rfl rfl Try.call58 rfl (mm_gotb_any _ _ _) ?_ ?_
        · skip
          rintro v6_6 w6_6 ⟨hE, rfl, hy⟩
          replace hs := hs.call hy
          clear hy
          try simp only [List.cons_append, List.nil_append, List.append_nil] at hs
          have hpk := hgb hE
          obtain ⟨-, gv, ga⟩ := gb_ok hb hpk
          rw [gv, ga] at hs
          have hlk : ((l.drop p).take k).length = k := by rw [List.length_take, List.length_drop]; omega
          rw [hlk] at hs
          obtain ⟨B, co, rfl, hco, -, -⟩ := SX.row_slv hs (j := 2) rfl
          refine Z.lb 1 rfl ?_
          refine Z.lnil ?_
          refine Z.only [2, 3, 4, 6, 7, 9] rfl ?_
          refine Z.nthen ?_
          refine Z.seq ?_
          refine Z.region ?_
          refine Z.lb 3 rfl ?_
          refine Z.yes (s := 40) (b := true) rfl ((by simp)) rfl ?_
          refine Z.ls rfl rfl rfl (by rfl) ?_
          refine Z.ls rfl rfl rfl (by rfl) ?_
          refine Z.ls rfl rfl rfl (by rfl) ?_
          refine Z.lsU rfl rfl rfl (by rfl) ?_
          refine Z.lsU rfl rfl rfl (by rfl) ?_
          refine Z.lsU rfl rfl rfl (by rfl) ?_
          refine Z.lsU rfl rfl rfl (by rfl) ?_
          refine Z.ls rfl rfl rfl (by rfl) ?_
          refine Z.l rfl rfl (by rfl) (Z.keepS hs) (Z.Yd.pickT rfl rfl) ?_
          refine Z.le rfl trivial ?_
          refine Z.ZO.call rfl rfl (by rfl) rfl rfl Try.call31 rfl (mm_must_ok _ 9 _ (by simp)) ?_
          rintro v7_12 w7_12 ⟨rfl, hy⟩
          replace hs := hs.call hy
          clear hy
          try simp only [List.cons_append, List.nil_append, List.append_nil] at hs
          try simp only [RdL, List.cons_append, List.nil_append] at hs
          refine Z.lnil ?_
          refine Z.only [4, 6, 7, 9] rfl ?_
          refine Z.nthen ?_
          refine Z.seq ?_
          refine Z.drawK (fun j => j != 7) mixed hs ?_
          clear hs; intro wd8 hs
          refine Z.t 0 rfl rfl rfl (by rfl) (by kernel_rfl) ⟨_, hs, by first | (simp; done) | exact fun e he => List.mem_append_right _ he⟩ (Z.Yd.fieldA (m := 0) rfl (by kernel_rfl)) ?_
          refine Z.t 1 rfl rfl rfl (by rfl) (by kernel_rfl) ⟨_, hs, by first | (simp; done) | exact fun e he => List.mem_append_right _ he⟩ (by first | exact Z.Yd.load rfl Try.isAgg3 (fun _ => Z.cellB (by first | ((repeat (first | exact List.mem_cons_self | refine List.mem_cons_of_mem _ ?_ | refine List.mem_append_right _ ?_)); done) | fail) rfl) | exact Z.Yd.load rfl Try.isAgg3 (fun _ => Z.cellO (by assumption) (by simp) (by assumption)) | fail "load 8.1") ?_
          refine Z.tb [2, 3, 4] (by kernel_rfl) rfl ⟨_, hs, by first | (simp; done) | exact fun e he => List.mem_append_right _ he⟩ rfl ?_
          refine Z.t 5 rfl rfl rfl (by rfl) (by kernel_rfl) ⟨_, hs, by first | (simp; done) | exact fun e he => List.mem_append_right _ he⟩ (Z.Yd.cut3 0 k k rfl rfl rfl rfl Try.underlying26 Try.sizeOf5 (fun hG => ⟨(by first | omega | (have hG' := Z.gh rfl hG; simp at hG'; omega)), (by first | omega | (have hG' := Z.gh rfl hG; simp at hG'; omega)), (by first | omega | (have hG' := Z.gh rfl hG; simp at hG'; omega)), (by first | omega | (have hG' := Z.gh rfl hG; simp at hG'; omega)), (by first | omega | (have hG' := Z.gh rfl hG; simp at hG'; omega))⟩)) ?_
          refine Z.t 6 rfl rfl rfl (by rfl) (by kernel_rfl) ⟨_, hs, by first | (simp; done) | exact fun e he => List.mem_append_right _ he⟩ (Z.Yd.buildL [(0, 1), (1, 1)] [.int .i64 0, .slice none 0 0] rfl rfl (by intro w; kernel_rfl)) ?_
          refine Z.tn 7 rfl rfl (by kernel_rfl) rfl trivial ?_
          first | refine Z.ZO.storeA rfl rfl hs rfl rfl (by kernel_rfl) (by first | (simp [Value.oneCell']; done) | (refine Z.all_one ?_; assumption)) (by first | exact SX.at0 | exact SX.at1 | exact SX.at2 | exact SX.at3 | exact SX.at4 | exact SX.at5 | exact Z.at6 | exact Z.at7 | exact Z.at8 | exact Z.at9 | exact Z.at10 | exact Z.at11 | exact Z.at12) (by rfl) ?_ | refine Z.ZO.storeP rfl rfl hs rfl rfl (by kernel_rfl) (by first | (simp [Value.oneCell']; done) | (refine Z.all_one ?_; assumption)) (by first | exact SX.at0 | exact SX.at1 | exact SX.at2 | exact SX.at3 | exact SX.at4 | exact SX.at5 | exact Z.at6 | exact Z.at7 | exact Z.at8 | exact Z.at9 | exact Z.at10 | exact Z.at11 | exact Z.at12) (by first | decide | (simp; done) | (simp; omega)) ?_ | refine Z.ZO.storePR rfl rfl hs rfl rfl (by kernel_rfl) (by first | (simp [Value.oneCell']; done) | (refine Z.all_one ?_; assumption)) (by first | exact SX.at0 | exact SX.at1 | exact SX.at2 | exact SX.at3 | exact SX.at4 | exact SX.at5 | exact Z.at6 | exact Z.at7 | exact Z.at8 | exact Z.at9 | exact Z.at10 | exact Z.at11 | exact Z.at12) (by first | decide | (simp; done) | (simp; omega)) ?_
          clear hs; intro ws hs
          simp only [Nat.zero_add, Nat.add_zero, Nat.reduceAdd, Int.reduceToNat, Nat.reduceMul, List.set_cons_zero, List.set_cons_succ, List.setIfInBounds_toArray] at hs
          try simp only [Z.putL, Nat.zero_add] at hs
          refine Z.tk (Dn := fun j => j != 7) (i := 7) (fun h => absurd h (by decide)) ?_
          refine Z.td (by rfl) (by kernel_rfl) ?_
          refine Z.only [6] rfl ?_
          refine Z.nthen ?_
          refine Z.ret ?_
          -- ret#0
          refine Z.out1 (by exact ⟨⟨_, rfl, Z.rvcA hs Try.isAgg47 (by first | ((repeat (first | exact List.mem_cons_self | refine List.mem_cons_of_mem _ ?_ | refine List.mem_append_right _ ?_)); done) | fail) (by exact Try.sizeOf47)⟩, trivial⟩) ?_
          exact .inl ⟨_, rfl, ⟨hpk, fun h => by cases h⟩, B, co, by rw [slA_zero]; rfl, hs.sel [0, 1, 2] (by decide)⟩
        · skip
          rintro c6_6 w6_6 ⟨hE, rfl, hy⟩
          replace hs := hs.call hy
          clear hy
          try simp only [List.cons_append, List.nil_append, List.append_nil] at hs
          repeat (first | refine Z.pthen ?_ | refine Z.pblock ?_ | refine Z.pscope ?_)
          -- ret#1
          refine Z.outp ?_
          first
          | exact .inr ⟨_, rfl, .inl (hgc hE), by rw [if_neg (hgc hE), gb_bad hp (hgc hE)], _, hs.sub ((List.sublist_append_left _ _).trans (List.sublist_append_left _ _))⟩
          | exact .inr ⟨_, rfl, .inr ⟨rfl, by first | omega | (simp at hm <;> omega)⟩, by rw [if_pos hpk], _, hs.sub (List.sublist_append_left _ _)⟩
        )
  · first
      | (exfalso; simp at hc4 <;> omega)
      | (
        (try simp at hc4)
        obtain rfl : c = true := by simpa using hc4
        rw [hkT rfl]
        refine Z.skip ?_
        refine Z.nblock ?_
        refine Z.nthen ?_
        refine Z.seq ?_
        refine Z.region ?_
        refine Z.l rfl rfl (by rfl) (Z.keepS hs) (Z.Yd.fieldA (m := 0) rfl (by kernel_rfl)) ?_
        refine Z.l rfl rfl (by rfl) (Z.keepS hs) (by first | exact Z.Yd.load rfl Try.isAgg85 (fun _ => Z.cellB (by first | ((repeat (first | exact List.mem_cons_self | refine List.mem_cons_of_mem _ ?_ | refine List.mem_append_right _ ?_)); done) | fail) rfl) | exact Z.Yd.load rfl Try.isAgg85 (fun _ => Z.cellO (by assumption) (by simp) (by assumption)) | fail "load 6.1") ?_
        refine Z.lb 1 rfl ?_
        first
        | replace hs : SX.St w M _ (RdL g T sv l (8 * p) ++ [_, _, _]) := hs.rot (L1 := [_, _, _])
        | replace hs : SX.St w M _ (RdL g T sv l (8 * p) ++ [_, _, _]) := hs
        refine Z.le rfl trivial ?_
        refine Z.ZO.call rfl rfl (by rfl) rfl rfl Try.call59 rfl (rgetbytes_any g T sv l (8 * p) _ _ hs.lend hl (by omega) hb) ?_
        rintro v6_3 w6_3 ⟨so, rfl, hz⟩
        replace hs := hs.regain hz
        refine Z.lb 2 rfl ?_
        refine Z.le rfl trivial ?_
        refine Z.ZO.callB rfl rfl (by rfl) rfl rfl Try.call58 rfl (mm_gotb_any _ _ _) ?_ ?_
        · skip
          rintro v6_6 w6_6 ⟨hE, rfl, hy⟩
          replace hs := hs.call hy
          clear hy
          try simp only [List.cons_append, List.nil_append, List.append_nil] at hs
          have hpk := hgb hE
          obtain ⟨-, gv, ga⟩ := gb_ok hb hpk
          rw [gv, ga] at hs
          have hlk : ((l.drop p).take k).length = k := by rw [List.length_take, List.length_drop]; omega
          rw [hlk] at hs
          obtain ⟨B, co, rfl, hco, -, -⟩ := SX.row_slv hs (j := 2) rfl
          refine Z.lb 1 rfl ?_
          refine Z.lnil ?_
          refine Z.only [2, 3, 4, 6, 7, 9] rfl ?_
          refine Z.nthen ?_
          refine Z.seq ?_
          refine Z.region ?_
          refine Z.lb 3 rfl ?_
          refine Z.yes (s := 40) (b := true) rfl ((by simp)) rfl ?_
          refine Z.ls rfl rfl rfl (by rfl) ?_
          refine Z.ls rfl rfl rfl (by rfl) ?_
          refine Z.ls rfl rfl rfl (by rfl) ?_
          refine Z.lsU rfl rfl rfl (by rfl) ?_
          refine Z.lsU rfl rfl rfl (by rfl) ?_
          refine Z.lsU rfl rfl rfl (by rfl) ?_
          refine Z.lsU rfl rfl rfl (by rfl) ?_
          refine Z.ls rfl rfl rfl (by rfl) ?_
          refine Z.l rfl rfl (by rfl) (Z.keepS hs) (Z.Yd.pickT rfl rfl) ?_
          refine Z.le rfl trivial ?_
          refine Z.ZO.call rfl rfl (by rfl) rfl rfl Try.call31 rfl (mm_must_ok _ 9 _ (by simp)) ?_
          rintro v7_12 w7_12 ⟨rfl, hy⟩
          replace hs := hs.call hy
          clear hy
          try simp only [List.cons_append, List.nil_append, List.append_nil] at hs
          try simp only [RdL, List.cons_append, List.nil_append] at hs
          refine Z.lnil ?_
          refine Z.only [4, 6, 7, 9] rfl ?_
          refine Z.nthen ?_
          refine Z.seq ?_
          refine Z.drawK (fun j => j != 7) mixed hs ?_
          clear hs; intro wd8 hs
          refine Z.t 0 rfl rfl rfl (by rfl) (by kernel_rfl) ⟨_, hs, by first | (simp; done) | exact fun e he => List.mem_append_right _ he⟩ (Z.Yd.fieldA (m := 0) rfl (by kernel_rfl)) ?_
          refine Z.t 1 rfl rfl rfl (by rfl) (by kernel_rfl) ⟨_, hs, by first | (simp; done) | exact fun e he => List.mem_append_right _ he⟩ (by first | exact Z.Yd.load rfl Try.isAgg3 (fun _ => Z.cellB (by first | ((repeat (first | exact List.mem_cons_self | refine List.mem_cons_of_mem _ ?_ | refine List.mem_append_right _ ?_)); done) | fail) rfl) | exact Z.Yd.load rfl Try.isAgg3 (fun _ => Z.cellO (by assumption) (by simp) (by assumption)) | fail "load 8.1") ?_
          refine Z.tb [2, 3, 4] (by kernel_rfl) rfl ⟨_, hs, by first | (simp; done) | exact fun e he => List.mem_append_right _ he⟩ rfl ?_
          refine Z.t 5 rfl rfl rfl (by rfl) (by kernel_rfl) ⟨_, hs, by first | (simp; done) | exact fun e he => List.mem_append_right _ he⟩ (Z.Yd.cut3 0 k k rfl rfl rfl rfl Try.underlying26 Try.sizeOf5 (fun hG => ⟨(by first | omega | (have hG' := Z.gh rfl hG; simp at hG'; omega)), (by first | omega | (have hG' := Z.gh rfl hG; simp at hG'; omega)), (by first | omega | (have hG' := Z.gh rfl hG; simp at hG'; omega)), (by first | omega | (have hG' := Z.gh rfl hG; simp at hG'; omega)), (by first | omega | (have hG' := Z.gh rfl hG; simp at hG'; omega))⟩)) ?_
          refine Z.t 6 rfl rfl rfl (by rfl) (by kernel_rfl) ⟨_, hs, by first | (simp; done) | exact fun e he => List.mem_append_right _ he⟩ (Z.Yd.buildL [(0, 1), (1, 1)] [.int .i64 0, .slice none 0 0] rfl rfl (by intro w; kernel_rfl)) ?_
          refine Z.tn 7 rfl rfl (by kernel_rfl) rfl trivial ?_
          first | refine Z.ZO.storeA rfl rfl hs rfl rfl (by kernel_rfl) (by first | (simp [Value.oneCell']; done) | (refine Z.all_one ?_; assumption)) (by first | exact SX.at0 | exact SX.at1 | exact SX.at2 | exact SX.at3 | exact SX.at4 | exact SX.at5 | exact Z.at6 | exact Z.at7 | exact Z.at8 | exact Z.at9 | exact Z.at10 | exact Z.at11 | exact Z.at12) (by rfl) ?_ | refine Z.ZO.storeP rfl rfl hs rfl rfl (by kernel_rfl) (by first | (simp [Value.oneCell']; done) | (refine Z.all_one ?_; assumption)) (by first | exact SX.at0 | exact SX.at1 | exact SX.at2 | exact SX.at3 | exact SX.at4 | exact SX.at5 | exact Z.at6 | exact Z.at7 | exact Z.at8 | exact Z.at9 | exact Z.at10 | exact Z.at11 | exact Z.at12) (by first | decide | (simp; done) | (simp; omega)) ?_ | refine Z.ZO.storePR rfl rfl hs rfl rfl (by kernel_rfl) (by first | (simp [Value.oneCell']; done) | (refine Z.all_one ?_; assumption)) (by first | exact SX.at0 | exact SX.at1 | exact SX.at2 | exact SX.at3 | exact SX.at4 | exact SX.at5 | exact Z.at6 | exact Z.at7 | exact Z.at8 | exact Z.at9 | exact Z.at10 | exact Z.at11 | exact Z.at12) (by first | decide | (simp; done) | (simp; omega)) ?_
          clear hs; intro ws hs
          simp only [Nat.zero_add, Nat.add_zero, Nat.reduceAdd, Int.reduceToNat, Nat.reduceMul, List.set_cons_zero, List.set_cons_succ, List.setIfInBounds_toArray] at hs
          try simp only [Z.putL, Nat.zero_add] at hs
          refine Z.tk (Dn := fun j => j != 7) (i := 7) (fun h => absurd h (by decide)) ?_
          refine Z.td (by rfl) (by kernel_rfl) ?_
          refine Z.only [6] rfl ?_
          refine Z.nthen ?_
          refine Z.ret ?_
          -- ret#2
          refine Z.out1 (by exact ⟨⟨_, rfl, Z.rvcA hs Try.isAgg47 (by first | ((repeat (first | exact List.mem_cons_self | refine List.mem_cons_of_mem _ ?_ | refine List.mem_append_right _ ?_)); done) | fail) (by exact Try.sizeOf47)⟩, trivial⟩) ?_
          exact .inl ⟨_, rfl, ⟨hpk, fun h => by cases h⟩, B, co, by rw [slA_zero]; rfl, hs.sel [0, 1, 2] (by decide)⟩
        · skip
          rintro c6_6 w6_6 ⟨hE, rfl, hy⟩
          replace hs := hs.call hy
          clear hy
          try simp only [List.cons_append, List.nil_append, List.append_nil] at hs
          repeat (first | refine Z.pthen ?_ | refine Z.pblock ?_ | refine Z.pscope ?_)
          -- ret#3
          refine Z.outp ?_
          first
          | exact .inr ⟨_, rfl, .inl (hgc hE), by rw [if_neg (hgc hE), gb_bad hp (hgc hE)], _, hs.sub ((List.sublist_append_left _ _).trans (List.sublist_append_left _ _))⟩
          | exact .inr ⟨_, rfl, .inr ⟨rfl, by first | omega | (simp at hm <;> omega)⟩, by rw [if_pos hpk], _, hs.sub (List.sublist_append_left _ _)⟩
        )
set_option maxHeartbeats 1000000 in
set_option maxRecDepth 100000 in
theorem mm_part_last (g T : Nat) (sv : Value) (l : List Int) (p : Nat) (x n : Int) (k : Nat) (w : World) (hs : SX.St w (SX.idsOf (RdL g T sv l (8 * p))) w (RdL g T sv l (8 * p))) (hl : l.length ≤ 1000000) (hb : ∀ x ∈ l, 0 ≤ x ∧ x < 256) (hp : p ≤ l.length) (hk : ptN l p x n true = k) :
    Calls Try.prog 47 #[.agg #[.pointer (some ⟨g, 0, none⟩)], .agg #[.int .i64 x, .int .i64 n], .bool true] w (PtR g T sv l p x true k w) := by
  unfold PtR
  generalize hM : SX.idsOf (RdL g T sv l (8 * p)) = M at *
  obtain ⟨c, hc⟩ : ∃ c : Bool, decide (ctlN x ≠ 0) = c := ⟨_, rfl⟩
  have hkT : c = true → ctlN x = (k : Int) := fun h => by rw [← hk]; unfold ptN; rw [if_pos (by subst h; simpa using hc)]
  have hkF : c = false → (l.length : Int) - p = (k : Int) := fun h => by rw [← hk]; unfold ptN; rw [if_neg (by subst h; simpa using hc)]; rfl
  have hgb : gbE l (8 * p) (k : Int) = 0 → p + k ≤ l.length := fun h => by
    rcases Nat.lt_or_ge l.length (p + k) with h1 | h1
    · rw [gb_bad hp (by omega)] at h; cases h
    · exact h1
  have hgc : gbE l (8 * p) (k : Int) ≠ 0 → ¬ p + k ≤ l.length := fun h h1 => h (gb_ok hb h1).1
  refine Z.enter Try.func47 rfl Try.ntmps47 rfl rfl ?_
  refine Z.seq ?_
  refine Z.region ?_
  refine Z.le rfl trivial ?_
  refine Z.ZO.box rfl rfl (by rfl) rfl rfl hs ?_
  clear hs; intro g3 w3 hs
  refine Z.le rfl trivial ?_
  refine Z.ZO.box rfl rfl (by rfl) rfl rfl hs ?_
  clear hs; intro g4 w4 hs
  refine Z.le rfl trivial ?_
  refine Z.ZO.alloc rfl rfl (by rfl) Try.zeroValue47 rfl hs ?_
  clear hs; intro g6 w6 hs
  refine Z.lnil ?_
  refine Z.only [2, 3, 4, 6] rfl ?_
  refine Z.nthen ?_
  refine Z.seq ?_
  refine Z.region ?_
  refine Z.l rfl rfl (by rfl) (Z.keepS hs) (Z.Yd.fieldA (m := 0) rfl (by kernel_rfl)) ?_
  refine Z.l rfl rfl (by rfl) (Z.keepS hs) (by first | exact Z.Yd.load rfl Try.isAgg3 (fun _ => Z.cellB (by first | ((repeat (first | exact List.mem_cons_self | refine List.mem_cons_of_mem _ ?_ | refine List.mem_append_right _ ?_)); done) | fail) rfl) | exact Z.Yd.load rfl Try.isAgg3 (fun _ => Z.cellO (by assumption) (by simp) (by assumption)) | fail "load 1.1") ?_
  refine Z.le rfl trivial ?_
  refine Z.ZO.call rfl rfl (by rfl) rfl rfl Try.call21 rfl (mc_Control _ _) ?_
  rintro v1_2 w1_2 ⟨rfl, hy⟩
  replace hs := hs.call hy
  clear hy
  try simp only [List.cons_append, List.nil_append, List.append_nil] at hs
  rw [hc]
  refine Z.lb 5 rfl ?_
  refine Z.lnil ?_
  refine Z.only [2, 3, 4, 6, 7, 8] rfl ?_
  refine Z.nthen ?_
  refine Z.seq ?_
  refine Z.block ?_
  refine Z.seq ?_
  refine Z.region ?_
  refine Z.lb 6 rfl ?_
  refine Z.lnil ?_
  refine Z.only [2, 3, 4, 6, 7, 8, 16] rfl ?_
  refine Z.nthen ?_
  refine Z.cond rfl (fun hc2 => ?_) (fun hc2 => ?_)
  · first
      | (exfalso; simp at hc2 <;> omega)
      | (
        (try simp at hc2)
        obtain rfl : c = false := by simpa using hc2
        refine Z.region ?_
        refine Z.l rfl rfl (by rfl) (Z.keepS hs) (Z.Yd.fieldA (m := 0) rfl (by kernel_rfl)) ?_
        refine Z.l rfl rfl (by rfl) (Z.keepS hs) (by first | exact Z.Yd.load rfl Try.isAgg85 (fun _ => Z.cellB (by first | ((repeat (first | exact List.mem_cons_self | refine List.mem_cons_of_mem _ ?_ | refine List.mem_append_right _ ?_)); done) | fail) rfl) | exact Z.Yd.load rfl Try.isAgg85 (fun _ => Z.cellO (by assumption) (by simp) (by assumption)) | fail "load 3.1") ?_
        replace hs : SX.St w M _ (RdL g T sv l (8 * p) ++ [_, _, _]) := hs.rot (L1 := [_, _, _])
        refine Z.le rfl trivial ?_
        refine Z.ZO.call rfl rfl (by rfl) rfl rfl Try.call57 rfl (rleft_any g T sv l (8 * p) _ hs.lend hl (by omega)) ?_
        rintro v3_2 w3_2 ⟨rfl, hz⟩
        replace hs := hs.regain hz
        have e8 : (8 * l.length : Int) - ((8 * p : Nat) : Int) = ((8 * k : Nat) : Int) := by have := hkF rfl; omega
        rw [e8]
        refine Z.l rfl rfl (by rfl) (Z.keepS hs) (Z.Yd.quo rfl rfl (by intro hG; first | decide | omega) (by intro hG; first | exact Z.qi64 ⟨by omega, by omega⟩ (by omega) | exact rfl)) ?_
        refine Z.lb 1 rfl ?_
        refine Z.lnil ?_
        refine Z.only [2, 3, 4, 6, 7] rfl ?_
        refine Z.nblock ?_
        refine Z.nthen ?_
        refine Z.seq ?_
        refine Z.region ?_
        first
        | rw [hkT rfl]
        | rw [show ((8 * k : Nat) : Int) / 8 = (k : Int) from by omega]
        refine Z.l rfl rfl (by rfl) (Z.keepS hs) (Z.Yd.fieldA (m := 0) rfl (by kernel_rfl)) ?_
        refine Z.l rfl rfl (by rfl) (Z.keepS hs) (by first | exact Z.Yd.load rfl Try.isAgg85 (fun _ => Z.cellB (by first | ((repeat (first | exact List.mem_cons_self | refine List.mem_cons_of_mem _ ?_ | refine List.mem_append_right _ ?_)); done) | fail) rfl) | exact Z.Yd.load rfl Try.isAgg85 (fun _ => Z.cellO (by assumption) (by simp) (by assumption)) | fail "load 6.1") ?_
        refine Z.lb 1 rfl ?_
        first
        | replace hs : SX.St w M _ (RdL g T sv l (8 * p) ++ [_, _, _]) := hs.rot (L1 := [_, _, _])
        | replace hs : SX.St w M _ (RdL g T sv l (8 * p) ++ [_, _, _]) := hs
        refine Z.le rfl trivial ?_
        refine Z.ZO.call rfl rfl (by rfl) rfl rfl Try.call59 rfl (rgetbytes_any g T sv l (8 * p) _ _ hs.lend hl (by omega) hb) ?_
        rintro v6_3 w6_3 ⟨so, rfl, hz⟩
        replace hs := hs.regain hz
        refine Z.lb 2 rfl ?_
        refine Z.le rfl trivial ?_
        refine Z.ZO.callB rfl rfl (by rfl) rfl rfl Try.call58 rfl (mm_gotb_any _ _ _) ?_ ?_
        · skip
          rintro v6_6 w6_6 ⟨hE, rfl, hy⟩
          replace hs := hs.call hy
          clear hy
          try simp only [List.cons_append, List.nil_append, List.append_nil] at hs
          have hpk := hgb hE
          obtain ⟨-, gv, ga⟩ := gb_ok hb hpk
          rw [gv, ga] at hs
          have hlk : ((l.drop p).take k).length = k := by rw [List.length_take, List.length_drop]; omega
          rw [hlk] at hs
          obtain ⟨B, co, rfl, hco, -, -⟩ := SX.row_slv hs (j := 2) rfl
          refine Z.lb 1 rfl ?_
          refine Z.lnil ?_
          refine Z.only [2, 3, 4, 6, 7, 9] rfl ?_
          refine Z.nthen ?_
          refine Z.seq ?_
          refine Z.region ?_
          refine Z.lb 3 rfl ?_
          refine Z.yes (s := 40) (b := false) rfl ((by simp)) rfl ?_
          refine Z.lb 3 rfl ?_
          refine Z.l rfl rfl (by rfl) (Z.keepS hs) (Z.Yd.fieldA (m := 0) rfl (by kernel_rfl)) ?_
          refine Z.l rfl rfl (by rfl) (Z.keepS hs) (by first | exact Z.Yd.load rfl Try.isAgg85 (fun _ => Z.cellB (by first | ((repeat (first | exact List.mem_cons_self | refine List.mem_cons_of_mem _ ?_ | refine List.mem_append_right _ ?_)); done) | fail) rfl) | exact Z.Yd.load rfl Try.isAgg85 (fun _ => Z.cellO (by assumption) (by simp) (by assumption)) | fail "load 7.7") ?_
          simp only [RdL, List.cons_append, List.nil_append] at hs
          refine Z.yes (s := 40) (b := false) rfl rfl rfl ?_
          refine Z.split (s := 43) rfl (fun hsp43 => ?_) (fun hsp43 => ?_)
          · first
              | (exfalso; simp at hsp43 <;> omega)
              | (
                refine Z.yes (s := 43) (b := true) rfl hsp43 rfl ?_
                (try simp at hsp43)
                refine Z.le rfl (by exact ⟨rfl, trivial⟩) ?_
                refine Z.ZO.call rfl rfl (by rfl) rfl rfl Try.call57 rfl (rleft_any g T sv l (8 * (p + k)) _ hs.lend hl (by omega)) ?_
                rintro v7_8 w7_8 ⟨rfl, hz⟩
                replace hs := hs.regain hz
                refine Z.lb 1 rfl ?_
                refine Z.yes (s := 43) (b := true) rfl rfl rfl ?_
                refine Z.l rfl rfl (by rfl) (Z.keepS hs) (Z.Yd.pickT rfl rfl) ?_
                refine Z.yes (s := 40) (b := false) rfl rfl rfl ?_
                refine Z.l rfl rfl (by rfl) (Z.keepS hs) (Z.Yd.pickF rfl rfl) ?_
                refine Z.le rfl trivial ?_
                refine Z.ZO.callB rfl rfl (by rfl) rfl rfl Try.call31 rfl (mm_must_any _ 9 _) ?_ ?_
                · skip
                  rintro v7_12 w7_12 ⟨hm, rfl, hy⟩
                  replace hs := hs.call hy
                  clear hy
                  try simp only [List.cons_append, List.nil_append, List.append_nil] at hs
                  try simp only [RdL, List.cons_append, List.nil_append] at hs
                  refine Z.lnil ?_
                  refine Z.only [4, 6, 7, 9] rfl ?_
                  refine Z.nthen ?_
                  refine Z.seq ?_
                  refine Z.drawK (fun j => j != 7) mixed hs ?_
                  clear hs; intro wd8 hs
                  refine Z.t 0 rfl rfl rfl (by rfl) (by kernel_rfl) ⟨_, hs, by first | (simp; done) | exact fun e he => List.mem_append_right _ he⟩ (Z.Yd.fieldA (m := 0) rfl (by kernel_rfl)) ?_
                  refine Z.t 1 rfl rfl rfl (by rfl) (by kernel_rfl) ⟨_, hs, by first | (simp; done) | exact fun e he => List.mem_append_right _ he⟩ (by first | exact Z.Yd.load rfl Try.isAgg3 (fun _ => Z.cellB (by first | ((repeat (first | exact List.mem_cons_self | refine List.mem_cons_of_mem _ ?_ | refine List.mem_append_right _ ?_)); done) | fail) rfl) | exact Z.Yd.load rfl Try.isAgg3 (fun _ => Z.cellO (by assumption) (by simp) (by assumption)) | fail "load 8.1") ?_
                  refine Z.tb [2, 3, 4] (by kernel_rfl) rfl ⟨_, hs, by first | (simp; done) | exact fun e he => List.mem_append_right _ he⟩ rfl ?_
                  refine Z.t 5 rfl rfl rfl (by rfl) (by kernel_rfl) ⟨_, hs, by first | (simp; done) | exact fun e he => List.mem_append_right _ he⟩ (Z.Yd.cut3 0 k k rfl rfl rfl rfl Try.underlying26 Try.sizeOf5 (fun hG => ⟨(by first | omega | (have hG' := Z.gh rfl hG; simp at hG'; omega)), (by first | omega | (have hG' := Z.gh rfl hG; simp at hG'; omega)), (by first | omega | (have hG' := Z.gh rfl hG; simp at hG'; omega)), (by first | omega | (have hG' := Z.gh rfl hG; simp at hG'; omega)), (by first | omega | (have hG' := Z.gh rfl hG; simp at hG'; omega))⟩)) ?_
                  refine Z.t 6 rfl rfl rfl (by rfl) (by kernel_rfl) ⟨_, hs, by first | (simp; done) | exact fun e he => List.mem_append_right _ he⟩ (Z.Yd.buildL [(0, 1), (1, 1)] [.int .i64 0, .slice none 0 0] rfl rfl (by intro w; kernel_rfl)) ?_
                  refine Z.tn 7 rfl rfl (by kernel_rfl) rfl trivial ?_
                  first | refine Z.ZO.storeA rfl rfl hs rfl rfl (by kernel_rfl) (by first | (simp [Value.oneCell']; done) | (refine Z.all_one ?_; assumption)) (by first | exact SX.at0 | exact SX.at1 | exact SX.at2 | exact SX.at3 | exact SX.at4 | exact SX.at5 | exact Z.at6 | exact Z.at7 | exact Z.at8 | exact Z.at9 | exact Z.at10 | exact Z.at11 | exact Z.at12) (by rfl) ?_ | refine Z.ZO.storeP rfl rfl hs rfl rfl (by kernel_rfl) (by first | (simp [Value.oneCell']; done) | (refine Z.all_one ?_; assumption)) (by first | exact SX.at0 | exact SX.at1 | exact SX.at2 | exact SX.at3 | exact SX.at4 | exact SX.at5 | exact Z.at6 | exact Z.at7 | exact Z.at8 | exact Z.at9 | exact Z.at10 | exact Z.at11 | exact Z.at12) (by first | decide | (simp; done) | (simp; omega)) ?_ | refine Z.ZO.storePR rfl rfl hs rfl rfl (by kernel_rfl) (by first | (simp [Value.oneCell']; done) | (refine Z.all_one ?_; assumption)) (by first | exact SX.at0 | exact SX.at1 | exact SX.at2 | exact SX.at3 | exact SX.at4 | exact SX.at5 | exact Z.at6 | exact Z.at7 | exact Z.at8 | exact Z.at9 | exact Z.at10 | exact Z.at11 | exact Z.at12) (by first | decide | (simp; done) | (simp; omega)) ?_
                  clear hs; intro ws hs
                  simp only [Nat.zero_add, Nat.add_zero, Nat.reduceAdd, Int.reduceToNat, Nat.reduceMul, List.set_cons_zero, List.set_cons_succ, List.setIfInBounds_toArray] at hs
                  try simp only [Z.putL, Nat.zero_add] at hs
                  refine Z.tk (Dn := fun j => j != 7) (i := 7) (fun h => absurd h (by decide)) ?_
                  refine Z.td (by rfl) (by kernel_rfl) ?_
                  refine Z.only [6] rfl ?_
                  refine Z.nthen ?_
                  refine Z.ret ?_
                  -- ret#0
                  refine Z.out1 (by exact ⟨⟨_, rfl, Z.rvcA hs Try.isAgg47 (by first | ((repeat (first | exact List.mem_cons_self | refine List.mem_cons_of_mem _ ?_ | refine List.mem_append_right _ ?_)); done) | fail) (by exact Try.sizeOf47)⟩, trivial⟩) ?_
                  first
                  | (simp at hm; done)
                  | exact .inl ⟨_, rfl, ⟨hpk, fun _ => ⟨hsp43, by simp at hm; omega⟩⟩, B, co, by rw [slA_zero]; rfl, hs.sel [0, 1, 2] (by decide)⟩
                · skip
                  rintro c7_12 w7_12 ⟨hm, rfl, hy⟩
                  replace hs := hs.call hy
                  clear hy
                  try simp only [List.cons_append, List.nil_append, List.append_nil] at hs
                  repeat (first | refine Z.pthen ?_ | refine Z.pblock ?_ | refine Z.pscope ?_)
                  -- ret#1
                  refine Z.outp ?_
                  first
                  | exact .inr ⟨_, rfl, .inl (hgc hE), by rw [if_neg (hgc hE), gb_bad hp (hgc hE)], _, hs.sub ((List.sublist_append_left _ _).trans (List.sublist_append_left _ _))⟩
                  | exact .inr ⟨_, rfl, .inr ⟨rfl, by first | omega | (simp at hm <;> omega)⟩, by rw [if_pos hpk], _, hs.sub (List.sublist_append_left _ _)⟩
                )
          · first
              | (exfalso; simp at hsp43 <;> omega)
              | (
                refine Z.yes (s := 43) (b := false) rfl hsp43 rfl ?_
                (try simp at hsp43)
                refine Z.ls rfl rfl rfl (by rfl) ?_
                refine Z.ls rfl rfl rfl (by rfl) ?_
                refine Z.l rfl rfl (by rfl) (Z.keepS hs) (Z.Yd.pickF rfl rfl) ?_
                refine Z.yes (s := 40) (b := false) rfl rfl rfl ?_
                refine Z.l rfl rfl (by rfl) (Z.keepS hs) (Z.Yd.pickF rfl rfl) ?_
                refine Z.le rfl trivial ?_
                refine Z.ZO.callB rfl rfl (by rfl) rfl rfl Try.call31 rfl (mm_must_any _ 9 _) ?_ ?_
                · skip
                  rintro v7_12 w7_12 ⟨hm, rfl, hy⟩
                  replace hs := hs.call hy
                  clear hy
                  try simp only [List.cons_append, List.nil_append, List.append_nil] at hs
                  try simp only [RdL, List.cons_append, List.nil_append] at hs
                  refine Z.lnil ?_
                  refine Z.only [4, 6, 7, 9] rfl ?_
                  refine Z.nthen ?_
                  refine Z.seq ?_
                  refine Z.drawK (fun j => j != 7) mixed hs ?_
                  clear hs; intro wd8 hs
                  refine Z.t 0 rfl rfl rfl (by rfl) (by kernel_rfl) ⟨_, hs, by first | (simp; done) | exact fun e he => List.mem_append_right _ he⟩ (Z.Yd.fieldA (m := 0) rfl (by kernel_rfl)) ?_
                  refine Z.t 1 rfl rfl rfl (by rfl) (by kernel_rfl) ⟨_, hs, by first | (simp; done) | exact fun e he => List.mem_append_right _ he⟩ (by first | exact Z.Yd.load rfl Try.isAgg3 (fun _ => Z.cellB (by first | ((repeat (first | exact List.mem_cons_self | refine List.mem_cons_of_mem _ ?_ | refine List.mem_append_right _ ?_)); done) | fail) rfl) | exact Z.Yd.load rfl Try.isAgg3 (fun _ => Z.cellO (by assumption) (by simp) (by assumption)) | fail "load 8.1") ?_
                  refine Z.tb [2, 3, 4] (by kernel_rfl) rfl ⟨_, hs, by first | (simp; done) | exact fun e he => List.mem_append_right _ he⟩ rfl ?_
                  refine Z.t 5 rfl rfl rfl (by rfl) (by kernel_rfl) ⟨_, hs, by first | (simp; done) | exact fun e he => List.mem_append_right _ he⟩ (Z.Yd.cut3 0 k k rfl rfl rfl rfl Try.underlying26 Try.sizeOf5 (fun hG => ⟨(by first | omega | (have hG' := Z.gh rfl hG; simp at hG'; omega)), (by first | omega | (have hG' := Z.gh rfl hG; simp at hG'; omega)), (by first | omega | (have hG' := Z.gh rfl hG; simp at hG'; omega)), (by first | omega | (have hG' := Z.gh rfl hG; simp at hG'; omega)), (by first | omega | (have hG' := Z.gh rfl hG; simp at hG'; omega))⟩)) ?_
                  refine Z.t 6 rfl rfl rfl (by rfl) (by kernel_rfl) ⟨_, hs, by first | (simp; done) | exact fun e he => List.mem_append_right _ he⟩ (Z.Yd.buildL [(0, 1), (1, 1)] [.int .i64 0, .slice none 0 0] rfl rfl (by intro w; kernel_rfl)) ?_
                  refine Z.tn 7 rfl rfl (by kernel_rfl) rfl trivial ?_
                  first | refine Z.ZO.storeA rfl rfl hs rfl rfl (by kernel_rfl) (by first | (simp [Value.oneCell']; done) | (refine Z.all_one ?_; assumption)) (by first | exact SX.at0 | exact SX.at1 | exact SX.at2 | exact SX.at3 | exact SX.at4 | exact SX.at5 | exact Z.at6 | exact Z.at7 | exact Z.at8 | exact Z.at9 | exact Z.at10 | exact Z.at11 | exact Z.at12) (by rfl) ?_ | refine Z.ZO.storeP rfl rfl hs rfl rfl (by kernel_rfl) (by first | (simp [Value.oneCell']; done) | (refine Z.all_one ?_; assumption)) (by first | exact SX.at0 | exact SX.at1 | exact SX.at2 | exact SX.at3 | exact SX.at4 | exact SX.at5 | exact Z.at6 | exact Z.at7 | exact Z.at8 | exact Z.at9 | exact Z.at10 | exact Z.at11 | exact Z.at12) (by first | decide | (simp; done) | (simp; omega)) ?_ | refine Z.ZO.storePR rfl rfl hs rfl rfl (by kernel_rfl) (by first | (simp [Value.oneCell']; done) | (refine Z.all_one ?_; assumption)) (by first | exact SX.at0 | exact SX.at1 | exact SX.at2 | exact SX.at3 | exact SX.at4 | exact SX.at5 | exact Z.at6 | exact Z.at7 | exact Z.at8 | exact Z.at9 | exact Z.at10 | exact Z.at11 | exact Z.at12) (by first | decide | (simp; done) | (simp; omega)) ?_
                  clear hs; intro ws hs
                  simp only [Nat.zero_add, Nat.add_zero, Nat.reduceAdd, Int.reduceToNat, Nat.reduceMul, List.set_cons_zero, List.set_cons_succ, List.setIfInBounds_toArray] at hs
                  try simp only [Z.putL, Nat.zero_add] at hs
                  refine Z.tk (Dn := fun j => j != 7) (i := 7) (fun h => absurd h (by decide)) ?_
                  refine Z.td (by rfl) (by kernel_rfl) ?_
                  refine Z.only [6] rfl ?_
                  refine Z.nthen ?_
                  refine Z.ret ?_
                  -- ret#2
                  refine Z.out1 (by exact ⟨⟨_, rfl, Z.rvcA hs Try.isAgg47 (by first | ((repeat (first | exact List.mem_cons_self | refine List.mem_cons_of_mem _ ?_ | refine List.mem_append_right _ ?_)); done) | fail) (by exact Try.sizeOf47)⟩, trivial⟩) ?_
                  first
                  | (simp at hm; done)
                  | exact .inl ⟨_, rfl, ⟨hpk, fun _ => ⟨hsp43, by simp at hm; omega⟩⟩, B, co, by rw [slA_zero]; rfl, hs.sel [0, 1, 2] (by decide)⟩
                · skip
                  rintro c7_12 w7_12 ⟨hm, rfl, hy⟩
                  replace hs := hs.call hy
                  clear hy
                  try simp only [List.cons_append, List.nil_append, List.append_nil] at hs
                  repeat (first | refine Z.pthen ?_ | refine Z.pblock ?_ | refine Z.pscope ?_)
                  -- ret#3
                  refine Z.outp ?_
                  first
                  | exact .inr ⟨_, rfl, .inl (hgc hE), by rw [if_neg (hgc hE), gb_bad hp (hgc hE)], _, hs.sub ((List.sublist_append_left _ _).trans (List.sublist_append_left _ _))⟩
                  | exact .inr ⟨_, rfl, .inr ⟨rfl, by first | omega | (simp at hm <;> omega)⟩, by rw [if_pos hpk], _, hs.sub (List.sublist_append_left _ _)⟩
                )
        · skip
          rintro c6_6 w6_6 ⟨hE, rfl, hy⟩
          replace hs := hs.call hy
          clear hy
          try simp only [List.cons_append, List.nil_append, List.append_nil] at hs
          repeat (first | refine Z.pthen ?_ | refine Z.pblock ?_ | refine Z.pscope ?_)
          -- ret#4
          refine Z.outp ?_
          first
          | exact .inr ⟨_, rfl, .inl (hgc hE), by rw [if_neg (hgc hE), gb_bad hp (hgc hE)], _, hs.sub ((List.sublist_append_left _ _).trans (List.sublist_append_left _ _))⟩
          | exact .inr ⟨_, rfl, .inr ⟨rfl, by first | omega | (simp at hm <;> omega)⟩, by rw [if_pos hpk], _, hs.sub (List.sublist_append_left _ _)⟩
        )
  · first
      | (exfalso; simp at hc2 <;> omega)
      | (
        (try simp at hc2)
        obtain rfl : c = true := by simpa using hc2
        refine Z.seq ?_
        refine Z.region ?_
        refine Z.lb 3 rfl ?_
        refine Z.lnil ?_
        refine Z.only [2, 3, 4, 6, 7, 26] rfl ?_
        refine Z.nthen ?_
        refine Z.cond rfl (fun h => absurd h (by simp)) (fun hc4 => ?_)
        refine Z.skip ?_
        refine Z.nblock ?_
        refine Z.nthen ?_
        refine Z.seq ?_
        refine Z.region ?_
        first
        | rw [hkT rfl]
        | rw [show ((8 * k : Nat) : Int) / 8 = (k : Int) from by omega]
        refine Z.l rfl rfl (by rfl) (Z.keepS hs) (Z.Yd.fieldA (m := 0) rfl (by kernel_rfl)) ?_
        refine Z.l rfl rfl (by rfl) (Z.keepS hs) (by first | exact Z.Yd.load rfl Try.isAgg85 (fun _ => Z.cellB (by first | ((repeat (first | exact List.mem_cons_self | refine List.mem_cons_of_mem _ ?_ | refine List.mem_append_right _ ?_)); done) | fail) rfl) | exact Z.Yd.load rfl Try.isAgg85 (fun _ => Z.cellO (by assumption) (by simp) (by assumption)) | fail "load 6.1") ?_
        refine Z.lb 1 rfl ?_
        first
        | replace hs : SX.St w M _ (RdL g T sv l (8 * p) ++ [_, _, _]) := hs.rot (L1 := [_, _, _])
        | replace hs : SX.St w M _ (RdL g T sv l (8 * p) ++ [_, _, _]) := hs
        refine Z.le rfl trivial ?_
        refine Z.ZO.call rfl rfl (by rfl) rfl rfl Try.call59 rfl (rgetbytes_any g T sv l (8 * p) _ _ hs.lend hl (by omega) hb) ?_
        rintro v6_3 w6_3 ⟨so, rfl, hz⟩
        replace hs := hs.regain hz
        refine Z.lb 2 rfl ?_
        refine Z.le rfl trivial ?_
        refine Z.ZO.callB rfl rfl (by rfl) rfl rfl Try.call58 rfl (mm_gotb_any _ _ _) ?_ ?_
        · skip
          rintro v6_6 w6_6 ⟨hE, rfl, hy⟩
          replace hs := hs.call hy
          clear hy
          try simp only [List.cons_append, List.nil_append, List.append_nil] at hs
          have hpk := hgb hE
          obtain ⟨-, gv, ga⟩ := gb_ok hb hpk
          rw [gv, ga] at hs
          have hlk : ((l.drop p).take k).length = k := by rw [List.length_take, List.length_drop]; omega
          rw [hlk] at hs
          obtain ⟨B, co, rfl, hco, -, -⟩ := SX.row_slv hs (j := 2) rfl
          refine Z.lb 1 rfl ?_
          refine Z.lnil ?_
          refine Z.only [2, 3, 4, 6, 7, 9] rfl ?_
          refine Z.nthen ?_
          refine Z.seq ?_
          refine Z.region ?_
          refine Z.lb 3 rfl ?_
          refine Z.yes (s := 40) (b := false) rfl ((by simp)) rfl ?_
          refine Z.lb 3 rfl ?_
          refine Z.l rfl rfl (by rfl) (Z.keepS hs) (Z.Yd.fieldA (m := 0) rfl (by kernel_rfl)) ?_
          refine Z.l rfl rfl (by rfl) (Z.keepS hs) (by first | exact Z.Yd.load rfl Try.isAgg85 (fun _ => Z.cellB (by first | ((repeat (first | exact List.mem_cons_self | refine List.mem_cons_of_mem _ ?_ | refine List.mem_append_right _ ?_)); done) | fail) rfl) | exact Z.Yd.load rfl Try.isAgg85 (fun _ => Z.cellO (by assumption) (by simp) (by assumption)) | fail "load 7.7") ?_
          simp only [RdL, List.cons_append, List.nil_append] at hs
          refine Z.yes (s := 40) (b := false) rfl rfl rfl ?_
          refine Z.split (s := 43) rfl (fun hsp43 => ?_) (fun hsp43 => ?_)
          · first
              | (exfalso; simp at hsp43 <;> omega)
              | (
                refine Z.yes (s := 43) (b := true) rfl hsp43 rfl ?_
                (try simp at hsp43)
                refine Z.le rfl (by exact ⟨rfl, trivial⟩) ?_
                refine Z.ZO.call rfl rfl (by rfl) rfl rfl Try.call57 rfl (rleft_any g T sv l (8 * (p + k)) _ hs.lend hl (by omega)) ?_
                rintro v7_8 w7_8 ⟨rfl, hz⟩
                replace hs := hs.regain hz
                refine Z.lb 1 rfl ?_
                refine Z.yes (s := 43) (b := true) rfl rfl rfl ?_
                refine Z.l rfl rfl (by rfl) (Z.keepS hs) (Z.Yd.pickT rfl rfl) ?_
                refine Z.yes (s := 40) (b := false) rfl rfl rfl ?_
                refine Z.l rfl rfl (by rfl) (Z.keepS hs) (Z.Yd.pickF rfl rfl) ?_
                refine Z.le rfl trivial ?_
                refine Z.ZO.callB rfl rfl (by rfl) rfl rfl Try.call31 rfl (mm_must_any _ 9 _) ?_ ?_
                · skip
                  rintro v7_12 w7_12 ⟨hm, rfl, hy⟩
                  replace hs := hs.call hy
                  clear hy
                  try simp only [List.cons_append, List.nil_append, List.append_nil] at hs
                  try simp only [RdL, List.cons_append, List.nil_append] at hs
                  refine Z.lnil ?_
                  refine Z.only [4, 6, 7, 9] rfl ?_
                  refine Z.nthen ?_
                  refine Z.seq ?_
                  refine Z.drawK (fun j => j != 7) mixed hs ?_
                  clear hs; intro wd8 hs
                  refine Z.t 0 rfl rfl rfl (by rfl) (by kernel_rfl) ⟨_, hs, by first | (simp; done) | exact fun e he => List.mem_append_right _ he⟩ (Z.Yd.fieldA (m := 0) rfl (by kernel_rfl)) ?_
                  refine Z.t 1 rfl rfl rfl (by rfl) (by kernel_rfl) ⟨_, hs, by first | (simp; done) | exact fun e he => List.mem_append_right _ he⟩ (by first | exact Z.Yd.load rfl Try.isAgg3 (fun _ => Z.cellB (by first | ((repeat (first | exact List.mem_cons_self | refine List.mem_cons_of_mem _ ?_ | refine List.mem_append_right _ ?_)); done) | fail) rfl) | exact Z.Yd.load rfl Try.isAgg3 (fun _ => Z.cellO (by assumption) (by simp) (by assumption)) | fail "load 8.1") ?_
                  refine Z.tb [2, 3, 4] (by kernel_rfl) rfl ⟨_, hs, by first | (simp; done) | exact fun e he => List.mem_append_right _ he⟩ rfl ?_
                  refine Z.t 5 rfl rfl rfl (by rfl) (by kernel_rfl) ⟨_, hs, by first | (simp; done) | exact fun e he => List.mem_append_right _ he⟩ (Z.Yd.cut3 0 k k rfl rfl rfl rfl Try.underlying26 Try.sizeOf5 (fun hG => ⟨(by first | omega | (have hG' := Z.gh rfl hG; simp at hG'; omega)), (by first | omega | (have hG' := Z.gh rfl hG; simp at hG'; omega)), (by first | omega | (have hG' := Z.gh rfl hG; simp at hG'; omega)), (by first | omega | (have hG' := Z.gh rfl hG; simp at hG'; omega)), (by first | omega | (have hG' := Z.gh rfl hG; simp at hG'; omega))⟩)) ?_
                  refine Z.t 6 rfl rfl rfl (by rfl) (by kernel_rfl) ⟨_, hs, by first | (simp; done) | exact fun e he => List.mem_append_right _ he⟩ (Z.Yd.buildL [(0, 1), (1, 1)] [.int .i64 0, .slice none 0 0] rfl rfl (by intro w; kernel_rfl)) ?_
                  refine Z.tn 7 rfl rfl (by kernel_rfl) rfl trivial ?_
                  first | refine Z.ZO.storeA rfl rfl hs rfl rfl (by kernel_rfl) (by first | (simp [Value.oneCell']; done) | (refine Z.all_one ?_; assumption)) (by first | exact SX.at0 | exact SX.at1 | exact SX.at2 | exact SX.at3 | exact SX.at4 | exact SX.at5 | exact Z.at6 | exact Z.at7 | exact Z.at8 | exact Z.at9 | exact Z.at10 | exact Z.at11 | exact Z.at12) (by rfl) ?_ | refine Z.ZO.storeP rfl rfl hs rfl rfl (by kernel_rfl) (by first | (simp [Value.oneCell']; done) | (refine Z.all_one ?_; assumption)) (by first | exact SX.at0 | exact SX.at1 | exact SX.at2 | exact SX.at3 | exact SX.at4 | exact SX.at5 | exact Z.at6 | exact Z.at7 | exact Z.at8 | exact Z.at9 | exact Z.at10 | exact Z.at11 | exact Z.at12) (by first | decide | (simp; done) | (simp; omega)) ?_ | refine Z.ZO.storePR rfl rfl hs rfl rfl (by kernel_rfl) (by first | (simp [Value.oneCell']; done) | (refine Z.all_one ?_; assumption)) (by first | exact SX.at0 | exact SX.at1 | exact SX.at2 | exact SX.at3 | exact SX.at4 | exact SX.at5 | exact Z.at6 | exact Z.at7 | exact Z.at8 | exact Z.at9 | exact Z.at10 | exact Z.at11 | exact Z.at12) (by first | decide | (simp; done) | (simp; omega)) ?_
                  clear hs; intro ws hs
                  simp only [Nat.zero_add, Nat.add_zero, Nat.reduceAdd, Int.reduceToNat, Nat.reduceMul, List.set_cons_zero, List.set_cons_succ, List.setIfInBounds_toArray] at hs
                  try simp only [Z.putL, Nat.zero_add] at hs
                  refine Z.tk (Dn := fun j => j != 7) (i := 7) (fun h => absurd h (by decide)) ?_
                  refine Z.td (by rfl) (by kernel_rfl) ?_
                  refine Z.only [6] rfl ?_
                  refine Z.nthen ?_
                  refine Z.ret ?_
                  -- ret#5
                  refine Z.out1 (by exact ⟨⟨_, rfl, Z.rvcA hs Try.isAgg47 (by first | ((repeat (first | exact List.mem_cons_self | refine List.mem_cons_of_mem _ ?_ | refine List.mem_append_right _ ?_)); done) | fail) (by exact Try.sizeOf47)⟩, trivial⟩) ?_
                  first
                  | (simp at hm; done)
                  | exact .inl ⟨_, rfl, ⟨hpk, fun _ => ⟨hsp43, by simp at hm; omega⟩⟩, B, co, by rw [slA_zero]; rfl, hs.sel [0, 1, 2] (by decide)⟩
                · skip
                  rintro c7_12 w7_12 ⟨hm, rfl, hy⟩
                  replace hs := hs.call hy
                  clear hy
                  try simp only [List.cons_append, List.nil_append, List.append_nil] at hs
                  repeat (first | refine Z.pthen ?_ | refine Z.pblock ?_ | refine Z.pscope ?_)
                  -- ret#6
                  refine Z.outp ?_
                  first
                  | exact .inr ⟨_, rfl, .inl (hgc hE), by rw [if_neg (hgc hE), gb_bad hp (hgc hE)], _, hs.sub ((List.sublist_append_left _ _).trans (List.sublist_append_left _ _))⟩
                  | exact .inr ⟨_, rfl, .inr ⟨rfl, by first | omega | (simp at hm <;> omega)⟩, by rw [if_pos hpk], _, hs.sub (List.sublist_append_left _ _)⟩
                )
          · first
              | (exfalso; simp at hsp43 <;> omega)
              | (
                refine Z.yes (s := 43) (b := false) rfl hsp43 rfl ?_
                (try simp at hsp43)
                refine Z.ls rfl rfl rfl (by rfl) ?_
                refine Z.ls rfl rfl rfl (by rfl) ?_
                refine Z.l rfl rfl (by rfl) (Z.keepS hs) (Z.Yd.pickF rfl rfl) ?_
                refine Z.yes (s := 40) (b := false) rfl rfl rfl ?_
                refine Z.l rfl rfl (by rfl) (Z.keepS hs) (Z.Yd.pickF rfl rfl) ?_
                refine Z.le rfl trivial ?_
                refine Z.ZO.callB rfl rfl (by rfl) rfl rfl Try.call31 rfl (mm_must_any _ 9 _) ?_ ?_
                · skip
                  rintro v7_12 w7_12 ⟨hm, rfl, hy⟩
                  replace hs := hs.call hy
                  clear hy
                  try simp only [List.cons_append, List.nil_append, List.append_nil] at hs
                  try simp only [RdL, List.cons_append, List.nil_append] at hs
                  refine Z.lnil ?_
                  refine Z.only [4, 6, 7, 9] rfl ?_
                  refine Z.nthen ?_
                  refine Z.seq ?_
                  refine Z.drawK (fun j => j != 7) mixed hs ?_
                  clear hs; intro wd8 hs
                  refine Z.t 0 rfl rfl rfl (by rfl) (by kernel_rfl) ⟨_, hs, by first | (simp; done) | exact fun e he => List.mem_append_right _ he⟩ (Z.Yd.fieldA (m := 0) rfl (by kernel_rfl)) ?_
                  refine Z.t 1 rfl rfl rfl (by rfl) (by kernel_rfl) ⟨_, hs, by first | (simp; done) | exact fun e he => List.mem_append_right _ he⟩ (by first | exact Z.Yd.load rfl Try.isAgg3 (fun _ => Z.cellB (by first | ((repeat (first | exact List.mem_cons_self | refine List.mem_cons_of_mem _ ?_ | refine List.mem_append_right _ ?_)); done) | fail) rfl) | exact Z.Yd.load rfl Try.isAgg3 (fun _ => Z.cellO (by assumption) (by simp) (by assumption)) | fail "load 8.1") ?_
                  refine Z.tb [2, 3, 4] (by kernel_rfl) rfl ⟨_, hs, by first | (simp; done) | exact fun e he => List.mem_append_right _ he⟩ rfl ?_
                  refine Z.t 5 rfl rfl rfl (by rfl) (by kernel_rfl) ⟨_, hs, by first | (simp; done) | exact fun e he => List.mem_append_right _ he⟩ (Z.Yd.cut3 0 k k rfl rfl rfl rfl Try.underlying26 Try.sizeOf5 (fun hG => ⟨(by first | omega | (have hG' := Z.gh rfl hG; simp at hG'; omega)), (by first | omega | (have hG' := Z.gh rfl hG; simp at hG'; omega)), (by first | omega | (have hG' := Z.gh rfl hG; simp at hG'; omega)), (by first | omega | (have hG' := Z.gh rfl hG; simp at hG'; omega)), (by first | omega | (have hG' := Z.gh rfl hG; simp at hG'; omega))⟩)) ?_
                  refine Z.t 6 rfl rfl rfl (by rfl) (by kernel_rfl) ⟨_, hs, by first | (simp; done) | exact fun e he => List.mem_append_right _ he⟩ (Z.Yd.buildL [(0, 1), (1, 1)] [.int .i64 0, .slice none 0 0] rfl rfl (by intro w; kernel_rfl)) ?_
                  refine Z.tn 7 rfl rfl (by kernel_rfl) rfl trivial ?_
                  first | refine Z.ZO.storeA rfl rfl hs rfl rfl (by kernel_rfl) (by first | (simp [Value.oneCell']; done) | (refine Z.all_one ?_; assumption)) (by first | exact SX.at0 | exact SX.at1 | exact SX.at2 | exact SX.at3 | exact SX.at4 | exact SX.at5 | exact Z.at6 | exact Z.at7 | exact Z.at8 | exact Z.at9 | exact Z.at10 | exact Z.at11 | exact Z.at12) (by rfl) ?_ | refine Z.ZO.storeP rfl rfl hs rfl rfl (by kernel_rfl) (by first | (simp [Value.oneCell']; done) | (refine Z.all_one ?_; assumption)) (by first | exact SX.at0 | exact SX.at1 | exact SX.at2 | exact SX.at3 | exact SX.at4 | exact SX.at5 | exact Z.at6 | exact Z.at7 | exact Z.at8 | exact Z.at9 | exact Z.at10 | exact Z.at11 | exact Z.at12) (by first | decide | (simp; done) | (simp; omega)) ?_ | refine Z.ZO.storePR rfl rfl hs rfl rfl (by kernel_rfl) (by first | (simp [Value.oneCell']; done) | (refine Z.all_one ?_; assumption)) (by first | exact SX.at0 | exact SX.at1 | exact SX.at2 | exact SX.at3 | exact SX.at4 | exact SX.at5 | exact Z.at6 | exact Z.at7 | exact Z.at8 | exact Z.at9 | exact Z.at10 | exact Z.at11 | exact Z.at12) (by first | decide | (simp; done) | (simp; omega)) ?_
                  clear hs; intro ws hs
                  simp only [Nat.zero_add, Nat.add_zero, Nat.reduceAdd, Int.reduceToNat, Nat.reduceMul, List.set_cons_zero, List.set_cons_succ, List.setIfInBounds_toArray] at hs
                  try simp only [Z.putL, Nat.zero_add] at hs
                  refine Z.tk (Dn := fun j => j != 7) (i := 7) (fun h => absurd h (by decide)) ?_
                  refine Z.td (by rfl) (by kernel_rfl) ?_
                  refine Z.only [6] rfl ?_
                  refine Z.nthen ?_
                  refine Z.ret ?_
                  -- ret#7
                  refine Z.out1 (by exact ⟨⟨_, rfl, Z.rvcA hs Try.isAgg47 (by first | ((repeat (first | exact List.mem_cons_self | refine List.mem_cons_of_mem _ ?_ | refine List.mem_append_right _ ?_)); done) | fail) (by exact Try.sizeOf47)⟩, trivial⟩) ?_
                  first
                  | (simp at hm; done)
                  | exact .inl ⟨_, rfl, ⟨hpk, fun _ => ⟨hsp43, by simp at hm; omega⟩⟩, B, co, by rw [slA_zero]; rfl, hs.sel [0, 1, 2] (by decide)⟩
                · skip
                  rintro c7_12 w7_12 ⟨hm, rfl, hy⟩
                  replace hs := hs.call hy
                  clear hy
                  try simp only [List.cons_append, List.nil_append, List.append_nil] at hs
                  repeat (first | refine Z.pthen ?_ | refine Z.pblock ?_ | refine Z.pscope ?_)
                  -- ret#8
                  refine Z.outp ?_
                  first
                  | exact .inr ⟨_, rfl, .inl (hgc hE), by rw [if_neg (hgc hE), gb_bad hp (hgc hE)], _, hs.sub ((List.sublist_append_left _ _).trans (List.sublist_append_left _ _))⟩
                  | exact .inr ⟨_, rfl, .inr ⟨rfl, by first | omega | (simp at hm <;> omega)⟩, by rw [if_pos hpk], _, hs.sub (List.sublist_append_left _ _)⟩
                )
        · skip
          rintro c6_6 w6_6 ⟨hE, rfl, hy⟩
          replace hs := hs.call hy
          clear hy
          try simp only [List.cons_append, List.nil_append, List.append_nil] at hs
          repeat (first | refine Z.pthen ?_ | refine Z.pblock ?_ | refine Z.pscope ?_)
          -- ret#9
          refine Z.outp ?_
          first
          | exact .inr ⟨_, rfl, .inl (hgc hE), by rw [if_neg (hgc hE), gb_bad hp (hgc hE)], _, hs.sub ((List.sublist_append_left _ _).trans (List.sublist_append_left _ _))⟩
          | exact .inr ⟨_, rfl, .inr ⟨rfl, by first | omega | (simp at hm <;> omega)⟩, by rw [if_pos hpk], _, hs.sub (List.sublist_append_left _ _)⟩
        )
end Go.Proofs.Ytogjkgoiofngaaa

/- MAC PDUs: Parse. -/
namespace Go.Proofs.Ytogjkgoiofngaaa
open Go.RowKit
set_option linter.unusedSimpArgs false
set_option linter.unusedVariables false
--newlaws

def rowsQ (qs : List (MpV × Nat)) : List SX.Ent := qs.map fun x => SX.Ent.row (.slice x.1.B x.1.l.length x.2) 5 1 x.1.l.length (ints .u8 x.1.l)
def cellsQ (qs : List (MpV × Nat)) : List Value := qs.flatMap fun x => x.1.cells
def plainQ (qs : List (MpV × Nat)) : List Prt := qs.map fun x => x.1.plain
def ParR (R : Int × List Prt) (v : Value) (w w' : World) : Prop := ∃ qs sv, v = .tuple #[sv, .int .i64 R.1] ∧ plainQ qs = R.2 ∧ SX.St w [] w' (SX.Ent.row sv 47 2 qs.length (cellsQ qs) :: rowsQ qs)
theorem ParR.fail {e : Int} {w w' : World} (hs : SX.St w [] w' []) : ParR (e, []) (.tuple #[.slice none 0 0, .int .i64 e]) w w' := ⟨[], _, rfl, rfl, hs.nil _ 2⟩
theorem mm_clearP (gp T : Nat) (a : Value) (W : World) (hs : SX.St W (SX.idsOf [SX.Ent.blk gp T #[a]]) W [SX.Ent.blk gp T #[a]]) :
    Calls Try.prog 44 #[.pointer (some ⟨gp, 0, none⟩)] W (SX.Ret fun v w' => v = .tuple #[] ∧ SX.St W (SX.idsOf [SX.Ent.blk gp T #[a]]) w' [SX.Ent.blk gp T #[.slice none 0 0]]) := by
  generalize SX.idsOf [SX.Ent.blk gp T #[a]] = M at *
  refine Z.enter Try.func44 rfl Try.ntmps44 rfl rfl ?_
  refine Z.region ?_
  refine Z.le rfl trivial ?_
  first | refine Z.ZO.store rfl rfl hs Try.sizeOf22 rfl rfl rfl (by first | exact SX.at0 | exact SX.at1 | exact SX.at2 | exact SX.at3 | exact SX.at4 | exact SX.at5 | exact Z.at6 | exact Z.at7 | exact Z.at8 | exact Z.at9 | exact Z.at10 | exact Z.at11 | exact Z.at12) (by first | (simp; done) | (simp; omega)) ?_ | refine Z.ZO.storeR rfl rfl hs Try.sizeOf22 rfl rfl rfl (by first | exact SX.at0 | exact SX.at1 | exact SX.at2 | exact SX.at3 | exact SX.at4 | exact SX.at5 | exact Z.at6 | exact Z.at7 | exact Z.at8 | exact Z.at9 | exact Z.at10 | exact Z.at11 | exact Z.at12) (by first | omega | (simp [ints_length]; done) | (simp [ints_length]; omega)) ?_
  clear hs; intro ws hs
  simp only [Nat.zero_add, Nat.add_zero, Nat.reduceAdd, Int.reduceToNat, Nat.reduceMul, List.set_cons_zero, List.set_cons_succ, List.setIfInBounds_toArray] at hs
  refine Z.lnil ?_
  refine Z.only [] rfl ?_
  -- ret#0
  refine Z.out0n trivial ?_
  first | exact ⟨_, rfl, rfl, hs⟩ | exact ⟨_, rfl, rfl, hs.sub (List.nil_sublist _)⟩
theorem mm_part (g T : Nat) (sv : Value) (l : List Int) (p : Nat) (x n : Int) (la : Bool) (k : Nat) (w : World) (hs : SX.St w (SX.idsOf (RdL g T sv l (8 * p))) w (RdL g T sv l (8 * p))) (hl : l.length ≤ 1000000) (hb : ∀ x ∈ l, 0 ≤ x ∧ x < 256) (hp : p ≤ l.length) (hk : ptN l p x n la = k) :
    Calls Try.prog 47 #[.agg #[.pointer (some ⟨g, 0, none⟩)], .agg #[.int .i64 x, .int .i64 n], .bool la] w (PtR g T sv l p x la k w) := by
  cases la
  · exact mm_part_mid g T sv l p x n k w hs hl hb hp hk
  · exact mm_part_last g T sv l p x n k w hs hl hb hp hk
theorem ptN_nat {l : List Int} {p : Nat} {a : List (Int × Int)} {z : Int × Int} {i : Nat} {h : Int × Int} (hp : p ≤ l.length) (ha : ∀ x ∈ a, hdG x) (hz : hdT z) (hh : (a ++ [z])[i]? = some h) (h31 : h.1 ≠ 31) {la : Bool} (hla : la = decide (i + 1 = (a ++ [z]).length)) : ∃ k : Nat, ptN l p h.1 h.2 la = k := by
  have hn : 0 ≤ ptN l p h.1 h.2 la := by
    unfold ptN
    by_cases hc : ctlN h.1 ≠ 0
    · rw [if_pos hc]; exact (ctlN_bd h.1).1
    · rw [if_neg hc]
      by_cases hl : la = true
      · rw [if_pos hl]; omega
      · rw [if_neg hl]
        have hi : i < (a ++ [z]).length := (List.getElem?_eq_some_iff.1 hh).1
        have hne : i + 1 ≠ (a ++ [z]).length := fun e => hl (by rw [hla, decide_eq_true e])
        rw [List.length_append, List.length_singleton] at hi hne
        rw [List.getElem?_append_left (by omega)] at hh
        obtain ⟨hT, hG⟩ := ha h (List.mem_of_getElem? hh)
        rcases hT with h1 | h1 | h1
        · have := hG h1; omega
        · exact absurd h1 hc
        · exact absurd h1 h31
  exact ⟨_, (Int.toNat_of_nonneg hn).symm⟩
theorem _root_.Go.Proofs.Ytogjkgoiofngaaa.SX.St.tailU {w0 w : World} {M : List Nat} {A Q : List SX.Ent} {r : SX.Ent} (h : SX.St w0 M w (A ++ [r] ++ Q)) : SX.St w0 M w (A ++ (Q ++ [r])) := h.perm (by rw [List.append_assoc]; exact (List.perm_append_comm).append_left _)
theorem drop_emp {α : Type} {H : List α} {i : Nat} (hi : i < H.length) : (H.drop (i + 1)).isEmpty = decide (i + 1 = H.length) := by
  rw [Bool.eq_iff_iff]
  simp
  omega
theorem drop_at {α : Type} {H : List α} {i : Nat} {h : α} (hh : H[i]? = some h) : H.drop i = h :: H.drop (i + 1) := by
  obtain ⟨hi, hq⟩ := List.getElem?_eq_some_iff.1 hh
  rw [List.drop_eq_getElem_cons hi, hq]
set_option maxHeartbeats 4000000 in
set_option maxRecDepth 100000 in
theorem mc_Parse (A : Option Addr) (n c : Nat) (l : List Int) (w : World) (hx : Sl w A (ints .u8 l)) (hl : l.length = n) (hn : n ≤ 100000) (hb : ∀ x ∈ l, 0 ≤ x ∧ x < 256) :
    Calls Try.prog 23 #[.slice A n c] w (SX.Ret fun v w' => ParR (parV l) v w w') := by
  have hs := SX.St.start w
  obtain ⟨R, hR⟩ : ∃ R, parV l = R := ⟨_, rfl⟩
  rw [hR]
  obtain ⟨⟨E0, H, P0⟩, hV⟩ : ∃ V, hdV l = V := ⟨_, rfl⟩
  have hgd : E0 = 0 → ∃ a z, H = a ++ [z] ∧ (∀ x ∈ a, hdG x) ∧ hdT z := fun h => by
    have := hGo_good hb (l.length + 1) 0 [] false false (by simp)
    rw [show hGo l (l.length + 1) 0 [] false false = _ from hV] at this
    exact this h
  unfold parV at hR
  rw [hV] at hR
  simp only at hR
  have hz0 : A = none → n = 0 := fun hA => by
    subst hA
    rcases Nat.eq_zero_or_pos n with h0 | h0
    · exact h0
    · obtain ⟨b, off, e, -⟩ := hx (by simp [ints]; omega)
      cases e
  refine Z.enterD Try.func23 rfl Try.ntmps23 rfl rfl ?_
  refine Z.seq ?_
  refine Z.region ?_
  refine Z.le rfl trivial ?_
  refine Z.ZO.alloc rfl rfl (by rfl) Try.zeroValue22 rfl hs ?_
  clear hs; intro g2 w2 hs
  refine Z.le rfl trivial ?_
  refine Z.ZO.alloc rfl rfl (by rfl) Try.zeroValue27 rfl hs ?_
  clear hs; intro g3 w3 hs
  refine Z.lnil ?_
  refine Z.only [0, 2, 3] rfl ?_
  refine Z.nthen ?_
  refine Z.seq ?_
  refine Z.region ?_
  refine Z.lb 1 rfl ?_
  refine Z.le rfl trivial ?_
  refine Z.ZO.defer rfl rfl rfl rfl ?_
  refine Z.lnil ?_
  refine Z.only [0, 2, 3] rfl ?_
  refine Z.nthen ?_
  refine Z.seq ?_
  refine Z.region ?_
  refine Z.lb 1 rfl ?_
  refine Z.l rfl rfl (by rfl) (Z.keepS hs) (Z.Yd.lenS rfl Try.underlying26) ?_
  refine Z.lb 1 rfl ?_
  refine Z.le rfl trivial ?_
  refine Z.ZO.callB rfl rfl (by rfl) rfl rfl Try.call31 rfl (mm_must_any _ 4 _) ?_ ?_
  · skip
    rintro v2_3 w2_3 ⟨hm2, rfl, hy⟩
    replace hs := hs.call hy
    clear hy
    try simp only [List.cons_append, List.nil_append, List.append_nil] at hs
    rw [if_neg (by simp at hm2; omega)] at hR
    refine Z.lnil ?_
    refine Z.only [0, 2, 3] rfl ?_
    refine Z.nthen ?_
    refine Z.seq ?_
    refine Z.region ?_
    refine Z.lb 1 rfl ?_
    refine Z.le rfl trivial ?_
    refine Z.ZO.call rfl rfl (by rfl) rfl rfl Try.call45 rfl (newreader_any A n c l _ ((hx.st (hs.sub (List.nil_sublist _))).sx) hl (by omega) hz0) ?_
    rintro v3_1 w3_1 ⟨gr, sv, rfl, hy⟩
    replace hs := hs.call hy
    clear hy
    try simp only [List.cons_append, List.nil_append, List.append_nil] at hs
    refine Z.l rfl rfl (by rfl) (Z.keepS hs) (Z.Yd.buildL [(0, 1)] [.pointer none] rfl rfl (by intro w; kernel_rfl)) ?_
    refine Z.le rfl trivial ?_
    refine Z.ZO.alloc rfl rfl (by rfl) Try.zeroValue88 rfl hs ?_
    clear hs; intro g4 w4 hs
    refine Z.le rfl trivial ?_
    first | refine Z.ZO.storeA rfl rfl hs rfl rfl (by kernel_rfl) (by first | (simp [Value.oneCell']; done) | (refine Z.all_one ?_; assumption)) (by first | exact SX.at0 | exact SX.at1 | exact SX.at2 | exact SX.at3 | exact SX.at4 | exact SX.at5 | exact Z.at6 | exact Z.at7 | exact Z.at8 | exact Z.at9 | exact Z.at10 | exact Z.at11 | exact Z.at12) (by rfl) ?_ | refine Z.ZO.storeP rfl rfl hs rfl rfl (by kernel_rfl) (by first | (simp [Value.oneCell']; done) | (refine Z.all_one ?_; assumption)) (by first | exact SX.at0 | exact SX.at1 | exact SX.at2 | exact SX.at3 | exact SX.at4 | exact SX.at5 | exact Z.at6 | exact Z.at7 | exact Z.at8 | exact Z.at9 | exact Z.at10 | exact Z.at11 | exact Z.at12) (by first | decide | (simp; done) | (simp; omega)) ?_ | refine Z.ZO.storePR rfl rfl hs rfl rfl (by kernel_rfl) (by first | (simp [Value.oneCell']; done) | (refine Z.all_one ?_; assumption)) (by first | exact SX.at0 | exact SX.at1 | exact SX.at2 | exact SX.at3 | exact SX.at4 | exact SX.at5 | exact Z.at6 | exact Z.at7 | exact Z.at8 | exact Z.at9 | exact Z.at10 | exact Z.at11 | exact Z.at12) (by first | decide | (simp; done) | (simp; omega)) ?_
    clear hs; intro ws hs
    simp only [Nat.zero_add, Nat.add_zero, Nat.reduceAdd, Int.reduceToNat, Nat.reduceMul, List.set_cons_zero, List.set_cons_succ, List.setIfInBounds_toArray] at hs
    try simp only [Z.putL, Nat.zero_add] at hs
    refine Z.lnil ?_
    refine Z.only [2, 3, 4] rfl ?_
    refine Z.nthen ?_
    refine Z.seq ?_
    refine Z.region ?_
    refine Z.l rfl rfl (by rfl) (Z.keepS hs) (by first | exact Z.Yd.loadA _ rfl Try.isAgg88 (fun _ => Z.cellsB (by first | ((repeat (first | exact List.mem_cons_self | refine List.mem_cons_of_mem _ ?_ | refine List.mem_append_right _ ?_)); done) | fail)) (by exact Try.sizeOf88) | fail "load 4.0") ?_
    replace hs : SX.St w [] _ (RdL gr 106 sv l (8 * 0) ++ [_, _, _]) := hs.rot (L1 := [_])
    refine Z.le rfl trivial ?_
    refine Z.ZO.callB rfl rfl (by rfl) rfl rfl Try.call46 rfl (mm_heads gr _ sv l _ hs.lend (by omega) hb _ hV) ?_ ?_
    · skip
      rintro v4_1 w4_1 ⟨hE, hP, hHl, hz⟩
      replace hs := hs.regain hz
      simp only [RdL, List.cons_append, List.nil_append] at hE hP hHl hs
      obtain ⟨Ah, ch, rfl, -, -, -⟩ := SX.row_slv hs (j := 2) rfl
      rw [if_neg (fun h => h hE)] at hR
      obtain ⟨a0, z0, rfl, hga, hgz⟩ := hgd hE
      obtain ⟨H, hH⟩ : ∃ H, a0 ++ [z0] = H := ⟨_, rfl⟩
      rw [hH] at hR hHl hs
      rw [hH]
      replace hs := hs.nil 47 2
      refine Z.lb 1 rfl ?_
      refine Z.lnil ?_
      refine Z.only [2, 3, 4, 5] rfl ?_
      refine Z.nthen ?_
      refine Z.seq ?_
      refine Z.seq ?_
      refine Z.region ?_
      refine Z.lb 1 rfl ?_
      refine Z.l rfl rfl (by rfl) (Z.keepS hs) (Z.Yd.lenS rfl Try.underlying89) ?_
      refine Z.lb 1 rfl ?_
      refine Z.lnil ?_
      refine Z.only [2, 3, 4, 5, 18, 19, 20] rfl ?_
      refine Z.nthen ?_
      refine Z.block ?_
      refine Z.loopk (ι := Nat × Nat × List (MpV × Nat) × Value) [2, 3, 4, 5, 18, 19] rfl (fun x => [(20, [], .int .i64 (x.1 : Int))]) (fun x wr => (x.1 ≤ H.length ∧ x.2.1 ≤ l.length ∧ x.2.2.1.length ≤ x.1 ∧ ptGo l (H.drop x.1) x.2.1 (plainQ x.2.2.1) = R) ∧ SX.St w [] wr ((RdL gr 106 sv l (8 * x.2.1) ++ [SX.Ent.row (.slice Ah H.length ch) 92 2 H.length (H.flatMap encH), SX.Ent.row x.2.2.2 47 2 x.2.2.1.length (cellsQ x.2.2.1), SX.Ent.blk g4 88 #[.pointer (some ⟨gr, 0, none⟩)], SX.Ent.blk g3 27 #[.int .i64 0], SX.Ent.blk g2 22 #[x.2.2.2]]) ++ rowsQ x.2.2.1)) (fun x => H.length - x.1) (0, P0, [], .slice none 0 0) (by refine ⟨?_, trivial⟩ <;> (first | rfl | (refine Z.lookv rfl ?_; simp; done) | (refine Z.lookv rfl ?_; simp; omega))) ⟨⟨Nat.zero_le _, hP, Nat.zero_le _, by simpa [plainQ] using hR⟩, (hs.sel [1, 2, 3, 0, 6, 4, 5] (by decide))⟩ ?_
      clear hs
      rintro ⟨i, p, qs, svo⟩ w6 ⟨⟨hi, hp, hqi, hgo⟩, hs⟩
      refine Z.only [2, 3, 4, 5, 18, 19, 20] rfl ?_
      (try dsimp only at hs)
      dsimp only at hi hp hqi hgo
      simp only [RdL, List.cons_append, List.nil_append] at hs
      obtain ⟨Ao, co, rfl, -, -, -⟩ := SX.row_slv hs (j := 3) rfl
      refine Z.seq ?_
      refine Z.region ?_
      refine Z.lb 1 rfl ?_
      refine Z.lnil ?_
      refine Z.only [2, 3, 4, 5, 18, 19, 20, 21] rfl ?_
      refine Z.nthen ?_
      refine Z.seq ?_
      refine Z.cond rfl (fun hc6 => ?_) (fun hc6 => ?_)
      · first
          | (exfalso; simp at hc6 <;> omega)
          | (
            (try simp at hc6)
            obtain ⟨h, hh⟩ : ∃ h, H[i]? = some h := ⟨_, List.getElem?_eq_getElem (by omega)⟩
            have hdr := drop_at hh
            rw [hdr, ptGo] at hgo
            obtain ⟨gh, ch', e9, -, -⟩ := row_form (j := 2) hs rfl (by omega)
            cases e9
            have hone : ∀ u ∈ encH h, u.oneCell' = true := by simp [encH, Value.oneCell']
            refine Z.skip ?_
            refine Z.nthen ?_
            refine Z.seq ?_
            refine Z.block ?_
            refine Z.seq ?_
            refine Z.region ?_
            refine Z.lb 1 rfl ?_
            refine Z.l rfl rfl (by rfl) (Z.keepS hs) (Z.Yd.elem rfl rfl Try.underlying89 Try.sizeOf92 (fun hG => ⟨(by first | omega | (have hG' := Z.gh rfl hG; simp at hG'; omega)), (by first | omega | (have hG' := Z.gh rfl hG; simp at hG'; omega))⟩)) ?_
            refine Z.l rfl rfl (by rfl) (Z.keepS hs) (Z.Yd.loadA _ rfl Try.isAgg92 (fun _ => Z.cellsRf (by first | ((repeat (first | exact List.mem_cons_self | refine List.mem_cons_of_mem _ ?_ | refine List.mem_append_right _ ?_)); done) | fail) encH_len hh rfl) (by exact Try.sizeOf92)) ?_
            refine Z.le rfl trivial ?_
            refine Z.ZO.alloc rfl rfl (by rfl) Try.zeroValue92 rfl hs ?_
            clear hs; intro g7 w7 hs
            refine Z.lb 1 rfl ?_
            refine Z.le rfl trivial ?_
            first | refine Z.ZO.storeA rfl rfl hs rfl rfl (by kernel_rfl) (by first | (simp [Value.oneCell']; done) | (refine Z.all_one ?_; assumption)) (by first | exact SX.at0 | exact SX.at1 | exact SX.at2 | exact SX.at3 | exact SX.at4 | exact SX.at5 | exact Z.at6 | exact Z.at7 | exact Z.at8 | exact Z.at9 | exact Z.at10 | exact Z.at11 | exact Z.at12) (by rfl) ?_ | refine Z.ZO.storeP rfl rfl hs rfl rfl (by kernel_rfl) (by first | (simp [Value.oneCell']; done) | (refine Z.all_one ?_; assumption)) (by first | exact SX.at0 | exact SX.at1 | exact SX.at2 | exact SX.at3 | exact SX.at4 | exact SX.at5 | exact Z.at6 | exact Z.at7 | exact Z.at8 | exact Z.at9 | exact Z.at10 | exact Z.at11 | exact Z.at12) (by first | decide | (simp; done) | (simp; omega)) ?_ | refine Z.ZO.storePR rfl rfl hs rfl rfl (by kernel_rfl) (by first | (simp [Value.oneCell']; done) | (refine Z.all_one ?_; assumption)) (by first | exact SX.at0 | exact SX.at1 | exact SX.at2 | exact SX.at3 | exact SX.at4 | exact SX.at5 | exact Z.at6 | exact Z.at7 | exact Z.at8 | exact Z.at9 | exact Z.at10 | exact Z.at11 | exact Z.at12) (by first | decide | (simp; done) | (simp; omega)) ?_
            clear hs; intro ws hs
            simp only [Nat.zero_add, Nat.add_zero, Nat.reduceAdd, Int.reduceToNat, Nat.reduceMul, List.set_cons_zero, List.set_cons_succ, List.setIfInBounds_toArray] at hs
            try simp only [Z.putL, Nat.zero_add] at hs
            refine Z.lnil ?_
            refine Z.only [2, 3, 4, 5, 6, 7, 18, 19, 20] rfl ?_
            refine Z.nthen ?_
            refine Z.seq ?_
            refine Z.region ?_
            refine Z.l rfl rfl (by rfl) (Z.keepS hs) (Z.Yd.fieldA (m := 0) rfl (by kernel_rfl)) ?_
            refine Z.l rfl rfl (by rfl) (Z.keepS hs) (by first | exact Z.Yd.load rfl Try.isAgg3 (fun _ => Z.cellB (by first | ((repeat (first | exact List.mem_cons_self | refine List.mem_cons_of_mem _ ?_ | refine List.mem_append_right _ ?_)); done) | fail) rfl) | exact Z.Yd.load rfl Try.isAgg3 (fun _ => Z.cellO (by assumption) (by simp) (by assumption)) | fail "load 8.1") ?_
            refine Z.lb 1 rfl ?_
            refine Z.lnil ?_
            refine Z.only [2, 3, 4, 5, 6, 7, 18, 19, 20, 27] rfl ?_
            refine Z.nthen ?_
            refine Z.cond rfl (fun hc8 => ?_) (fun hc8 => ?_)
            · first
                | (exfalso; simp at hc8 <;> omega)
                | (
                  (try simp at hc8)
                  refine Z.drawP [SX.Ent.blk g4 88 #[.pointer (some ⟨gr, 0, none⟩)], SX.Ent.blk g2 22 #[.slice Ao qs.length co], SX.Ent.blk g7 92 (encH h).toArray] (fun j => j != 11) mixed hs ?_
                  clear hs; intro wd9 hs
                  refine Z.tXD 0 [0, 10, 11] (fun _ _ _ _ h => Z.leaves_put (by kernel_rfl) h) rfl rfl rfl (by rfl) (by kernel_rfl) ⟨_, hs, by first | (simp; done) | exact fun e he => List.mem_append_right _ he⟩ (by first | exact Z.Yd.load rfl Try.isAgg22 (fun _ => Z.cellB (by first | ((repeat (first | exact List.mem_cons_self | refine List.mem_cons_of_mem _ ?_ | refine List.mem_append_right _ ?_)); done) | fail) rfl) | exact Z.Yd.load rfl Try.isAgg22 (fun _ => Z.cellO (by assumption) (by simp) (by assumption)) | fail "load 9.0") ?_
                  refine Z.tXD 1 [1, 8, 9, 10, 11] (fun _ _ _ _ h => Z.leaves_put (by kernel_rfl) h) rfl rfl rfl (by rfl) (by kernel_rfl) ⟨_, hs, by first | (simp; done) | exact fun e he => List.mem_append_right _ he⟩ (by first | exact Z.Yd.loadA _ rfl Try.isAgg88 (fun _ => Z.cellsB (by first | ((repeat (first | exact List.mem_cons_self | refine List.mem_cons_of_mem _ ?_ | refine List.mem_append_right _ ?_)); done) | fail)) (by exact Try.sizeOf88) | fail "load 9.1") ?_
                  refine Z.tXD 2 [2, 8, 9, 10, 11] (fun _ _ _ _ h => Z.leaves_put (by kernel_rfl) h) rfl rfl rfl (by rfl) (by kernel_rfl) ⟨_, hs, by first | (simp; done) | exact fun e he => List.mem_append_right _ he⟩ (Z.Yd.loadA _ rfl Try.isAgg92 (fun _ => Z.cellsB (cs := encH h) (by first | ((repeat (first | exact List.mem_cons_self | refine List.mem_cons_of_mem _ ?_ | refine List.mem_append_right _ ?_)); done) | fail)) (by exact Try.sizeOf92)) ?_
                  refine Z.tXD 3 [3, 7, 8, 9, 10, 11] (fun _ _ _ _ h => Z.leaves_put (by kernel_rfl) h) rfl rfl rfl (by rfl) (by kernel_rfl) ⟨_, hs, by first | (simp; done) | exact fun e he => List.mem_append_right _ he⟩ (Z.Yd.pure rfl) ?_
                  refine Z.tXD 4 [4, 5, 6, 7, 8, 9, 10, 11] (fun _ _ _ _ h => Z.leaves_put (by kernel_rfl) h) rfl rfl rfl (by rfl) (by kernel_rfl) ⟨_, hs, by first | (simp; done) | exact fun e he => List.mem_append_right _ he⟩ (Z.Yd.pure rfl) ?_
                  refine Z.tXD 5 [5, 6, 7, 8, 9, 10, 11] (fun _ _ _ _ h => Z.leaves_put (by kernel_rfl) h) rfl rfl rfl (by rfl) (by kernel_rfl) ⟨_, hs, by first | (simp; done) | exact fun e he => List.mem_append_right _ he⟩ (Z.Yd.lenS rfl Try.underlying89) ?_
                  refine Z.tXD 6 [6, 7, 8, 9, 10, 11] (fun _ _ _ _ h => Z.leaves_put (by kernel_rfl) h) rfl rfl rfl (by rfl) (by kernel_rfl) ⟨_, hs, by first | (simp; done) | exact fun e he => List.mem_append_right _ he⟩ (Z.Yd.sub rfl rfl (fun hG => Z.wi64 (by first | omega | (have hG' := Z.gh rfl hG; simp at hG'; omega)))) ?_
                  refine Z.tXD 7 [7, 8, 9, 10, 11] (fun _ _ _ _ h => Z.leaves_put (by kernel_rfl) h) rfl rfl rfl (by rfl) (by kernel_rfl) ⟨_, hs, by first | (simp; done) | exact fun e he => List.mem_append_right _ he⟩ (Z.Yd.pure rfl) ?_
                  have ela : ((i : Int) == (H.length : Int) - 1) = decide (i + 1 = H.length) := by rw [Bool.eq_iff_iff]; simp; omega
                  obtain ⟨k, hk⟩ := ptN_nat hp hga hgz (by rw [hH]; exact hh) hc8 (la := ((i : Int) == (H.length : Int) - 1)) (by rw [ela, hH])
                  rw [if_neg hc8, drop_emp (by omega), ← ela, hk, Int.toNat_natCast] at hgo
                  replace hs : SX.St w [] _ (RdL gr 106 sv l (8 * p) ++ (_ :: _ :: _ :: _ :: _ :: _ :: rowsQ qs)) := hs.selT (L1 := [_, _, _, _, _, _, _, _]) [1, 2, 3, 4, 5, 6, 7, 0] (by decide)
                  refine Z.tnP 8 rfl rfl (by kernel_rfl) rfl trivial ?_
                  refine Z.ZO.callB rfl rfl (by rfl) rfl rfl Try.call47 rfl (mm_part gr _ sv l p h.1 h.2 _ k _ hs.lend (by omega) hb hp hk) ?_ ?_
                  · skip
                    rintro v9_8 w9_8 ⟨⟨hpk, hpl⟩, B, cB, rfl, hz⟩
                    replace hs := hs.regain hz
                    simp only [RdL, List.cons_append, List.nil_append] at hs
                    rw [if_neg (fun hh => hh hpk), if_neg (fun hh => hh.2 (hpl hh.1))] at hgo
                    obtain ⟨D, hD⟩ : ∃ D, (l.drop p).take k = D := ⟨_, rfl⟩
                    have hlk : D.length = k := by rw [← hD, List.length_take, List.length_drop]; omega
                    rw [hD] at hgo hs
                    subst hlk
                    refine Z.tkP (Dn := fun j => j != 11) (i := 8) (fun _ => ⟨_, hs, by first | (simp; done) | exact fun e he => List.mem_append_right _ he⟩) ?_
                    refine Z.tnP 9 rfl rfl (by kernel_rfl) rfl trivial ?_
                    refine Z.ZO.litL (T' := 47) [(0, 2)] [.int .i64 0, .slice none 0 0] rfl rfl (by rfl) rfl rfl (by intro W; kernel_rfl) hs ?_
                    clear hs; intro g37 w37 hs
                    refine Z.tkP (Dn := fun j => j != 11) (i := 9) (fun _ => ⟨_, hs, by first | (simp; done) | exact fun e he => List.mem_append_right _ he⟩) ?_
                    refine Z.tnP 10 rfl rfl (by kernel_rfl) rfl trivial ?_
                    refine Z.ZO.append (i0 := Try.t47) (size := 2) (bytes := 32) rfl rfl (by rfl) hs Try.underlying22 (by kernel_rfl) rfl rfl rfl rfl (by decide) rfl rfl (by first | exact SX.at0 | exact SX.at1 | exact SX.at2 | exact SX.at3 | exact SX.at4 | exact SX.at5 | exact Z.at6 | exact Z.at7 | exact Z.at8 | exact Z.at9 | exact Z.at10 | exact Z.at11 | exact Z.at12) (by first | exact SX.at0 | exact SX.at1 | exact SX.at2 | exact SX.at3 | exact SX.at4 | exact SX.at5 | exact Z.at6 | exact Z.at7 | exact Z.at8 | exact Z.at9 | exact Z.at10 | exact Z.at11 | exact Z.at12) (by first | rfl | simp) (by simp [Value.oneCell']) (by decide) (by unfold maxLen; omega) (by omega) ?_
                    clear hs; intro g38 cap38 w38 hs
                    simp only [List.set_cons_zero, List.set_cons_succ, List.eraseIdx_cons_zero, List.eraseIdx_cons_succ] at hs
                    refine Z.tkP (Dn := fun j => j != 11) (i := 10) (fun _ => ⟨_, hs, by first | (simp; done) | exact fun e he => List.mem_append_right _ he⟩) ?_
                    refine Z.tnP 11 rfl rfl (by kernel_rfl) rfl trivial ?_
                    first | refine Z.ZO.store rfl rfl hs Try.sizeOf22 rfl rfl rfl (by first | exact SX.at0 | exact SX.at1 | exact SX.at2 | exact SX.at3 | exact SX.at4 | exact SX.at5 | exact Z.at6 | exact Z.at7 | exact Z.at8 | exact Z.at9 | exact Z.at10 | exact Z.at11 | exact Z.at12) (by first | (simp; done) | (simp; omega)) ?_ | refine Z.ZO.storeR rfl rfl hs Try.sizeOf22 rfl rfl rfl (by first | exact SX.at0 | exact SX.at1 | exact SX.at2 | exact SX.at3 | exact SX.at4 | exact SX.at5 | exact Z.at6 | exact Z.at7 | exact Z.at8 | exact Z.at9 | exact Z.at10 | exact Z.at11 | exact Z.at12) (by first | omega | (simp [ints_length]; done) | (simp [ints_length]; omega)) ?_
                    clear hs; intro ws hs
                    simp only [Nat.zero_add, Nat.add_zero, Nat.reduceAdd, Int.reduceToNat, Nat.reduceMul, List.set_cons_zero, List.set_cons_succ, List.setIfInBounds_toArray] at hs
                    refine Z.tkP (Dn := fun j => j != 11) (i := 11) (fun h => absurd h (by decide)) ?_
                    refine Z.tdP (by rfl) (by kernel_rfl) ?_
                    refine Z.only [2, 3, 4, 5, 18, 19, 20] rfl ?_
                    refine Z.nblock ?_
                    refine Z.nthen ?_
                    refine Z.region ?_
                    refine Z.l rfl rfl (by rfl) (Z.keepS hs) (Z.Yd.add rfl rfl (fun hG => Z.wi64 (by first | omega | (have hG' := Z.gh rfl hG; simp at hG'; omega)))) ?_
                    refine Z.lb 1 rfl ?_
                    refine Z.lnil ?_
                    refine Z.only [2, 3, 4, 5, 18, 19, 20] rfl ?_
                    refine Z.nthen ?_
                    first
                    | (rw [if_pos hc8] at hgo
                       exact Z.again (i + 1, p, qs, .slice Ao qs.length co) (by refine ⟨?_, ?_, ?_, ?_, ?_, ?_, ?_, trivial⟩ <;> (first | rfl | (refine Z.lookv rfl ?_; simp; done) | (refine Z.lookv rfl ?_; simp; omega))) ⟨⟨by simp only; omega, hp, by simp only; omega, hgo⟩, hs.tl⟩ (by simp only; omega))
                    | (have e1 : (qs ++ [((⟨h.1, B, D.length, D⟩ : MpV), cB)]).length = qs.length + 1 := by simp
                       have e2 : cellsQ (qs ++ [((⟨h.1, B, D.length, D⟩ : MpV), cB)]) = cellsQ qs ++ [.int .i64 h.1, .slice B D.length D.length] := by simp [cellsQ, MpV.cells]
                       have e3 : rowsQ (qs ++ [((⟨h.1, B, D.length, D⟩ : MpV), cB)]) = rowsQ qs ++ [SX.Ent.row (.slice B D.length cB) 5 1 D.length (ints .u8 D)] := by simp [rowsQ]
                       have e4 : plainQ (qs ++ [((⟨h.1, B, D.length, D⟩ : MpV), cB)]) = plainQ qs ++ [(h.1, D)] := by simp [plainQ, MpV.plain]
                       have hs2 := SX.St.tailU (A := [_, _, _, _, _, _, _]) (Q := rowsQ qs) (hs.selT (L1 := [_, _, _, _, _, _, _, _, _]) [0, 1, 3, 4, 5, 6, 7, 2] (by decide))
                       rw [← e4] at hgo
                       rw [← e1, ← e2, ← e3] at hs2
                       exact Z.again (i + 1, p + D.length, qs ++ [((⟨h.1, B, D.length, D⟩ : MpV), cB)], _) (by refine ⟨?_, ?_, ?_, ?_, ?_, ?_, ?_, trivial⟩ <;> (first | rfl | (refine Z.lookv rfl ?_; simp; done) | (refine Z.lookv rfl ?_; simp; omega))) ⟨⟨by simp only; omega, hpk, by simp only [e1]; omega, hgo⟩, hs2⟩ (by simp only; omega))
                  · skip
                    rintro c9_8 w9_8 ⟨hbad, rfl, a', hz⟩
                    replace hs := (hs.regain hz).sel [5, 6] (by decide)
                    have hgo' : R = (if p + k ≤ l.length then 9 else 5, []) := by
                      rw [← hgo]
                      by_cases hpk : p + k ≤ l.length
                      · rw [if_neg (fun hh => hh hpk), if_pos (hbad.resolve_left (fun hh => hh hpk)), if_pos hpk]
                      · rw [if_pos hpk, if_neg hpk]
                    subst hgo'
                    repeat (first | refine Z.pthen ?_ | refine Z.pblock ?_ | refine Z.pscope ?_)
                    -- ret#0
                    refine Z.outDp Try.call29 (mm_caught_pan g3 _ _ _ _ _ [SX.Ent.blk g2 _ _] _ _ (hs.lend (L2 := [])) Try.call44 (fun W hW ↦ mm_clearP g2 _ _ W hW)) ?_
                    rintro vD wD ⟨rfl, hz⟩
                    replace hs := hs.regain (L2 := []) hz
                    refine ⟨[_, _], (by exact ⟨⟨_, rfl, Z.rvc hs Try.isAgg22 (by first | ((repeat (first | exact List.mem_cons_self | refine List.mem_cons_of_mem _ ?_ | refine List.mem_append_right _ ?_)); done) | fail) rfl⟩, ⟨_, rfl, Z.rvc hs Try.isAgg27 (by first | ((repeat (first | exact List.mem_cons_self | refine List.mem_cons_of_mem _ ?_ | refine List.mem_append_right _ ?_)); done) | fail) rfl⟩, trivial⟩), ?_⟩
                    exact ⟨_, rfl, ParR.fail (hs.sub (List.nil_sublist _))⟩
                  )
            · first
                | (exfalso; simp at hc8 <;> omega)
                | (
                  (try simp at hc8)
                  refine Z.skip ?_
                  refine Z.nblock ?_
                  refine Z.nthen ?_
                  refine Z.region ?_
                  refine Z.l rfl rfl (by rfl) (Z.keepS hs) (Z.Yd.add rfl rfl (fun hG => Z.wi64 (by first | omega | (have hG' := Z.gh rfl hG; simp at hG'; omega)))) ?_
                  refine Z.lb 1 rfl ?_
                  refine Z.lnil ?_
                  refine Z.only [2, 3, 4, 5, 18, 19, 20] rfl ?_
                  refine Z.nthen ?_
                  first
                  | (rw [if_pos hc8] at hgo
                     exact Z.again (i + 1, p, qs, .slice Ao qs.length co) (by refine ⟨?_, ?_, ?_, ?_, ?_, ?_, ?_, trivial⟩ <;> (first | rfl | (refine Z.lookv rfl ?_; simp; done) | (refine Z.lookv rfl ?_; simp; omega))) ⟨⟨by simp only; omega, hp, by simp only; omega, hgo⟩, hs.tl⟩ (by simp only; omega))
                  | (have e1 : (qs ++ [((⟨h.1, B, D.length, D⟩ : MpV), cB)]).length = qs.length + 1 := by simp
                     have e2 : cellsQ (qs ++ [((⟨h.1, B, D.length, D⟩ : MpV), cB)]) = cellsQ qs ++ [.int .i64 h.1, .slice B D.length D.length] := by simp [cellsQ, MpV.cells]
                     have e3 : rowsQ (qs ++ [((⟨h.1, B, D.length, D⟩ : MpV), cB)]) = rowsQ qs ++ [SX.Ent.row (.slice B D.length cB) 5 1 D.length (ints .u8 D)] := by simp [rowsQ]
                     have e4 : plainQ (qs ++ [((⟨h.1, B, D.length, D⟩ : MpV), cB)]) = plainQ qs ++ [(h.1, D)] := by simp [plainQ, MpV.plain]
                     have hs2 := SX.St.tailU (A := [_, _, _, _, _, _, _]) (Q := rowsQ qs) (hs.selT (L1 := [_, _, _, _, _, _, _, _, _]) [0, 1, 3, 4, 5, 6, 7, 2] (by decide))
                     rw [← e4] at hgo
                     rw [← e1, ← e2, ← e3] at hs2
                     exact Z.again (i + 1, p + D.length, qs ++ [((⟨h.1, B, D.length, D⟩ : MpV), cB)], _) (by refine ⟨?_, ?_, ?_, ?_, ?_, ?_, ?_, trivial⟩ <;> (first | rfl | (refine Z.lookv rfl ?_; simp; done) | (refine Z.lookv rfl ?_; simp; omega))) ⟨⟨by simp only; omega, hpk, by simp only [e1]; omega, hgo⟩, hs2⟩ (by simp only; omega))
                  )
            )
      · first
          | (exfalso; simp at hc6 <;> omega)
          | (
            (try simp at hc6)
            refine Z.exit ?_
            refine Z.xthen ?_
            refine Z.xthen ?_
            refine Z.xblock ?_
            refine Z.nthen ?_
            refine Z.seq ?_
            refine Z.region ?_
            refine Z.l rfl rfl (by rfl) (Z.keepS hs) (by first | exact Z.Yd.load rfl Try.isAgg22 (fun _ => Z.cellB (by first | ((repeat (first | exact List.mem_cons_self | refine List.mem_cons_of_mem _ ?_ | refine List.mem_append_right _ ?_)); done) | fail) rfl) | exact Z.Yd.load rfl Try.isAgg22 (fun _ => Z.cellO (by assumption) (by simp) (by assumption)) | fail "load 11.0") ?_
            refine Z.l rfl rfl (by rfl) (Z.keepS hs) (Z.Yd.lenS rfl Try.underlying22) ?_
            refine Z.lb 1 rfl ?_
            refine Z.le rfl trivial ?_
            refine Z.ZO.callB rfl rfl (by rfl) rfl rfl Try.call31 rfl (mm_must_any _ 9 _) ?_ ?_
            · skip
              rintro v11_3 w11_3 ⟨hm11, rfl, hy⟩
              replace hs := hs.call hy
              clear hy
              try simp only [List.cons_append, List.nil_append, List.append_nil] at hs
              have hqp : 0 < qs.length := by simp at hm11; omega
              rw [List.drop_of_length_le (by omega), ptGo, if_neg (by intro hh; rw [plainQ, List.map_eq_nil_iff] at hh; subst hh; simp at hqp)] at hgo
              subst hgo
              refine Z.lnil ?_
              refine Z.only [2, 3] rfl ?_
              refine Z.nthen ?_
              refine Z.seq ?_
              refine Z.region ?_
              refine Z.l rfl rfl (by rfl) (Z.keepS hs) (by first | exact Z.Yd.load rfl Try.isAgg22 (fun _ => Z.cellB (by first | ((repeat (first | exact List.mem_cons_self | refine List.mem_cons_of_mem _ ?_ | refine List.mem_append_right _ ?_)); done) | fail) rfl) | exact Z.Yd.load rfl Try.isAgg22 (fun _ => Z.cellO (by assumption) (by simp) (by assumption)) | fail "load 12.0") ?_
              refine Z.le rfl trivial ?_
              first | refine Z.ZO.store rfl rfl hs Try.sizeOf22 rfl rfl rfl (by first | exact SX.at0 | exact SX.at1 | exact SX.at2 | exact SX.at3 | exact SX.at4 | exact SX.at5 | exact Z.at6 | exact Z.at7 | exact Z.at8 | exact Z.at9 | exact Z.at10 | exact Z.at11 | exact Z.at12) (by first | (simp; done) | (simp; omega)) ?_ | refine Z.ZO.storeR rfl rfl hs Try.sizeOf22 rfl rfl rfl (by first | exact SX.at0 | exact SX.at1 | exact SX.at2 | exact SX.at3 | exact SX.at4 | exact SX.at5 | exact Z.at6 | exact Z.at7 | exact Z.at8 | exact Z.at9 | exact Z.at10 | exact Z.at11 | exact Z.at12) (by first | omega | (simp [ints_length]; done) | (simp [ints_length]; omega)) ?_
              clear hs; intro ws hs
              simp only [Nat.zero_add, Nat.add_zero, Nat.reduceAdd, Int.reduceToNat, Nat.reduceMul, List.set_cons_zero, List.set_cons_succ, List.setIfInBounds_toArray] at hs
              refine Z.le rfl trivial ?_
              first | refine Z.ZO.store rfl rfl hs Try.sizeOf27 rfl rfl rfl (by first | exact SX.at0 | exact SX.at1 | exact SX.at2 | exact SX.at3 | exact SX.at4 | exact SX.at5 | exact Z.at6 | exact Z.at7 | exact Z.at8 | exact Z.at9 | exact Z.at10 | exact Z.at11 | exact Z.at12) (by first | (simp; done) | (simp; omega)) ?_ | refine Z.ZO.storeR rfl rfl hs Try.sizeOf27 rfl rfl rfl (by first | exact SX.at0 | exact SX.at1 | exact SX.at2 | exact SX.at3 | exact SX.at4 | exact SX.at5 | exact Z.at6 | exact Z.at7 | exact Z.at8 | exact Z.at9 | exact Z.at10 | exact Z.at11 | exact Z.at12) (by first | omega | (simp [ints_length]; done) | (simp [ints_length]; omega)) ?_
              clear hs; intro ws hs
              simp only [Nat.zero_add, Nat.add_zero, Nat.reduceAdd, Int.reduceToNat, Nat.reduceMul, List.set_cons_zero, List.set_cons_succ, List.setIfInBounds_toArray] at hs
              refine Z.lnil ?_
              refine Z.only [2, 3] rfl ?_
              refine Z.nthen ?_
              refine Z.ret ?_
              -- ret#1
              refine Z.outDr Try.call29 (mm_caught_ret g3 _ _ _) ?_
              rintro vD wD ⟨rfl, hy⟩
              replace hs := hs.call hy
              refine ⟨[_, _], (by exact ⟨⟨_, rfl, Z.rvc hs Try.isAgg22 (by first | ((repeat (first | exact List.mem_cons_self | refine List.mem_cons_of_mem _ ?_ | refine List.mem_append_right _ ?_)); done) | fail) rfl⟩, ⟨_, rfl, Z.rvc hs Try.isAgg27 (by first | ((repeat (first | exact List.mem_cons_self | refine List.mem_cons_of_mem _ ?_ | refine List.mem_append_right _ ?_)); done) | fail) rfl⟩, trivial⟩), ?_⟩
              exact ⟨_, rfl, qs, _, rfl, rfl, hs.selT (L1 := [_, _, _, _, _, _, _]) [3] (by decide)⟩
            · skip
              rintro c11_3 w11_3 ⟨hm11, rfl, hy⟩
              replace hs := hs.call hy
              clear hy
              try simp only [List.cons_append, List.nil_append, List.append_nil] at hs
              rw [List.drop_of_length_le (by omega), ptGo, if_pos (by rw [plainQ, List.map_eq_nil_iff]; simpa using hm11)] at hgo
              subst hgo
              replace hs := hs.sel [5, 6] (by decide)
              repeat (first | refine Z.pthen ?_ | refine Z.pblock ?_ | refine Z.pscope ?_)
              -- ret#2
              refine Z.outDp Try.call29 (mm_caught_pan g3 _ _ _ _ _ [SX.Ent.blk g2 _ _] _ _ (hs.lend (L2 := [])) Try.call44 (fun W hW ↦ mm_clearP g2 _ _ W hW)) ?_
              rintro vD wD ⟨rfl, hz⟩
              replace hs := hs.regain (L2 := []) hz
              refine ⟨[_, _], (by exact ⟨⟨_, rfl, Z.rvc hs Try.isAgg22 (by first | ((repeat (first | exact List.mem_cons_self | refine List.mem_cons_of_mem _ ?_ | refine List.mem_append_right _ ?_)); done) | fail) rfl⟩, ⟨_, rfl, Z.rvc hs Try.isAgg27 (by first | ((repeat (first | exact List.mem_cons_self | refine List.mem_cons_of_mem _ ?_ | refine List.mem_append_right _ ?_)); done) | fail) rfl⟩, trivial⟩), ?_⟩
              exact ⟨_, rfl, ParR.fail (hs.sub (List.nil_sublist _))⟩
            )
    · skip
      rintro c4_1 w4_1 ⟨hE, rfl, a', hz⟩
      simp only at hE
      rw [if_pos hE] at hR
      subst hR
      replace hs := (hs.regain hz).sel [2, 3] (by decide)
      repeat (first | refine Z.pthen ?_ | refine Z.pblock ?_ | refine Z.pscope ?_)
      -- ret#3
      refine Z.outDp Try.call29 (mm_caught_pan g3 _ _ _ _ _ [SX.Ent.blk g2 _ _] _ _ (hs.lend (L2 := [])) Try.call44 (fun W hW ↦ mm_clearP g2 _ _ W hW)) ?_
      rintro vD wD ⟨rfl, hz⟩
      replace hs := hs.regain (L2 := []) hz
      refine ⟨[_, _], (by exact ⟨⟨_, rfl, Z.rvc hs Try.isAgg22 (by first | ((repeat (first | exact List.mem_cons_self | refine List.mem_cons_of_mem _ ?_ | refine List.mem_append_right _ ?_)); done) | fail) rfl⟩, ⟨_, rfl, Z.rvc hs Try.isAgg27 (by first | ((repeat (first | exact List.mem_cons_self | refine List.mem_cons_of_mem _ ?_ | refine List.mem_append_right _ ?_)); done) | fail) rfl⟩, trivial⟩), ?_⟩
      exact ⟨_, rfl, ParR.fail (hs.sub (List.nil_sublist _))⟩
  · skip
    rintro c2_3 w2_3 ⟨hm2, rfl, hy⟩
    replace hs := hs.call hy
    clear hy
    try simp only [List.cons_append, List.nil_append, List.append_nil] at hs
    rw [if_pos (by simp at hm2; omega)] at hR
    subst hR
    replace hs := hs.sel [0, 1] (by decide)
    repeat (first | refine Z.pthen ?_ | refine Z.pblock ?_ | refine Z.pscope ?_)
    -- ret#4
    refine Z.outDp Try.call29 (mm_caught_pan g3 _ _ _ _ _ [SX.Ent.blk g2 _ _] _ _ (hs.lend (L2 := [])) Try.call44 (fun W hW ↦ mm_clearP g2 _ _ W hW)) ?_
    rintro vD wD ⟨rfl, hz⟩
    replace hs := hs.regain (L2 := []) hz
    refine ⟨[_, _], (by exact ⟨⟨_, rfl, Z.rvc hs Try.isAgg22 (by first | ((repeat (first | exact List.mem_cons_self | refine List.mem_cons_of_mem _ ?_ | refine List.mem_append_right _ ?_)); done) | fail) rfl⟩, ⟨_, rfl, Z.rvc hs Try.isAgg27 (by first | ((repeat (first | exact List.mem_cons_self | refine List.mem_cons_of_mem _ ?_ | refine List.mem_append_right _ ?_)); done) | fail) rfl⟩, trivial⟩), ?_⟩
    exact ⟨_, rfl, ParR.fail (hs.sub (List.nil_sublist _))⟩
end Go.Proofs.Ytogjkgoiofngaaa

/- Bytes of a string: []byte(s), read only. -/
namespace Go.Proofs.Ytogjkgoiofngaaa
open Go.RowKit
set_option linter.unusedVariables false
set_option linter.unusedSimpArgs false
namespace Z
variable {N : Nat} {E : Env} {D : List Deferred} {F : Fence} {n : Nat} {P : Program} {o : Oper}
variable {K : Act → World → Prop} {Q : Exit → Act → World → Prop} {w w0 : World} {M : List Nat} {L : List SX.Ent}
variable {x : Operand} {T T' : TypeId} {d : Nat}
theorem ZO.s2b [Wide F] {s : ByteArray} {e : TypeId} {u : TypeDesc} (ho : o.op = .convert T T' x) (hd : o.dst = some d) (hc : chk N d E [] = true) (hs : SX.St w0 M w L) (hx : ev E [] x = some (.string s))
    (ht : P.underlying T = some u) (ht' : P.underlying T' = some (.slice e)) (he : P.underlying e = some (.int .u8)) (l : List Int) (hl : s.data.toList.map (fun b => (b.toNat : Int)) = l)
    (h : ∀ g c w', SX.St w0 M w' L → Sl w' (some ⟨g, 0, none⟩) (ints .u8 l) → Z N ((d, [], .slice (some ⟨g, 0, none⟩) l.length c) :: E) D K w') : ZO F n P N E D o K Q w := by
  have hsz : s.size = l.length := by rw [← hl]; simp
  have hst : SX.St w0 M (Lib.bytesWorld w e s) L := by
    have h1 := hs.add (w' := Lib.bytesWorld w e s) (e' := ⟨[], fun _ => True, fun _ _ _ _ => trivial, fun _ _ _ hb => (by cases hb)⟩) rfl rfl rfl (by rw [Lib.bytesWorld_size]; omega) (fun b hb => Lib.bytesWorld_at_old w e s b hb) (by simp) (fun b hb => by cases hb) trivial
    exact h1.tl
  have hsl : Sl (Lib.bytesWorld w e s) (some ⟨w.heap.size, 0, none⟩) (ints .u8 l) := fun hp => by
    refine ⟨w.heap.size, 0, rfl, by rw [Lib.bytesWorld_size]; omega, fun j v hv => ?_⟩
    have hj : j < l.length := by
      have := (List.getElem?_eq_some_iff.1 hv).1
      simpa [ints] using this
    rw [Nat.zero_add, Lib.bytesWorld_cell w e s j (by omega)]
    have hv' : v = .int .u8 (l[j]) := by
      have := (List.getElem?_eq_some_iff.1 hv).2
      rw [← this]
      simp [ints]
    rw [hv']
    subst hl
    have hj2 : j < s.data.size := by simpa using hj
    simp [Array.getElem?_eq_getElem hj2]
  refine ZO.value (v := .slice (some ⟨w.heap.size, 0, none⟩) l.length (grownCap w s.size 0 e)) (w' := Lib.bytesWorld w e s) (by intro c e; rw [ho] at e; cases e) hd hc (fun a ha => ?_) (h _ _ _ hst hsl)
  have h1 := ev0 ha hx
  simp only [execOp, ho, h1]
  rw [Sem.run_bind, Lib.run_convert_string_bytes w T T' e s ht ht' he, hsz]
  rfl
end Z
end Go.Proofs.Ytogjkgoiofngaaa

/- MAC PDUs compared; the law's small functions. -/
namespace Go.Proofs.Ytogjkgoiofngaaa
open Go.RowKit
set_option linter.unusedSimpArgs false
set_option linter.unusedVariables false
--newlaws

theorem mp_at {ps : List MpV} {i : Nat} {q : MpV} (h : ps[i]? = some q) : (ps.map MpV.plain)[i]? = some q.plain := by rw [List.getElem?_map, h]; rfl
theorem mp_ne {l k : List Prt} {i : Nat} {x y : Prt} (hx : l[i]? = some x) (hy : k[i]? = some y) (h : x ≠ y) : l ≠ k := fun e => by
  subst e
  rw [hx] at hy
  exact h (Option.some.inj hy)
set_option maxRecDepth 100000 in
theorem mr_Same (A B : Option Addr) (n c m d : Nat) (ps ks : List MpV) (w : World) (hx : Sl w A (ps.flatMap MpV.cells)) (hy : Sl w B (ks.flatMap MpV.cells)) (hl : ps.length = n) (hk : ks.length = m) (hn : n ≤ 9223372036854775807)
    (hB : ∀ q ∈ ps, Sl w q.B (ints .u8 q.l)) (hC : ∀ q ∈ ks, Sl w q.B (ints .u8 q.l)) (hb : ∀ q ∈ ps, ∀ x ∈ q.l, 0 ≤ x ∧ x < 256) (hc : ∀ q ∈ ks, ∀ x ∈ q.l, 0 ≤ x ∧ x < 256) :
    Calls Try.prog 18 #[.slice A n c, .slice B m d] w (SX.Ret fun v w' => v = .bool (decide (ps.map MpV.plain = ks.map MpV.plain)) ∧ SX.St w [] w' []) := by
  have hs := SX.St.start w
  refine Z.enter Try.func18 rfl Try.ntmps18 rfl rfl ?_
  refine Z.seq ?_
  refine Z.region ?_
  refine Z.lb 1 rfl ?_
  refine Z.lnil ?_
  refine Z.only [0, 1] rfl ?_
  refine Z.nthen ?_
  refine Z.seq ?_
  refine Z.seq ?_
  refine Z.region ?_
  refine Z.lb 1 rfl ?_
  refine Z.l rfl rfl (by rfl) (Z.keepS hs) (Z.Yd.lenS rfl Try.underlying22) ?_
  refine Z.lb 1 rfl ?_
  refine Z.l rfl rfl (by rfl) (Z.keepS hs) (Z.Yd.lenS rfl Try.underlying22) ?_
  refine Z.lb 1 rfl ?_
  refine Z.lnil ?_
  refine Z.only [0, 1, 10] rfl ?_
  refine Z.nthen ?_
  refine Z.cond rfl (fun hc1 => ?_) (fun hc1 => ?_)
  · first
      | (exfalso; simp at hc1 <;> omega)
      | (
        (try simp at hc1)
        refine Z.seq ?_
        refine Z.region ?_
        refine Z.lb 1 rfl ?_
        refine Z.lnil ?_
        refine Z.only [4] rfl ?_
        refine Z.nthen ?_
        refine Z.ret ?_
        repeat (first | refine Z.rthen ?_ | refine Z.rblock ?_ | refine Z.rscope ?_)
        -- ret#0
        refine Z.out1 (by exact ⟨rfl, trivial⟩) ?_
        refine ⟨_, rfl, ?_, hs.sub (List.nil_sublist _)⟩
        first
        | exact congrArg Value.bool (decide_eq_false (fun h => mp_ne (mp_at hxi) (mp_at hyi) (fun e => hc6.elim (fun k => k (congrArg Prod.fst e)) (fun k => k (congrArg Prod.snd e))) h)).symm
        | exact congrArg Value.bool (decide_eq_true (by rwa [List.take_of_length_le (by simp; omega), List.take_of_length_le (by simp; omega)] at ht)).symm
        | exact congrArg Value.bool (decide_eq_false (fun h => by have hlk := congrArg List.length h; simp at hlk; omega)).symm
        )
  · first
      | (exfalso; simp at hc1 <;> omega)
      | (
        (try simp at hc1)
        refine Z.skip ?_
        refine Z.nthen ?_
        refine Z.seq ?_
        refine Z.seq ?_
        refine Z.region ?_
        refine Z.lb 1 rfl ?_
        refine Z.lnil ?_
        refine Z.only [0, 1, 5] rfl ?_
        refine Z.nthen ?_
        refine Z.block ?_
        refine Z.loopk (ι := Nat) [0, 1] rfl (fun i => [(5, [], .int .i64 (i : Int))]) (fun i wr => (i ≤ n ∧ n = m ∧ (ps.map MpV.plain).take i = (ks.map MpV.plain).take i) ∧ SX.St w [] wr []) (fun i => n - i) 0 (by refine ⟨?_, trivial⟩ <;> (first | rfl | (refine Z.lookv rfl ?_; simp; done) | (refine Z.lookv rfl ?_; simp; omega))) ⟨⟨by omega, by first | omega | simp_all, rfl⟩, hs⟩ ?_
        clear hs
        rintro i w4 ⟨⟨hi, hnm, ht⟩, hs⟩
        refine Z.only [0, 1, 5] rfl ?_
        refine Z.seq ?_
        refine Z.seq ?_
        refine Z.region ?_
        refine Z.lb 2 rfl ?_
        refine Z.l rfl rfl (by rfl) (Z.keepS hs) (Z.Yd.lenS rfl Try.underlying22) ?_
        refine Z.lb 1 rfl ?_
        refine Z.lnil ?_
        refine Z.only [0, 1, 5, 14] rfl ?_
        refine Z.nthen ?_
        refine Z.cond rfl (fun hc4 => ?_) (fun hc4 => ?_)
        · first
            | (exfalso; simp at hc4 <;> omega)
            | (
              (try simp at hc4)
              obtain ⟨b, off, rfl, hb0, hx2⟩ := Z.Sl.some hx (by rw [fl_len mp_len]; omega)
              obtain ⟨b', off', rfl, hb0', hy2⟩ := Z.Sl.some hy (by rw [fl_len mp_len]; omega)
              obtain ⟨x, hxi⟩ : ∃ f, ps[i]? = some f := ⟨_, List.getElem?_eq_getElem (by omega)⟩
              obtain ⟨y, hyi⟩ : ∃ f, ks[i]? = some f := ⟨_, List.getElem?_eq_getElem (by omega)⟩
              have hxm := List.mem_of_getElem? hxi
              have hym := List.mem_of_getElem? hyi
              have hse := Z.str_eq (hb x hxm) (hc y hym)
              refine Z.skip ?_
              refine Z.nthen ?_
              refine Z.seq ?_
              refine Z.block ?_
              refine Z.seq ?_
              refine Z.drawK (fun _ => true) mixed hs ?_
              clear hs; intro wd6 hs
              refine Z.tb [0, 1] (by kernel_rfl) rfl ⟨_, hs, by first | (simp; done) | exact fun e he => List.mem_append_right _ he⟩ rfl ?_
              refine Z.t 2 rfl rfl rfl (by rfl) (by kernel_rfl) ⟨_, hs, by first | (simp; done) | exact fun e he => List.mem_append_right _ he⟩ (Z.Yd.elem rfl rfl Try.underlying22 Try.sizeOf47 (fun hG => ⟨(by first | omega | (have hG' := Z.gh rfl hG; simp at hG'; omega)), (by first | omega | (have hG' := Z.gh rfl hG; simp at hG'; omega))⟩)) ?_
              refine Z.t 3 rfl rfl rfl (by rfl) (by kernel_rfl) ⟨_, hs, by first | (simp; done) | exact fun e he => List.mem_append_right _ he⟩ (Z.Yd.fieldA (m := 0) rfl (by kernel_rfl)) ?_
              refine Z.t 4 rfl rfl rfl (by rfl) (by kernel_rfl) ⟨_, hs, by first | (simp; done) | exact fun e he => List.mem_append_right _ he⟩ (Z.Yd.load rfl Try.isAgg3 (fun _ => Z.cellXf hx2.sx mp_len hxi rfl)) ?_
              refine Z.tb [5, 6] (by kernel_rfl) rfl ⟨_, hs, by first | (simp; done) | exact fun e he => List.mem_append_right _ he⟩ rfl ?_
              refine Z.t 7 rfl rfl rfl (by rfl) (by kernel_rfl) ⟨_, hs, by first | (simp; done) | exact fun e he => List.mem_append_right _ he⟩ (Z.Yd.elem rfl rfl Try.underlying22 Try.sizeOf47 (fun hG => ⟨(by first | omega | (have hG' := Z.gh rfl hG; simp at hG'; omega)), (by first | omega | (have hG' := Z.gh rfl hG; simp at hG'; omega))⟩)) ?_
              refine Z.t 8 rfl rfl rfl (by rfl) (by kernel_rfl) ⟨_, hs, by first | (simp; done) | exact fun e he => List.mem_append_right _ he⟩ (Z.Yd.fieldA (m := 0) rfl (by kernel_rfl)) ?_
              refine Z.t 9 rfl rfl rfl (by rfl) (by kernel_rfl) ⟨_, hs, by first | (simp; done) | exact fun e he => List.mem_append_right _ he⟩ (Z.Yd.load rfl Try.isAgg3 (fun _ => Z.cellXf hy2.sx mp_len hyi rfl)) ?_
              refine Z.tb [10, 11, 12, 13] (by kernel_rfl) rfl ⟨_, hs, by first | (simp; done) | exact fun e he => List.mem_append_right _ he⟩ rfl ?_
              refine Z.t 14 rfl rfl rfl (by rfl) (by kernel_rfl) ⟨_, hs, by first | (simp; done) | exact fun e he => List.mem_append_right _ he⟩ (Z.Yd.elem rfl rfl Try.underlying22 Try.sizeOf47 (fun hG => ⟨(by first | omega | (have hG' := Z.gh rfl hG; simp at hG'; omega)), (by first | omega | (have hG' := Z.gh rfl hG; simp at hG'; omega))⟩)) ?_
              refine Z.t 15 rfl rfl rfl (by rfl) (by kernel_rfl) ⟨_, hs, by first | (simp; done) | exact fun e he => List.mem_append_right _ he⟩ (Z.Yd.fieldA (m := 1) rfl (by kernel_rfl)) ?_
              refine Z.t 16 rfl rfl rfl (by rfl) (by kernel_rfl) ⟨_, hs, by first | (simp; done) | exact fun e he => List.mem_append_right _ he⟩ (Z.Yd.load rfl Try.isAgg26 (fun _ => Z.cellXf hx2.sx mp_len hxi rfl)) ?_
              refine Z.t 17 rfl rfl rfl (by rfl) (by kernel_rfl) ⟨_, hs, by first | (simp; done) | exact fun e he => List.mem_append_right _ he⟩ (Z.Yd.b2s rfl Try.underlying26 Try.underlying5 Try.underlying9 rfl (fun W hW => by obtain ⟨R, hR, _⟩ := hW; exact (hB x hxm).st hR)) ?_
              refine Z.tb [18, 19] (by kernel_rfl) rfl ⟨_, hs, by first | (simp; done) | exact fun e he => List.mem_append_right _ he⟩ rfl ?_
              refine Z.t 20 rfl rfl rfl (by rfl) (by kernel_rfl) ⟨_, hs, by first | (simp; done) | exact fun e he => List.mem_append_right _ he⟩ (Z.Yd.elem rfl rfl Try.underlying22 Try.sizeOf47 (fun hG => ⟨(by first | omega | (have hG' := Z.gh rfl hG; simp at hG'; omega)), (by first | omega | (have hG' := Z.gh rfl hG; simp at hG'; omega))⟩)) ?_
              refine Z.t 21 rfl rfl rfl (by rfl) (by kernel_rfl) ⟨_, hs, by first | (simp; done) | exact fun e he => List.mem_append_right _ he⟩ (Z.Yd.fieldA (m := 1) rfl (by kernel_rfl)) ?_
              refine Z.t 22 rfl rfl rfl (by rfl) (by kernel_rfl) ⟨_, hs, by first | (simp; done) | exact fun e he => List.mem_append_right _ he⟩ (Z.Yd.load rfl Try.isAgg26 (fun _ => Z.cellXf hy2.sx mp_len hyi rfl)) ?_
              refine Z.t 23 rfl rfl rfl (by rfl) (by kernel_rfl) ⟨_, hs, by first | (simp; done) | exact fun e he => List.mem_append_right _ he⟩ (Z.Yd.b2s rfl Try.underlying26 Try.underlying5 Try.underlying9 rfl (fun W hW => by obtain ⟨R, hR, _⟩ := hW; exact (hC y hym).st hR)) ?_
              refine Z.t 24 rfl rfl rfl (by rfl) (by kernel_rfl) ⟨_, hs, by first | (simp; done) | exact fun e he => List.mem_append_right _ he⟩ (Z.Yd.bin rfl rfl (by intro _ w; go_simp; try rfl)) ?_
              refine Z.tb [25] (by kernel_rfl) rfl ⟨_, hs, by first | (simp; done) | exact fun e he => List.mem_append_right _ he⟩ rfl ?_
              refine Z.td (by rfl) (by kernel_rfl) ?_
              refine Z.only [0, 1, 5, 42] rfl ?_
              refine Z.nthen ?_
              refine Z.cond rfl (fun hc6 => ?_) (fun hc6 => ?_)
              · first
                  | (exfalso; simp at hc6 <;> omega)
                  | (
                    (try simp at hc6)
                    refine Z.seq ?_
                    refine Z.region ?_
                    refine Z.lb 1 rfl ?_
                    refine Z.lnil ?_
                    refine Z.only [4] rfl ?_
                    refine Z.nthen ?_
                    refine Z.ret ?_
                    repeat (first | refine Z.rthen ?_ | refine Z.rblock ?_ | refine Z.rscope ?_)
                    -- ret#1
                    refine Z.out1 (by exact ⟨rfl, trivial⟩) ?_
                    refine ⟨_, rfl, ?_, hs.sub (List.nil_sublist _)⟩
                    first
                    | exact congrArg Value.bool (decide_eq_false (fun h => mp_ne (mp_at hxi) (mp_at hyi) (fun e => hc6.elim (fun k => k (congrArg Prod.fst e)) (fun k => k (congrArg Prod.snd e))) h)).symm
                    | exact congrArg Value.bool (decide_eq_true (by rwa [List.take_of_length_le (by simp; omega), List.take_of_length_le (by simp; omega)] at ht)).symm
                    | exact congrArg Value.bool (decide_eq_false (fun h => by have hlk := congrArg List.length h; simp at hlk; omega)).symm
                    )
              · first
                  | (exfalso; simp at hc6 <;> omega)
                  | (
                    (try simp at hc6)
                    refine Z.skip ?_
                    refine Z.nblock ?_
                    refine Z.nthen ?_
                    refine Z.region ?_
                    refine Z.lb 1 rfl ?_
                    refine Z.l rfl rfl (by rfl) (Z.keepS hs) (Z.Yd.add rfl rfl (fun hG => Z.wi64 (by first | omega | (have hG' := Z.gh rfl hG; simp at hG'; omega)))) ?_
                    refine Z.lb 1 rfl ?_
                    refine Z.lnil ?_
                    refine Z.only [0, 1, 5] rfl ?_
                    refine Z.nthen ?_
                    exact Z.again (i + 1) (by refine ⟨?_, ?_, ?_, trivial⟩ <;> (first | rfl | (refine Z.lookv rfl ?_; simp; done) | (refine Z.lookv rfl ?_; simp; omega))) ⟨⟨by omega, hnm, by rw [plain_take hxi, plain_take hyi, ht, show x.plain = y.plain from Prod.ext hc6.1 hc6.2]⟩, hs⟩ (by omega)
                    )
              )
        · first
            | (exfalso; simp at hc4 <;> omega)
            | (
              (try simp at hc4)
              refine Z.exit ?_
              refine Z.xthen ?_
              refine Z.xthen ?_
              refine Z.xblock ?_
              refine Z.nthen ?_
              refine Z.seq ?_
              refine Z.region ?_
              refine Z.lb 1 rfl ?_
              refine Z.lnil ?_
              refine Z.only [4] rfl ?_
              refine Z.nthen ?_
              refine Z.ret ?_
              -- ret#2
              refine Z.out1 (by exact ⟨rfl, trivial⟩) ?_
              refine ⟨_, rfl, ?_, hs.sub (List.nil_sublist _)⟩
              first
              | exact congrArg Value.bool (decide_eq_false (fun h => mp_ne (mp_at hxi) (mp_at hyi) (fun e => hc6.elim (fun k => k (congrArg Prod.fst e)) (fun k => k (congrArg Prod.snd e))) h)).symm
              | exact congrArg Value.bool (decide_eq_true (by rwa [List.take_of_length_le (by simp; omega), List.take_of_length_le (by simp; omega)] at ht)).symm
              | exact congrArg Value.bool (decide_eq_false (fun h => by have hlk := congrArg List.length h; simp at hlk; omega)).symm
              )
        )
theorem num23 (e : Int) (w : World) : Calls Try.prog 24 #[.int .i64 e] w (SX.Ret fun v w' => v = .int .i64 e ∧ SX.St w [] w' []) := by
  have hs := SX.St.start w
  refine Z.enter Try.func24 rfl Try.ntmps24 rfl rfl ?_
  refine Z.seq ?_
  refine Z.region ?_
  refine Z.lb 1 rfl ?_
  refine Z.lnil ?_
  refine Z.only [0] rfl ?_
  refine Z.nthen ?_
  refine Z.seq ?_
  refine Z.region ?_
  refine Z.lb 2 rfl ?_
  refine Z.lnil ?_
  refine Z.only [2] rfl ?_
  refine Z.nthen ?_
  refine Z.ret ?_
  -- ret#0
  refine Z.out1 (by exact ⟨rfl, trivial⟩) ?_
  first | exact ⟨_, rfl, rfl, hs⟩ | exact ⟨_, rfl, rfl, hs.sub (List.nil_sublist _)⟩
theorem counts23 (n e want no : Int) (w : World) : Calls Try.prog 17 #[.int .i64 n, .int .i64 e, .int .i64 want, .int .i64 no] w (SX.Ret fun v w' => v = .bool (decide (n = want ∧ e = no)) ∧ SX.St w [] w' []) := by
  have hs := SX.St.start w
  refine Z.enter Try.func17 rfl Try.ntmps17 rfl rfl ?_
  refine Z.seq ?_
  refine Z.region ?_
  refine Z.lb 1 rfl ?_
  refine Z.lnil ?_
  refine Z.only [0, 1, 2, 3] rfl ?_
  refine Z.nthen ?_
  refine Z.seq ?_
  refine Z.region ?_
  refine Z.lb 4 rfl ?_
  refine Z.split (s := 12) rfl (fun hsp12 => ?_) (fun hsp12 => ?_)
  · first
      | (exfalso; simp at hsp12 <;> omega)
      | (
        refine Z.yes (s := 12) (b := true) rfl hsp12 rfl ?_
        (try simp at hsp12)
        refine Z.lb 1 rfl ?_
        refine Z.yes (s := 12) (b := true) rfl rfl rfl ?_
        refine Z.le rfl (by exact ⟨rfl, trivial⟩) ?_
        refine Z.ZO.call rfl rfl (by rfl) rfl rfl Try.call24 rfl (num23 _ _) ?_
        rintro v1_5 w1_5 ⟨rfl, hy⟩
        replace hs := hs.call hy
        clear hy
        try simp only [List.cons_append, List.nil_append, List.append_nil] at hs
        refine Z.lb 2 rfl ?_
        refine Z.yes (s := 12) (b := true) rfl rfl rfl ?_
        refine Z.l rfl rfl (by rfl) (Z.keepS hs) (Z.Yd.pickT rfl rfl) ?_
        refine Z.lb 1 rfl ?_
        refine Z.lnil ?_
        refine Z.only [8] rfl ?_
        refine Z.nthen ?_
        refine Z.ret ?_
        -- ret#0
        refine Z.out1 (by exact ⟨rfl, trivial⟩) ?_
        exact ⟨_, rfl, by simp_all <;> rfl, hs⟩
        )
  · first
      | (exfalso; simp at hsp12 <;> omega)
      | (
        refine Z.yes (s := 12) (b := false) rfl hsp12 rfl ?_
        (try simp at hsp12)
        refine Z.ls rfl rfl rfl (by rfl) ?_
        refine Z.ls rfl rfl rfl (by rfl) ?_
        refine Z.ls rfl rfl rfl (by rfl) ?_
        refine Z.ls rfl rfl rfl (by rfl) ?_
        refine Z.l rfl rfl (by rfl) (Z.keepS hs) (Z.Yd.pickF rfl rfl) ?_
        refine Z.lb 1 rfl ?_
        refine Z.lnil ?_
        refine Z.only [8] rfl ?_
        refine Z.nthen ?_
        refine Z.ret ?_
        -- ret#1
        refine Z.out1 (by exact ⟨rfl, trivial⟩) ?_
        exact ⟨_, rfl, by simp_all <;> rfl, hs⟩
        )
theorem is23 (e no : Int) (A : Option Addr) (n c : Nat) (l : List Int) (s : ByteArray) (w : World) (hx : Sl w A (ints .u8 l)) (hl : l.length = n) :
    Calls Try.prog 16 #[.slice A n c, .int .i64 e, .string s, .int .i64 no] w (SX.Ret fun v w' => v = .bool (((Z.strOf l).toList == s.toList) && decide (e = no)) ∧ SX.St w [] w' []) := by
  have hs := SX.St.start w
  refine Z.enter Try.func16 rfl Try.ntmps16 rfl rfl ?_
  refine Z.seq ?_
  refine Z.region ?_
  refine Z.lb 1 rfl ?_
  refine Z.lnil ?_
  refine Z.only [0, 1, 2, 3] rfl ?_
  refine Z.nthen ?_
  refine Z.seq ?_
  refine Z.region ?_
  refine Z.lb 1 rfl ?_
  refine Z.l rfl rfl (by rfl) (Z.keepS hs) (Z.Yd.b2s rfl Try.underlying26 Try.underlying5 Try.underlying9 hl (fun W hW => by obtain ⟨R, hR, _⟩ := hW; exact hx.st hR)) ?_
  refine Z.lb 1 rfl ?_
  refine Z.l rfl rfl (by rfl) (Z.keepS hs) (Z.Yd.strEq rfl rfl) ?_
  refine Z.lb 1 rfl ?_
  refine Z.split (s := 13) rfl (fun hsp13 => ?_) (fun hsp13 => ?_)
  · first
      | (exfalso; simp at hsp13 <;> omega)
      | (
        refine Z.yes (s := 13) (b := true) rfl hsp13 rfl ?_
        (try simp at hsp13)
        refine Z.lb 1 rfl ?_
        refine Z.yes (s := 13) (b := true) rfl rfl rfl ?_
        refine Z.le rfl (by exact ⟨rfl, trivial⟩) ?_
        refine Z.ZO.call rfl rfl (by rfl) rfl rfl Try.call24 rfl (num23 _ _) ?_
        rintro v1_6 w1_6 ⟨rfl, hy⟩
        replace hs := hs.call hy
        clear hy
        try simp only [List.cons_append, List.nil_append, List.append_nil] at hs
        refine Z.lb 2 rfl ?_
        refine Z.yes (s := 13) (b := true) rfl rfl rfl ?_
        refine Z.l rfl rfl (by rfl) (Z.keepS hs) (Z.Yd.pickT rfl rfl) ?_
        refine Z.lb 1 rfl ?_
        refine Z.lnil ?_
        refine Z.only [8] rfl ?_
        refine Z.nthen ?_
        refine Z.ret ?_
        -- ret#0
        refine Z.out1 (by exact ⟨rfl, trivial⟩) ?_
        exact ⟨_, rfl, by simp_all <;> rfl, hs.sub (List.nil_sublist _)⟩
        )
  · first
      | (exfalso; simp at hsp13 <;> omega)
      | (
        refine Z.yes (s := 13) (b := false) rfl hsp13 rfl ?_
        (try simp at hsp13)
        refine Z.ls rfl rfl rfl (by rfl) ?_
        refine Z.ls rfl rfl rfl (by rfl) ?_
        refine Z.ls rfl rfl rfl (by rfl) ?_
        refine Z.ls rfl rfl rfl (by rfl) ?_
        refine Z.l rfl rfl (by rfl) (Z.keepS hs) (Z.Yd.pickF rfl rfl) ?_
        refine Z.lb 1 rfl ?_
        refine Z.lnil ?_
        refine Z.only [8] rfl ?_
        refine Z.nthen ?_
        refine Z.ret ?_
        -- ret#1
        refine Z.out1 (by exact ⟨rfl, trivial⟩) ?_
        exact ⟨_, rfl, by simp_all <;> rfl, hs.sub (List.nil_sublist _)⟩
        )
/-- at most 12 parts of at most 300 bytes -/
def smallP (r : List Prt) : Bool := decide (r.length ≤ 12) && r.all fun p => decide (p.2.length ≤ 300)
theorem small23 (A : Option Addr) (n c : Nat) (ps : List MpV) (w : World) (hx : Sl w A (ps.flatMap MpV.cells)) (hl : ps.length = n) (hn : n ≤ 9223372036854775807) :
    Calls Try.prog 9 #[.slice A n c] w (SX.Ret fun v w' => v = .bool (smallP (ps.map MpV.plain)) ∧ SX.St w [] w' []) := by
  have hs := SX.St.start w
  refine Z.enter Try.func9 rfl Try.ntmps9 rfl rfl ?_
  refine Z.seq ?_
  refine Z.region ?_
  refine Z.lb 1 rfl ?_
  refine Z.lnil ?_
  refine Z.only [0] rfl ?_
  refine Z.nthen ?_
  refine Z.seq ?_
  refine Z.seq ?_
  refine Z.region ?_
  refine Z.lb 1 rfl ?_
  refine Z.l rfl rfl (by rfl) (Z.keepS hs) (Z.Yd.lenS rfl Try.underlying22) ?_
  refine Z.lb 1 rfl ?_
  refine Z.lnil ?_
  refine Z.only [0, 6] rfl ?_
  refine Z.nthen ?_
  refine Z.cond rfl (fun hc1 => ?_) (fun hc1 => ?_)
  · first
      | (exfalso; simp at hc1 <;> omega)
      | (
        (try simp at hc1)
        refine Z.seq ?_
        refine Z.region ?_
        refine Z.lb 1 rfl ?_
        refine Z.lnil ?_
        refine Z.only [2] rfl ?_
        refine Z.nthen ?_
        refine Z.ret ?_
        repeat (first | refine Z.rthen ?_ | refine Z.rblock ?_ | refine Z.rscope ?_)
        -- ret#0
        refine Z.out1 (by exact ⟨rfl, trivial⟩) ?_
        refine ⟨_, rfl, ?_, hs⟩
        first
        | (rw [show smallP (ps.map MpV.plain) = false from by rw [Bool.eq_false_iff]; intro hh; simp only [smallP, Bool.and_eq_true, decide_eq_true_eq, List.all_eq_true] at hh; have h2 := hh.2 x.plain (List.mem_map_of_mem (List.mem_of_getElem? hxi)); have h3 : x.l.length ≤ 300 := h2; omega])
        | (rw [show smallP (ps.map MpV.plain) = false from by rw [Bool.eq_false_iff]; intro hh; simp only [smallP, Bool.and_eq_true, decide_eq_true_eq, List.all_eq_true] at hh; have h2 := hh.1; simp at h2; omega])
        | (rw [List.take_of_length_le (by simp; omega)] at ha
           rw [show smallP (ps.map MpV.plain) = true from by simp only [smallP, Bool.and_eq_true, decide_eq_true_eq, List.all_eq_true]; exact ⟨by simp; omega, ha⟩])
        )
  · first
      | (exfalso; simp at hc1 <;> omega)
      | (
        (try simp at hc1)
        refine Z.skip ?_
        refine Z.nthen ?_
        refine Z.seq ?_
        refine Z.seq ?_
        refine Z.region ?_
        refine Z.lb 1 rfl ?_
        refine Z.lnil ?_
        refine Z.only [0, 3] rfl ?_
        refine Z.nthen ?_
        refine Z.block ?_
        refine Z.loopk (ι := Nat) [0] rfl (fun i => [(3, [], .int .i64 (i : Int))]) (fun i wr => (i ≤ n ∧ n ≤ 12 ∧ ∀ p ∈ (ps.map MpV.plain).take i, p.2.length ≤ 300) ∧ SX.St w [] wr []) (fun i => n - i) 0 (by refine ⟨?_, trivial⟩ <;> (first | rfl | (refine Z.lookv rfl ?_; simp; done) | (refine Z.lookv rfl ?_; simp; omega))) ⟨⟨by omega, by omega, by simp⟩, hs⟩ ?_
        clear hs
        rintro i w4 ⟨⟨hi, hn12, ha⟩, hs⟩
        refine Z.only [0, 3] rfl ?_
        refine Z.seq ?_
        refine Z.seq ?_
        refine Z.region ?_
        refine Z.lb 2 rfl ?_
        refine Z.l rfl rfl (by rfl) (Z.keepS hs) (Z.Yd.lenS rfl Try.underlying22) ?_
        refine Z.lb 1 rfl ?_
        refine Z.lnil ?_
        refine Z.only [0, 3, 10] rfl ?_
        refine Z.nthen ?_
        refine Z.cond rfl (fun hc4 => ?_) (fun hc4 => ?_)
        · first
            | (exfalso; simp at hc4 <;> omega)
            | (
              (try simp at hc4)
              obtain ⟨b, off, rfl, hb0, hx2⟩ := Z.Sl.some hx (by rw [fl_len mp_len]; omega)
              obtain ⟨x, hxi⟩ : ∃ f, ps[i]? = some f := ⟨_, List.getElem?_eq_getElem (by omega)⟩
              refine Z.skip ?_
              refine Z.nthen ?_
              refine Z.seq ?_
              refine Z.block ?_
              refine Z.seq ?_
              refine Z.region ?_
              refine Z.lb 2 rfl ?_
              refine Z.l rfl rfl (by rfl) (Z.keepS hs) (Z.Yd.elem rfl rfl Try.underlying22 Try.sizeOf47 (fun hG => ⟨(by first | omega | (have hG' := Z.gh rfl hG; simp at hG'; omega)), (by first | omega | (have hG' := Z.gh rfl hG; simp at hG'; omega))⟩)) ?_
              refine Z.l rfl rfl (by rfl) (Z.keepS hs) (Z.Yd.fieldA (m := 1) rfl (by kernel_rfl)) ?_
              refine Z.l rfl rfl (by rfl) (Z.keepS hs) (Z.Yd.load rfl Try.isAgg26 (fun _ => Z.cellXf hx2.sx mp_len hxi rfl)) ?_
              refine Z.l rfl rfl (by rfl) (Z.keepS hs) (Z.Yd.lenS rfl Try.underlying26) ?_
              refine Z.lb 1 rfl ?_
              refine Z.lnil ?_
              refine Z.only [0, 3, 19] rfl ?_
              refine Z.nthen ?_
              refine Z.cond rfl (fun hc6 => ?_) (fun hc6 => ?_)
              · first
                  | (exfalso; simp at hc6 <;> omega)
                  | (
                    (try simp at hc6)
                    refine Z.seq ?_
                    refine Z.region ?_
                    refine Z.lb 1 rfl ?_
                    refine Z.lnil ?_
                    refine Z.only [2] rfl ?_
                    refine Z.nthen ?_
                    refine Z.ret ?_
                    repeat (first | refine Z.rthen ?_ | refine Z.rblock ?_ | refine Z.rscope ?_)
                    -- ret#1
                    refine Z.out1 (by exact ⟨rfl, trivial⟩) ?_
                    refine ⟨_, rfl, ?_, hs⟩
                    first
                    | (rw [show smallP (ps.map MpV.plain) = false from by rw [Bool.eq_false_iff]; intro hh; simp only [smallP, Bool.and_eq_true, decide_eq_true_eq, List.all_eq_true] at hh; have h2 := hh.2 x.plain (List.mem_map_of_mem (List.mem_of_getElem? hxi)); have h3 : x.l.length ≤ 300 := h2; omega])
                    | (rw [show smallP (ps.map MpV.plain) = false from by rw [Bool.eq_false_iff]; intro hh; simp only [smallP, Bool.and_eq_true, decide_eq_true_eq, List.all_eq_true] at hh; have h2 := hh.1; simp at h2; omega])
                    | (rw [List.take_of_length_le (by simp; omega)] at ha
                       rw [show smallP (ps.map MpV.plain) = true from by simp only [smallP, Bool.and_eq_true, decide_eq_true_eq, List.all_eq_true]; exact ⟨by simp; omega, ha⟩])
                    )
              · first
                  | (exfalso; simp at hc6 <;> omega)
                  | (
                    (try simp at hc6)
                    refine Z.skip ?_
                    refine Z.nblock ?_
                    refine Z.nthen ?_
                    refine Z.region ?_
                    refine Z.lb 1 rfl ?_
                    refine Z.l rfl rfl (by rfl) (Z.keepS hs) (Z.Yd.add rfl rfl (fun hG => Z.wi64 (by first | omega | (have hG' := Z.gh rfl hG; simp at hG'; omega)))) ?_
                    refine Z.lb 1 rfl ?_
                    refine Z.lnil ?_
                    refine Z.only [0, 3] rfl ?_
                    refine Z.nthen ?_
                    exact Z.again (i + 1) (by refine ⟨?_, ?_, trivial⟩ <;> (first | rfl | (refine Z.lookv rfl ?_; simp; done) | (refine Z.lookv rfl ?_; simp; omega))) ⟨⟨by omega, hn12, by rw [plain_take hxi]; intro p hp; rcases List.mem_append.1 hp with h | h; exact ha p h; (obtain rfl : p = _ := by simpa using h); show x.l.length ≤ 300; omega⟩, hs⟩ (by omega)
                    )
              )
        · first
            | (exfalso; simp at hc4 <;> omega)
            | (
              (try simp at hc4)
              refine Z.exit ?_
              refine Z.xthen ?_
              refine Z.xthen ?_
              refine Z.xblock ?_
              refine Z.nthen ?_
              refine Z.seq ?_
              refine Z.region ?_
              refine Z.lb 1 rfl ?_
              refine Z.lnil ?_
              refine Z.only [2] rfl ?_
              refine Z.nthen ?_
              refine Z.ret ?_
              -- ret#2
              refine Z.out1 (by exact ⟨rfl, trivial⟩) ?_
              refine ⟨_, rfl, ?_, hs⟩
              first
              | (rw [show smallP (ps.map MpV.plain) = false from by rw [Bool.eq_false_iff]; intro hh; simp only [smallP, Bool.and_eq_true, decide_eq_true_eq, List.all_eq_true] at hh; have h2 := hh.2 x.plain (List.mem_map_of_mem (List.mem_of_getElem? hxi)); have h3 : x.l.length ≤ 300 := h2; omega])
              | (rw [show smallP (ps.map MpV.plain) = false from by rw [Bool.eq_false_iff]; intro hh; simp only [smallP, Bool.and_eq_true, decide_eq_true_eq, List.all_eq_true] at hh; have h2 := hh.1; simp at h2; omega])
              | (rw [List.take_of_length_le (by simp; omega)] at ha
                 rw [show smallP (ps.map MpV.plain) = true from by simp only [smallP, Bool.and_eq_true, decide_eq_true_eq, List.all_eq_true]; exact ⟨by simp; omega, ha⟩])
              )
        )
theorem fails23 (no : Int) (s : ByteArray) (l : List Int) (w : World) (hl : s.data.toList.map (fun b => (b.toNat : Int)) = l) (hn : l.length ≤ 100000) (hp : parV l = (no, [])) (hno : no ≠ 0) :
    Calls Try.prog 28 #[.string s, .int .i64 no] w (SX.Ret fun v w' => v = .bool true ∧ SX.St w [] w' []) := by
  have hs := SX.St.start w
  have hb : ∀ x ∈ l, 0 ≤ x ∧ x < 256 := by
    intro x hx
    rw [← hl] at hx
    obtain ⟨b, -, rfl⟩ := List.mem_map.1 hx
    have := b.toNat_lt
    omega
  refine Z.enter Try.func28 rfl Try.ntmps28 rfl rfl ?_
  refine Z.seq ?_
  refine Z.region ?_
  refine Z.lb 1 rfl ?_
  refine Z.lnil ?_
  refine Z.only [0, 1] rfl ?_
  refine Z.nthen ?_
  refine Z.seq ?_
  refine Z.region ?_
  refine Z.lb 1 rfl ?_
  refine Z.le rfl trivial ?_
  refine Z.ZO.s2b rfl rfl (by rfl) hs rfl Try.underlying9 Try.underlying26 Try.underlying5 l hl ?_
  clear hs; intro g9 c9 w9 hs hsl
  refine Z.le rfl trivial ?_
  refine Z.ZO.call rfl rfl (by rfl) rfl rfl Try.call23 rfl (mc_Parse _ _ _ l _ hsl rfl hn hb) ?_
  rintro v1_2 w1_2 ⟨qs, sv, rfl, hpq, hy⟩
  replace hs := hs.call hy
  clear hy
  try simp only [List.cons_append, List.nil_append, List.append_nil] at hs
  rw [hp]
  rw [hp] at hpq
  obtain rfl : qs = [] := by simpa [plainQ] using hpq
  obtain ⟨Av, cv, rfl, -, -, -⟩ := SX.row_slv hs (j := 0) rfl
  refine Z.lb 5 rfl ?_
  refine Z.lnil ?_
  refine Z.only [1, 5, 6] rfl ?_
  refine Z.nthen ?_
  refine Z.seq ?_
  refine Z.region ?_
  refine Z.lb 1 rfl ?_
  refine Z.l rfl rfl (by rfl) (Z.keepS hs) (Z.Yd.lenS rfl Try.underlying22) ?_
  refine Z.lb 2 rfl ?_
  refine Z.yes (s := 16) (b := true) rfl ((by simp)) rfl ?_
  refine Z.lb 1 rfl ?_
  refine Z.yes (s := 16) (b := true) rfl rfl rfl ?_
  refine Z.le rfl (by exact ⟨rfl, trivial⟩) ?_
  refine Z.ZO.call rfl rfl (by rfl) rfl rfl Try.call24 rfl (num23 _ _) ?_
  rintro v2_5 w2_5 ⟨rfl, hy⟩
  replace hs := hs.call hy
  clear hy
  try simp only [List.cons_append, List.nil_append, List.append_nil] at hs
  refine Z.lb 2 rfl ?_
  refine Z.yes (s := 16) (b := true) rfl rfl rfl ?_
  refine Z.l rfl rfl (by rfl) (Z.keepS hs) (Z.Yd.pickT rfl rfl) ?_
  refine Z.lb 1 rfl ?_
  refine Z.lnil ?_
  refine Z.only [4] rfl ?_
  refine Z.nthen ?_
  refine Z.ret ?_
  -- ret#0
  refine Z.out1 (by exact ⟨rfl, trivial⟩) ?_
  exact ⟨_, rfl, by simp, hs.sub (List.nil_sublist _)⟩
end Go.Proofs.Ytogjkgoiofngaaa

/- MAC PDUs: Build. -/
namespace Go.Proofs.Ytogjkgoiofngaaa
open Go.RowKit
set_option linter.unusedSimpArgs false
set_option linter.unusedVariables false
--newlaws

set_option maxRecDepth 100000 in
theorem mb_size (size : Int) (A : Option Addr) (n c : Nat) (w : World) (h : ¬ (1 ≤ size ∧ size ≤ 16384)) :
    Calls Try.prog 12 #[.int .i64 size, .slice A n c] w (SX.Ret fun v w' => v = .tuple #[.slice none 0 0, .int .i64 2] ∧ SX.St w [] w' []) := by
  have hs := SX.St.start w
  refine Z.enterD Try.func12 rfl Try.ntmps12 rfl rfl ?_
  refine Z.seq ?_
  refine Z.region ?_
  refine Z.le rfl trivial ?_
  refine Z.ZO.alloc rfl rfl (by rfl) Try.zeroValue26 rfl hs ?_
  clear hs; intro g4 w4 hs
  refine Z.le rfl trivial ?_
  refine Z.ZO.alloc rfl rfl (by rfl) Try.zeroValue27 rfl hs ?_
  clear hs; intro g5 w5 hs
  refine Z.lnil ?_
  refine Z.only [0, 1, 4, 5] rfl ?_
  refine Z.nthen ?_
  refine Z.seq ?_
  refine Z.region ?_
  refine Z.lb 1 rfl ?_
  refine Z.le rfl trivial ?_
  refine Z.ZO.defer rfl rfl rfl rfl ?_
  refine Z.lnil ?_
  refine Z.only [0, 1, 4, 5] rfl ?_
  refine Z.nthen ?_
  refine Z.seq ?_
  refine Z.region ?_
  refine Z.lb 6 rfl ?_
  refine Z.le rfl trivial ?_
  refine Z.ZO.callP rfl rfl rfl Try.call31 rfl (mm_must_bad _ 2 _ (by simp; omega)) ?_
  rintro c2_6 w2_6 ⟨rfl, hy⟩
  replace hs := hs.call hy
  clear hy
  try simp only [List.cons_append, List.nil_append, List.append_nil] at hs
  replace hs := hs.sel [0, 1] (by decide)
  repeat (first | refine Z.pthen ?_ | refine Z.pblock ?_ | refine Z.pscope ?_)
  -- ret#0
  refine Z.outDp Try.call29 (mm_caught_pan g5 _ _ _ _ _ [SX.Ent.blk g4 _ _] _ _ (hs.lend (L2 := [])) Try.call30 (fun W hW ↦ mm_clearB g4 _ _ W hW)) ?_
  rintro vD wD ⟨rfl, hz⟩
  replace hs := hs.regain (L2 := []) hz
  refine ⟨[_, _], (by exact ⟨⟨_, rfl, Z.rvc hs Try.isAgg26 (by first | ((repeat (first | exact List.mem_cons_self | refine List.mem_cons_of_mem _ ?_ | refine List.mem_append_right _ ?_)); done) | fail) rfl⟩, ⟨_, rfl, Z.rvc hs Try.isAgg27 (by first | ((repeat (first | exact List.mem_cons_self | refine List.mem_cons_of_mem _ ?_ | refine List.mem_append_right _ ?_)); done) | fail) rfl⟩, trivial⟩), ?_⟩
  exact ⟨_, rfl, rfl, hs.sub (List.nil_sublist _)⟩
set_option maxRecDepth 100000 in
theorem mb_need (size : Int) (A : Option Addr) (n c : Nat) (ps : List MpV) (w : World) (hx : Sl w A (ps.flatMap MpV.cells)) (hl : ps.length = n) (hn : n ≤ 100) (hf : ∀ q ∈ ps, q.l.length ≤ 100000) (h : 1 ≤ size ∧ size ≤ 16384) (hno : ¬ okN (ps.map MpV.plain)) :
    Calls Try.prog 12 #[.int .i64 size, .slice A n c] w (SX.Ret fun v w' => v = .tuple #[.slice none 0 0, .int .i64 2] ∧ SX.St w [] w' []) := by
  have hs := SX.St.start w
  have hnv : needV (ps.map MpV.plain) = (0, 2) := if_neg hno
  refine Z.enterD Try.func12 rfl Try.ntmps12 rfl rfl ?_
  refine Z.seq ?_
  refine Z.region ?_
  refine Z.le rfl trivial ?_
  refine Z.ZO.alloc rfl rfl (by rfl) Try.zeroValue26 rfl hs ?_
  clear hs; intro g4 w4 hs
  refine Z.le rfl trivial ?_
  refine Z.ZO.alloc rfl rfl (by rfl) Try.zeroValue27 rfl hs ?_
  clear hs; intro g5 w5 hs
  refine Z.lnil ?_
  refine Z.only [0, 1, 4, 5] rfl ?_
  refine Z.nthen ?_
  refine Z.seq ?_
  refine Z.region ?_
  refine Z.lb 1 rfl ?_
  refine Z.le rfl trivial ?_
  refine Z.ZO.defer rfl rfl rfl rfl ?_
  refine Z.lnil ?_
  refine Z.only [0, 1, 4, 5] rfl ?_
  refine Z.nthen ?_
  refine Z.seq ?_
  refine Z.region ?_
  refine Z.lb 6 rfl ?_
  refine Z.le rfl trivial ?_
  refine Z.ZO.call rfl rfl (by rfl) rfl rfl Try.call31 rfl (mm_must_ok _ 2 _ (by simp; omega)) ?_
  rintro v2_6 w2_6 ⟨rfl, hy⟩
  replace hs := hs.call hy
  clear hy
  try simp only [List.cons_append, List.nil_append, List.append_nil] at hs
  refine Z.lnil ?_
  refine Z.only [0, 1, 4, 5] rfl ?_
  refine Z.nthen ?_
  refine Z.seq ?_
  refine Z.region ?_
  refine Z.lb 2 rfl ?_
  refine Z.le rfl trivial ?_
  refine Z.ZO.call rfl rfl (by rfl) rfl rfl Try.call14 rfl (mc_Need A n c ps _ (hx.st (hs.sub (List.nil_sublist _))) hl (by omega) hf) ?_
  rintro v3_2 w3_2 ⟨rfl, hy⟩
  replace hs := hs.call hy
  clear hy
  try simp only [List.cons_append, List.nil_append, List.append_nil] at hs
  rw [hnv]
  refine Z.lb 2 rfl ?_
  refine Z.le rfl trivial ?_
  refine Z.ZO.callP rfl rfl rfl Try.call32 rfl (mm_goti_bad _ 2 _ (by decide)) ?_
  rintro c3_5 w3_5 ⟨rfl, hy⟩
  replace hs := hs.call hy
  clear hy
  try simp only [List.cons_append, List.nil_append, List.append_nil] at hs
  replace hs := hs.sel [0, 1] (by decide)
  repeat (first | refine Z.pthen ?_ | refine Z.pblock ?_ | refine Z.pscope ?_)
  -- ret#0
  refine Z.outDp Try.call29 (mm_caught_pan g5 _ _ _ _ _ [SX.Ent.blk g4 _ _] _ _ (hs.lend (L2 := [])) Try.call30 (fun W hW ↦ mm_clearB g4 _ _ W hW)) ?_
  rintro vD wD ⟨rfl, hz⟩
  replace hs := hs.regain (L2 := []) hz
  refine ⟨[_, _], (by exact ⟨⟨_, rfl, Z.rvc hs Try.isAgg26 (by first | ((repeat (first | exact List.mem_cons_self | refine List.mem_cons_of_mem _ ?_ | refine List.mem_append_right _ ?_)); done) | fail) rfl⟩, ⟨_, rfl, Z.rvc hs Try.isAgg27 (by first | ((repeat (first | exact List.mem_cons_self | refine List.mem_cons_of_mem _ ?_ | refine List.mem_append_right _ ?_)); done) | fail) rfl⟩, trivial⟩), ?_⟩
  exact ⟨_, rfl, rfl, hs.sub (List.nil_sublist _)⟩
set_option maxRecDepth 100000 in
theorem mb_long (size : Int) (A : Option Addr) (n c : Nat) (ps : List MpV) (w : World) (hx : Sl w A (ps.flatMap MpV.cells)) (hl : ps.length = n) (hn : n ≤ 100) (hf : ∀ q ∈ ps, q.l.length ≤ 100000) (h : 1 ≤ size ∧ size ≤ 16384) (hno : okN (ps.map MpV.plain)) (hd : size - needP (ps.map MpV.plain) < 0) :
    Calls Try.prog 12 #[.int .i64 size, .slice A n c] w (SX.Ret fun v w' => v = .tuple #[.slice none 0 0, .int .i64 4] ∧ SX.St w [] w' []) := by
  have hs := SX.St.start w
  have hbd := totP_bd hf
  have hnt := need_tot (ps.map MpV.plain)
  have hnv : needV (ps.map MpV.plain) = (needP (ps.map MpV.plain), 0) := if_pos hno
  refine Z.enterD Try.func12 rfl Try.ntmps12 rfl rfl ?_
  refine Z.seq ?_
  refine Z.region ?_
  refine Z.le rfl trivial ?_
  refine Z.ZO.alloc rfl rfl (by rfl) Try.zeroValue26 rfl hs ?_
  clear hs; intro g4 w4 hs
  refine Z.le rfl trivial ?_
  refine Z.ZO.alloc rfl rfl (by rfl) Try.zeroValue27 rfl hs ?_
  clear hs; intro g5 w5 hs
  refine Z.lnil ?_
  refine Z.only [0, 1, 4, 5] rfl ?_
  refine Z.nthen ?_
  refine Z.seq ?_
  refine Z.region ?_
  refine Z.lb 1 rfl ?_
  refine Z.le rfl trivial ?_
  refine Z.ZO.defer rfl rfl rfl rfl ?_
  refine Z.lnil ?_
  refine Z.only [0, 1, 4, 5] rfl ?_
  refine Z.nthen ?_
  refine Z.seq ?_
  refine Z.region ?_
  refine Z.lb 6 rfl ?_
  refine Z.le rfl trivial ?_
  refine Z.ZO.call rfl rfl (by rfl) rfl rfl Try.call31 rfl (mm_must_ok _ 2 _ (by simp; omega)) ?_
  rintro v2_6 w2_6 ⟨rfl, hy⟩
  replace hs := hs.call hy
  clear hy
  try simp only [List.cons_append, List.nil_append, List.append_nil] at hs
  refine Z.lnil ?_
  refine Z.only [0, 1, 4, 5] rfl ?_
  refine Z.nthen ?_
  refine Z.seq ?_
  refine Z.region ?_
  refine Z.lb 2 rfl ?_
  refine Z.le rfl trivial ?_
  refine Z.ZO.call rfl rfl (by rfl) rfl rfl Try.call14 rfl (mc_Need A n c ps _ (hx.st (hs.sub (List.nil_sublist _))) hl (by omega) hf) ?_
  rintro v3_2 w3_2 ⟨rfl, hy⟩
  replace hs := hs.call hy
  clear hy
  try simp only [List.cons_append, List.nil_append, List.append_nil] at hs
  rw [hnv]
  refine Z.lb 2 rfl ?_
  refine Z.le rfl trivial ?_
  refine Z.ZO.call rfl rfl (by rfl) rfl rfl Try.call32 rfl (mm_goti_ok _ _) ?_
  rintro v3_5 w3_5 ⟨rfl, hy⟩
  replace hs := hs.call hy
  clear hy
  try simp only [List.cons_append, List.nil_append, List.append_nil] at hs
  refine Z.l rfl rfl (by rfl) (Z.keepS hs) (Z.Yd.sub rfl rfl (fun hG => Z.wi64 (by first | omega | (have hG' := Z.gh rfl hG; simp at hG'; omega)))) ?_
  refine Z.lb 1 rfl ?_
  refine Z.lnil ?_
  refine Z.only [0, 1, 4, 5, 6] rfl ?_
  refine Z.nthen ?_
  refine Z.seq ?_
  refine Z.region ?_
  refine Z.lb 2 rfl ?_
  refine Z.le rfl trivial ?_
  refine Z.ZO.callP rfl rfl rfl Try.call31 rfl (mm_must_bad _ 4 _ (by simp; omega)) ?_
  rintro c4_2 w4_2 ⟨rfl, hy⟩
  replace hs := hs.call hy
  clear hy
  try simp only [List.cons_append, List.nil_append, List.append_nil] at hs
  replace hs := hs.sel [0, 1] (by decide)
  repeat (first | refine Z.pthen ?_ | refine Z.pblock ?_ | refine Z.pscope ?_)
  -- ret#0
  refine Z.outDp Try.call29 (mm_caught_pan g5 _ _ _ _ _ [SX.Ent.blk g4 _ _] _ _ (hs.lend (L2 := [])) Try.call30 (fun W hW ↦ mm_clearB g4 _ _ W hW)) ?_
  rintro vD wD ⟨rfl, hz⟩
  replace hs := hs.regain (L2 := []) hz
  refine ⟨[_, _], (by exact ⟨⟨_, rfl, Z.rvc hs Try.isAgg26 (by first | ((repeat (first | exact List.mem_cons_self | refine List.mem_cons_of_mem _ ?_ | refine List.mem_append_right _ ?_)); done) | fail) rfl⟩, ⟨_, rfl, Z.rvc hs Try.isAgg27 (by first | ((repeat (first | exact List.mem_cons_self | refine List.mem_cons_of_mem _ ?_ | refine List.mem_append_right _ ?_)); done) | fail) rfl⟩, trivial⟩), ?_⟩
  exact ⟨_, rfl, rfl, hs.sub (List.nil_sublist _)⟩
end Go.Proofs.Ytogjkgoiofngaaa

/- MAC PDUs: Build. -/
namespace Go.Proofs.Ytogjkgoiofngaaa
open Go.RowKit
set_option linter.unusedSimpArgs false
set_option linter.unusedVariables false
--newlaws

theorem datR_mem {ps : List MpV} (h : ∀ q ∈ ps, ∀ x ∈ q.l, 0 ≤ x ∧ x < 256) : ∀ x ∈ datR (ps.map MpV.plain), 0 ≤ x ∧ x < 256 := by
  intro x hx
  obtain ⟨p, hp, hx⟩ := List.mem_flatMap.1 hx
  obtain ⟨q, hq, rfl⟩ := List.mem_map.1 hp
  exact h q hq x hx
theorem datR_take (r : List Prt) (i : Nat) : (datR (r.take i)).length ≤ (datR r).length := by
  have e : datR r = datR (r.take i) ++ datR (r.drop i) := by unfold datR; rw [← List.flatMap_append, List.take_append_drop]
  rw [e, List.length_append]
  omega
set_option maxHeartbeats 2000000 in
set_option maxRecDepth 100000 in
theorem mb_main (size : Int) (A : Option Addr) (n c : Nat) (ps : List MpV) (w : World) (hx : Sl w A (ps.flatMap MpV.cells)) (hl : ps.length = n) (hn : n ≤ 100) (hf : ∀ q ∈ ps, q.l.length ≤ 100000) (hB : ∀ q ∈ ps, Sl w q.B (ints .u8 q.l)) (hby : ∀ q ∈ ps, ∀ x ∈ q.l, 0 ≤ x ∧ x < 256)
    (h : 1 ≤ size ∧ size ≤ 16384) (hno : okN (ps.map MpV.plain)) (d f M : Nat) (tr : Bool) (hd : size - needP (ps.map MpV.plain) = (d : Int)) (htr : decide ((2 : Int) < (d : Int)) = tr) (hf0 : tr = true → f = 0) (hf1 : tr = false → f = d)
    (hM : (M : Int) = size - ((headB (ps.map MpV.plain) f tr ++ datR (ps.map MpV.plain)).length : Int)) :
    Calls Try.prog 12 #[.int .i64 size, .slice A n c] w (SX.Ret fun v w' => ∃ sv, v = .tuple #[sv, .int .i64 0] ∧ SX.St w [] w' [SX.Ent.row sv 5 1 ((headB (ps.map MpV.plain) f tr ++ datR (ps.map MpV.plain)).length + M) (ints .u8 (headB (ps.map MpV.plain) f tr ++ datR (ps.map MpV.plain)) ++ List.replicate M (Value.int .u8 0))]) := by
  have hs := SX.St.start w
  have hbd := totP_bd hf
  have hnt := need_tot (ps.map MpV.plain)
  have hnv : needV (ps.map MpV.plain) = (needP (ps.map MpV.plain), 0) := if_pos hno
  have hmem := vldP_mem hno.2
  obtain ⟨H, hH⟩ : ∃ H, headB (ps.map MpV.plain) f tr = H := ⟨_, rfl⟩
  rw [hH] at hM ⊢
  have hHb : ∀ x ∈ H ++ datR (ps.map MpV.plain), 0 ≤ x ∧ x < 256 := by
    intro x hx
    rcases List.mem_append.1 hx with h1 | h1
    · rw [← hH] at h1; exact headB_bd hmem x h1
    · exact datR_mem hby x h1
  have hHl : (H ++ datR (ps.map MpV.plain)).length ≤ 16384 := by omega
  rw [List.length_append] at hHl
  have hfd : f ≤ d := by cases tr <;> simp_all
  refine Z.enterD Try.func12 rfl Try.ntmps12 rfl rfl ?_
  refine Z.seq ?_
  refine Z.region ?_
  refine Z.le rfl trivial ?_
  refine Z.ZO.alloc rfl rfl (by rfl) Try.zeroValue26 rfl hs ?_
  clear hs; intro g4 w4 hs
  refine Z.le rfl trivial ?_
  refine Z.ZO.alloc rfl rfl (by rfl) Try.zeroValue27 rfl hs ?_
  clear hs; intro g5 w5 hs
  refine Z.lnil ?_
  refine Z.only [0, 1, 4, 5] rfl ?_
  refine Z.nthen ?_
  refine Z.seq ?_
  refine Z.region ?_
  refine Z.lb 1 rfl ?_
  refine Z.le rfl trivial ?_
  refine Z.ZO.defer rfl rfl rfl rfl ?_
  refine Z.lnil ?_
  refine Z.only [0, 1, 4, 5] rfl ?_
  refine Z.nthen ?_
  refine Z.seq ?_
  refine Z.region ?_
  refine Z.lb 6 rfl ?_
  refine Z.le rfl trivial ?_
  refine Z.ZO.call rfl rfl (by rfl) rfl rfl Try.call31 rfl (mm_must_ok _ 2 _ (by simp; omega)) ?_
  rintro v2_6 w2_6 ⟨rfl, hy⟩
  replace hs := hs.call hy
  clear hy
  try simp only [List.cons_append, List.nil_append, List.append_nil] at hs
  refine Z.lnil ?_
  refine Z.only [0, 1, 4, 5] rfl ?_
  refine Z.nthen ?_
  refine Z.seq ?_
  refine Z.region ?_
  refine Z.lb 2 rfl ?_
  refine Z.le rfl trivial ?_
  refine Z.ZO.call rfl rfl (by rfl) rfl rfl Try.call14 rfl (mc_Need A n c ps _ (hx.st (hs.sub (List.nil_sublist _))) hl (by omega) hf) ?_
  rintro v3_2 w3_2 ⟨rfl, hy⟩
  replace hs := hs.call hy
  clear hy
  try simp only [List.cons_append, List.nil_append, List.append_nil] at hs
  rw [hnv]
  refine Z.lb 2 rfl ?_
  refine Z.le rfl trivial ?_
  refine Z.ZO.call rfl rfl (by rfl) rfl rfl Try.call32 rfl (mm_goti_ok _ _) ?_
  rintro v3_5 w3_5 ⟨rfl, hy⟩
  replace hs := hs.call hy
  clear hy
  try simp only [List.cons_append, List.nil_append, List.append_nil] at hs
  refine Z.l rfl rfl (by rfl) (Z.keepS hs) (Z.Yd.sub rfl rfl (fun hG => Z.wi64 (by first | omega | (have hG' := Z.gh rfl hG; simp at hG'; omega)))) ?_
  rw [hd]
  refine Z.l rfl rfl (by rfl) (Z.keepS hs) (Z.Yd.pure rfl) ?_
  refine Z.lnil ?_
  refine Z.only [0, 1, 4, 5, 6] rfl ?_
  refine Z.nthen ?_
  refine Z.seq ?_
  refine Z.region ?_
  refine Z.lb 2 rfl ?_
  refine Z.le rfl trivial ?_
  refine Z.ZO.call rfl rfl (by rfl) rfl rfl Try.call31 rfl (mm_must_ok _ 4 _ (by simp)) ?_
  rintro v4_2 w4_2 ⟨rfl, hy⟩
  replace hs := hs.call hy
  clear hy
  try simp only [List.cons_append, List.nil_append, List.append_nil] at hs
  refine Z.lnil ?_
  refine Z.only [0, 1, 4, 5, 6] rfl ?_
  refine Z.nthen ?_
  refine Z.seq ?_
  refine Z.region ?_
  refine Z.le rfl trivial ?_
  refine Z.ZO.alloc rfl rfl (by rfl) Try.zeroValue67 rfl hs ?_
  clear hs; intro g7 w7 hs
  refine Z.lnil ?_
  refine Z.only [0, 1, 4, 5, 6, 7] rfl ?_
  refine Z.nthen ?_
  refine Z.seq ?_
  refine Z.region ?_
  replace hs : SX.St w [] _ (WrL g7 67 (.slice none 0 0) (unb []) ++ [SX.Ent.blk g5 27 #[.int .i64 0], SX.Ent.blk g4 26 #[.slice none 0 0]]) := WrL_start hs
  refine Z.l rfl rfl (by rfl) (Z.keepS hs) (Z.Yd.pure rfl) ?_
  refine Z.lb 1 rfl ?_
  refine Z.lnil ?_
  refine Z.only [0, 1, 4, 5, 6, 7, 8] rfl ?_
  refine Z.nthen ?_
  refine Z.seq ?_
  refine Z.region ?_
  refine Z.lb 2 rfl ?_
  rw [htr]
  refine Z.l rfl rfl (by rfl) (Z.keepS hs) (Z.Yd.pure rfl) ?_
  refine Z.lnil ?_
  refine Z.only [0, 1, 4, 5, 6, 7, 8, 9] rfl ?_
  refine Z.nthen ?_
  refine Z.seq ?_
  refine Z.seq ?_
  refine Z.region ?_
  refine Z.lb 2 rfl ?_
  refine Z.lnil ?_
  refine Z.only [0, 1, 4, 5, 6, 7, 8, 9, 39] rfl ?_
  refine Z.nthen ?_
  refine Z.cutt (ι := Value) [0, 1, 4, 5, 7, 8, 9] rfl (fun _ => []) (fun sv wr => SX.St w [] wr (WrL g7 67 sv (unb (List.replicate f 63)) ++ [SX.Ent.blk g5 27 #[.int .i64 0], SX.Ent.blk g4 26 #[.slice none 0 0]])) ?_ ?_
  · skip
    refine Z.cond rfl (fun hc8 => ?_) (fun hc8 => ?_)
    · first
        | (exfalso; simp at hc8 <;> omega)
        | (
          (try simp at hc8)
          obtain rfl : f = d := hf1 (by assumption)
          refine Z.seq ?_
          refine Z.region ?_
          refine Z.lb 2 rfl ?_
          refine Z.lnil ?_
          refine Z.only [0, 1, 4, 5, 7, 8, 9, 40, 41] rfl ?_
          refine Z.nthen ?_
          refine Z.block ?_
          refine Z.loopk (ι := Nat × Value) [0, 1, 4, 5, 7, 8, 9, 40] rfl (fun x => [(41, [], .int .i64 (x.1 : Int))]) (fun x wr => x.1 ≤ f ∧ SX.St w [] wr (WrL g7 67 x.2 (unb (List.replicate x.1 63)) ++ [SX.Ent.blk g5 27 #[.int .i64 0], SX.Ent.blk g4 26 #[.slice none 0 0]])) (fun x => f - x.1) (0, .slice none 0 0) (by refine ⟨?_, trivial⟩ <;> (first | rfl | (refine Z.lookv rfl ?_; simp; done) | (refine Z.lookv rfl ?_; simp; omega))) ⟨Nat.zero_le _, hs⟩ ?_
          clear hs
          rintro ⟨i, sv⟩ w9 ⟨hi, hs⟩
          refine Z.only [0, 1, 4, 5, 7, 8, 9, 40, 41] rfl ?_
          (try dsimp only at hs)
          dsimp only at hi hs
          refine Z.seq ?_
          refine Z.region ?_
          refine Z.lb 1 rfl ?_
          refine Z.lnil ?_
          refine Z.only [0, 1, 4, 5, 7, 8, 9, 40, 41, 42] rfl ?_
          refine Z.nthen ?_
          refine Z.seq ?_
          refine Z.cond rfl (fun hc10 => ?_) (fun hc10 => ?_)
          · first
              | (exfalso; simp at hc10 <;> omega)
              | (
                (try simp at hc10)
                refine Z.skip ?_
                refine Z.nthen ?_
                refine Z.seq ?_
                refine Z.block ?_
                refine Z.region ?_
                refine Z.lb 1 rfl ?_
                refine Z.le rfl trivial ?_
                refine Z.ZO.call rfl rfl (by rfl) rfl rfl Try.call33 rfl (mm_headI g7 _ sv (List.replicate i 63) 31 true _ (hs.lend (L1 := WrL _ _ _ _)) (by omega) (by simp; omega)) ?_
                rintro v11_1 w11_1 ⟨sv1, rfl, hz⟩
                replace hs := hs.regain hz
                refine Z.lnil ?_
                refine Z.only [0, 1, 4, 5, 7, 8, 9, 40, 41] rfl ?_
                refine Z.nblock ?_
                refine Z.nthen ?_
                refine Z.region ?_
                refine Z.l rfl rfl (by rfl) (Z.keepS hs) (Z.Yd.add rfl rfl (fun hG => Z.wi64 (by first | omega | (have hG' := Z.gh rfl hG; simp at hG'; omega)))) ?_
                refine Z.lb 1 rfl ?_
                refine Z.lnil ?_
                refine Z.only [0, 1, 4, 5, 7, 8, 9, 40, 41] rfl ?_
                refine Z.nthen ?_
                exact Z.again (i + 1, sv1) (by refine ⟨?_, ?_, ?_, ?_, ?_, ?_, ?_, ?_, ?_, trivial⟩ <;> (first | rfl | (refine Z.lookv rfl ?_; simp; done) | (refine Z.lookv rfl ?_; simp; omega))) ⟨by simp only; omega, by simp only; rw [List.replicate_succ']; exact hs⟩ (by simp only; omega)
                )
          · first
              | (exfalso; simp at hc10 <;> omega)
              | (
                (try simp at hc10)
                refine Z.exit ?_
                refine Z.xthen ?_
                refine Z.xthen ?_
                refine Z.xblock ?_
                refine Z.nthen ?_
                first | exact Z.meet _ (by refine ⟨?_, ?_, ?_, ?_, ?_, ?_, ?_, trivial⟩ <;> (first | rfl | (refine Z.lookv rfl ?_; simp; done) | (refine Z.lookv rfl ?_; simp; omega))) hs | (obtain rfl : i = f := (by omega); exact Z.meet _ (by refine ⟨?_, ?_, ?_, ?_, ?_, ?_, ?_, trivial⟩ <;> (first | rfl | (refine Z.lookv rfl ?_; simp; done) | (refine Z.lookv rfl ?_; simp; omega))) hs)
                )
          )
    · first
        | (exfalso; simp at hc8 <;> omega)
        | (
          (try simp at hc8)
          obtain rfl : f = 0 := hf0 (by assumption)
          refine Z.skip ?_
          refine Z.nthen ?_
          first | exact Z.meet _ (by refine ⟨?_, ?_, ?_, ?_, ?_, ?_, ?_, trivial⟩ <;> (first | rfl | (refine Z.lookv rfl ?_; simp; done) | (refine Z.lookv rfl ?_; simp; omega))) hs | (obtain rfl : i = f := (by omega); exact Z.meet _ (by refine ⟨?_, ?_, ?_, ?_, ?_, ?_, ?_, trivial⟩ <;> (first | rfl | (refine Z.lookv rfl ?_; simp; done) | (refine Z.lookv rfl ?_; simp; omega))) hs)
          )
  · clear hs
    rintro sv w8 hs
    refine Z.only [0, 1, 4, 5, 7, 8, 9] rfl ?_
    refine Z.seq ?_
    refine Z.seq ?_
    refine Z.region ?_
    refine Z.lb 1 rfl ?_
    refine Z.l rfl rfl (by rfl) (Z.keepS hs) (Z.Yd.lenS rfl Try.underlying22) ?_
    refine Z.lb 1 rfl ?_
    refine Z.lnil ?_
    refine Z.only [0, 1, 4, 5, 7, 8, 9, 46, 47, 48] rfl ?_
    refine Z.nthen ?_
    refine Z.block ?_
    refine Z.loopk (ι := Nat × Value × List Int) [0, 1, 4, 5, 7, 8, 9, 46, 47] rfl (fun x => [(48, [], .int .i64 (x.1 : Int))]) (fun x wr => (x.1 ≤ n ∧ x.2.2 ++ (hdsR ((ps.map MpV.plain).drop x.1) tr ++ if tr then [31] else []) = H) ∧ SX.St w [] wr (WrL g7 67 x.2.1 (unb x.2.2) ++ [SX.Ent.blk g5 27 #[.int .i64 0], SX.Ent.blk g4 26 #[.slice none 0 0]])) (fun x => n - x.1) (0, sv, List.replicate f 63) (by refine ⟨?_, trivial⟩ <;> (first | rfl | (refine Z.lookv rfl ?_; simp; done) | (refine Z.lookv rfl ?_; simp; omega))) ⟨⟨Nat.zero_le _, by rw [← hH]; simp [headB]⟩, hs⟩ ?_
    clear hs
    rintro ⟨k, sv, acc⟩ w14 ⟨⟨hk, hacc⟩, hs⟩
    refine Z.only [0, 1, 4, 5, 7, 8, 9, 46, 47, 48] rfl ?_
    (try dsimp only at hs)
    dsimp only at hk hacc hs
    have hal : acc.length ≤ 16384 := by
      have := congrArg List.length hacc
      rw [List.length_append] at this
      omega
    refine Z.seq ?_
    refine Z.region ?_
    refine Z.lb 1 rfl ?_
    refine Z.lnil ?_
    refine Z.only [0, 1, 4, 5, 7, 8, 9, 46, 47, 48, 49] rfl ?_
    refine Z.nthen ?_
    refine Z.seq ?_
    refine Z.cond rfl (fun hc14 => ?_) (fun hc14 => ?_)
    · first
        | (exfalso; simp at hc14 <;> omega)
        | (
          (try simp at hc14)
          obtain ⟨b, off, rfl, hb0, hx2⟩ := Z.Sl.some hx (by rw [fl_len mp_len]; omega)
          obtain ⟨q, hqi⟩ : ∃ q, ps[k]? = some q := ⟨_, List.getElem?_eq_getElem (by omega)⟩
          have hqm := List.mem_of_getElem? hqi
          have hone := mp_one q
          obtain ⟨⟨q1, q2⟩, q3⟩ := hmem q.plain (List.mem_map_of_mem hqm)
          have e1 : q.plain.1 = q.lc := rfl
          have e2 : q.plain.2 = q.l := rfl
          rw [e1] at q1 q2
          rw [e2] at q3
          rw [plain_at hqi, hdsR_cons, e1, e2, drop_empty hl (by omega)] at hacc
          obtain ⟨lb1, lb2⟩ := lenF_bd q3
          have hlnF := lnF_ok q3
          have er2 : ∀ X, resA (unb X) (lnF q.l.length) = unb (X ++ lenF q.l.length) := fun X => by
            unfold resA
            rw [if_pos hlnF.2.1, hlnF.2.2, unb_app]
          have hrest1 : ∀ mo : Bool, mo = !(decide ((k : Int) = (n : Int) - 1) && !tr) → (mo = true ∧ sduB q.lc) → acc ++ [q.lc + if mo = true then 32 else 0] ++ lenF q.l.length ++ (hdsR ((ps.map MpV.plain).drop (k + 1)) tr ++ if tr then [31] else []) = H := by
            intro mo hm hh
            rw [← hacc]
            cases hb : (decide ((k : Int) = (n : Int) - 1) && !tr) with
            | true => rw [hb, hh.1] at hm; cases hm
            | false => rw [hh.1]; simp [hh.2]
          have hrest2 : ∀ mo : Bool, mo = !(decide ((k : Int) = (n : Int) - 1) && !tr) → ¬ (mo = true ∧ sduB q.lc) → acc ++ [q.lc + if mo = true then 32 else 0] ++ (hdsR ((ps.map MpV.plain).drop (k + 1)) tr ++ if tr then [31] else []) = H := by
            intro mo hm hh
            rw [← hacc]
            cases hb : (decide ((k : Int) = (n : Int) - 1) && !tr) with
            | true =>
              rw [hb] at hm
              subst hm
              simp
            | false =>
              rw [hb] at hm
              subst hm
              have hns : ¬ sduB q.lc := fun h => hh ⟨rfl, h⟩
              simp [hns]
          have hmT : tr = true → true = !(decide ((k : Int) = (n : Int) - 1) && !tr) := fun h => by rw [h]; simp
          have hmF : tr = false → decide ((k : Int) < (n : Int) - 1) = !(decide ((k : Int) = (n : Int) - 1) && !tr) := fun h => by
            rw [h, Bool.eq_iff_iff]
            simp
            omega
          refine Z.skip ?_
          refine Z.nthen ?_
          refine Z.seq ?_
          refine Z.block ?_
          refine Z.seq ?_
          refine Z.region ?_
          refine Z.lb 1 rfl ?_
          refine Z.l rfl rfl (by rfl) (Z.keepS hs) (Z.Yd.elem rfl rfl Try.underlying22 Try.sizeOf47 (fun hG => ⟨(by first | omega | (have hG' := Z.gh rfl hG; simp at hG'; omega)), (by first | omega | (have hG' := Z.gh rfl hG; simp at hG'; omega))⟩)) ?_
          refine Z.l rfl rfl (by rfl) (Z.keepS hs) (Z.Yd.loadA _ rfl Try.isAgg47 (fun _ W hK j u hu => Z.cellXq (enc := MpV.cells) hx2.sx mp_len hqi hu W hK) (by exact Try.sizeOf47)) ?_
          refine Z.le rfl trivial ?_
          refine Z.ZO.alloc rfl rfl (by rfl) Try.zeroValue47 rfl hs ?_
          clear hs; intro g11 w11 hs
          refine Z.lb 1 rfl ?_
          refine Z.le rfl trivial ?_
          first | refine Z.ZO.storeA rfl rfl hs rfl rfl (by kernel_rfl) (by first | (simp [Value.oneCell']; done) | (refine Z.all_one ?_; assumption)) (by first | exact SX.at0 | exact SX.at1 | exact SX.at2 | exact SX.at3 | exact SX.at4 | exact SX.at5 | exact Z.at6 | exact Z.at7 | exact Z.at8 | exact Z.at9 | exact Z.at10 | exact Z.at11 | exact Z.at12) (by rfl) ?_ | refine Z.ZO.storeP rfl rfl hs rfl rfl (by kernel_rfl) (by first | (simp [Value.oneCell']; done) | (refine Z.all_one ?_; assumption)) (by first | exact SX.at0 | exact SX.at1 | exact SX.at2 | exact SX.at3 | exact SX.at4 | exact SX.at5 | exact Z.at6 | exact Z.at7 | exact Z.at8 | exact Z.at9 | exact Z.at10 | exact Z.at11 | exact Z.at12) (by first | decide | (simp; done) | (simp; omega)) ?_ | refine Z.ZO.storePR rfl rfl hs rfl rfl (by kernel_rfl) (by first | (simp [Value.oneCell']; done) | (refine Z.all_one ?_; assumption)) (by first | exact SX.at0 | exact SX.at1 | exact SX.at2 | exact SX.at3 | exact SX.at4 | exact SX.at5 | exact Z.at6 | exact Z.at7 | exact Z.at8 | exact Z.at9 | exact Z.at10 | exact Z.at11 | exact Z.at12) (by first | decide | (simp; done) | (simp; omega)) ?_
          clear hs; intro ws hs
          simp only [Nat.zero_add, Nat.add_zero, Nat.reduceAdd, Int.reduceToNat, Nat.reduceMul, List.set_cons_zero, List.set_cons_succ, List.setIfInBounds_toArray] at hs
          try simp only [Z.putL, Nat.zero_add] at hs
          refine Z.lnil ?_
          refine Z.only [0, 1, 4, 5, 7, 8, 9, 10, 11, 46, 47, 48] rfl ?_
          refine Z.nthen ?_
          refine Z.seq ?_
          refine Z.region ?_
          refine Z.lb 2 rfl ?_
          refine Z.split (s := 54) rfl (fun hsp54 => ?_) (fun hsp54 => ?_)
          · first
              | (exfalso; simp at hsp54 <;> omega)
              | (
                refine Z.yes (s := 54) (b := true) rfl hsp54 rfl ?_
                (try simp at hsp54)
                refine Z.ls rfl rfl rfl (by rfl) ?_
                refine Z.ls rfl rfl rfl (by rfl) ?_
                refine Z.ls rfl rfl rfl (by rfl) ?_
                refine Z.ls rfl rfl rfl (by rfl) ?_
                refine Z.ls rfl rfl rfl (by rfl) ?_
                refine Z.l rfl rfl (by rfl) (Z.keepS hs) (Z.Yd.pickT rfl rfl) ?_
                refine Z.lb 1 rfl ?_
                refine Z.lnil ?_
                refine Z.only [0, 1, 4, 5, 7, 8, 9, 11, 12, 46, 47, 48] rfl ?_
                refine Z.nthen ?_
                refine Z.seq ?_
                refine Z.region ?_
                refine Z.lb 1 rfl ?_
                refine Z.l rfl rfl (by rfl) (Z.keepS hs) (Z.Yd.fieldA (m := 0) rfl (by kernel_rfl)) ?_
                refine Z.l rfl rfl (by rfl) (Z.keepS hs) (Z.Yd.load rfl Try.isAgg3 (fun _ => Z.cellB (cs := q.cells.toArray) (by first | ((repeat (first | exact List.mem_cons_self | refine List.mem_cons_of_mem _ ?_ | refine List.mem_append_right _ ?_)); done) | fail) rfl)) ?_
                refine Z.lb 1 rfl ?_
                replace hs : SX.St w [] _ (WrL g7 67 sv (unb acc) ++ [_, _, _]) := hs.rot (L1 := [_])
                refine Z.le rfl trivial ?_
                refine Z.ZO.call rfl rfl (by rfl) rfl rfl Try.call33 rfl (mm_headI g7 _ sv acc q.lc _ _ (hs.lend (L1 := WrL _ _ _ _)) (by omega) (by omega)) ?_
                rintro v17_4 w17_4 ⟨sv1, rfl, hz⟩
                replace hs := hs.regain hz
                refine Z.lnil ?_
                refine Z.only [0, 1, 4, 5, 7, 8, 9, 11, 12, 46, 47, 48] rfl ?_
                refine Z.nthen ?_
                refine Z.seq ?_
                refine Z.region ?_
                simp only [WrL, List.cons_append, List.nil_append] at hs
                refine Z.l rfl rfl (by rfl) (Z.keepS hs) (Z.Yd.loadA _ rfl Try.isAgg47 (fun _ => Z.cellsB (cs := MpV.cells q) (by first | ((repeat (first | exact List.mem_cons_self | refine List.mem_cons_of_mem _ ?_ | refine List.mem_append_right _ ?_)); done) | fail)) (by exact Try.sizeOf47)) ?_
                refine Z.le rfl trivial ?_
                refine Z.ZO.call rfl rfl (by rfl) rfl rfl Try.call35 rfl (mc_extra q _) ?_
                rintro v18_1 w18_1 ⟨rfl, hy⟩
                replace hs := hs.call hy
                clear hy
                try simp only [List.cons_append, List.nil_append, List.append_nil] at hs
                refine Z.lb 1 rfl ?_
                refine Z.lnil ?_
                refine Z.only [0, 1, 4, 5, 7, 8, 9, 11, 12, 13, 46, 47, 48] rfl ?_
                refine Z.nthen ?_
                refine Z.seq ?_
                refine Z.region ?_
                refine Z.lb 5 rfl ?_
                refine Z.lnil ?_
                refine Z.only [0, 1, 4, 5, 7, 8, 9, 11, 13, 46, 47, 48, 72] rfl ?_
                refine Z.nthen ?_
                refine Z.cond rfl (fun hc19 => ?_) (fun hc19 => ?_)
                · first
                    | (exfalso; simp at hc19 <;> omega)
                    | (
                      (try simp at hc19)
                      have hsd : sduB q.lc := ext_pos.1 (by first | exact hc19 | exact hc19.2)
                      have hfm := fm_ext hsd
                      obtain ⟨fv, hfv⟩ : ∃ fv, fmOf q.l.length = fv := ⟨_, rfl⟩
                      refine Z.seq ?_
                      refine Z.region ?_
                      refine Z.le rfl trivial ?_
                      refine Z.ZO.call rfl rfl (by rfl) rfl rfl Try.call36 rfl (mc_formats _) ?_
                      rintro v20_0 w20_0 ⟨rfl, hy⟩
                      replace hs := hs.call hy
                      clear hy
                      try simp only [List.cons_append, List.nil_append, List.append_nil] at hs
                      refine Z.lb 1 rfl ?_
                      refine Z.l rfl rfl (by rfl) (Z.keepS hs) (Z.Yd.sub rfl rfl (fun hG => Z.wi64 (by first | omega | (have hG' := Z.gh rfl hG; simp at hG'; omega)))) ?_
                      refine Z.l rfl rfl (by rfl) (Z.keepS hs) (Z.Yd.index (v := .agg #[.int .u64 fv.1, .int .i64 fv.2.1, .int .i64 fv.2.2]) rfl rfl (by intro _ w; rw [hfm, ← hfv]; unfold fmOf; by_cases hc : q.l.length ≤ 127 <;> simp only [hc, if_true, if_false] <;> kernel_rfl)) ?_
                      refine Z.le rfl trivial ?_
                      refine Z.ZO.alloc rfl rfl (by rfl) Try.zeroValue75 rfl hs ?_
                      clear hs; intro g14 w14 hs
                      refine Z.le rfl trivial ?_
                      first | refine Z.ZO.storeA rfl rfl hs rfl rfl (by kernel_rfl) (by first | (simp [Value.oneCell']; done) | (refine Z.all_one ?_; assumption)) (by first | exact SX.at0 | exact SX.at1 | exact SX.at2 | exact SX.at3 | exact SX.at4 | exact SX.at5 | exact Z.at6 | exact Z.at7 | exact Z.at8 | exact Z.at9 | exact Z.at10 | exact Z.at11 | exact Z.at12) (by rfl) ?_ | refine Z.ZO.storeP rfl rfl hs rfl rfl (by kernel_rfl) (by first | (simp [Value.oneCell']; done) | (refine Z.all_one ?_; assumption)) (by first | exact SX.at0 | exact SX.at1 | exact SX.at2 | exact SX.at3 | exact SX.at4 | exact SX.at5 | exact Z.at6 | exact Z.at7 | exact Z.at8 | exact Z.at9 | exact Z.at10 | exact Z.at11 | exact Z.at12) (by first | decide | (simp; done) | (simp; omega)) ?_ | refine Z.ZO.storePR rfl rfl hs rfl rfl (by kernel_rfl) (by first | (simp [Value.oneCell']; done) | (refine Z.all_one ?_; assumption)) (by first | exact SX.at0 | exact SX.at1 | exact SX.at2 | exact SX.at3 | exact SX.at4 | exact SX.at5 | exact Z.at6 | exact Z.at7 | exact Z.at8 | exact Z.at9 | exact Z.at10 | exact Z.at11 | exact Z.at12) (by first | decide | (simp; done) | (simp; omega)) ?_
                      clear hs; intro ws hs
                      simp only [Nat.zero_add, Nat.add_zero, Nat.reduceAdd, Int.reduceToNat, Nat.reduceMul, List.set_cons_zero, List.set_cons_succ, List.setIfInBounds_toArray] at hs
                      try simp only [Z.putL, Nat.zero_add] at hs
                      refine Z.lnil ?_
                      refine Z.only [0, 1, 4, 5, 7, 8, 9, 11, 14, 46, 47, 48] rfl ?_
                      refine Z.nthen ?_
                      refine Z.region ?_
                      refine Z.l rfl rfl (by rfl) (Z.keepS hs) (Z.Yd.fieldA (m := 0) rfl (by kernel_rfl)) ?_
                      refine Z.l rfl rfl (by rfl) (Z.keepS hs) (Z.Yd.load rfl Try.isAgg68 (fun _ => Z.cellB (cs := #[.int .u64 fv.1, .int .i64 fv.2.1, .int .i64 fv.2.2]) (by first | ((repeat (first | exact List.mem_cons_self | refine List.mem_cons_of_mem _ ?_ | refine List.mem_append_right _ ?_)); done) | fail) rfl)) ?_
                      refine Z.l rfl rfl (by rfl) (Z.keepS hs) (Z.Yd.buildL [(0, 1), (1, 1)] [.int .u64 0, .int .i64 0] rfl rfl (by intro w; kernel_rfl)) ?_
                      refine Z.l rfl rfl (by rfl) (Z.keepS hs) (Z.Yd.fieldA (m := 1) rfl (by kernel_rfl)) ?_
                      refine Z.l rfl rfl (by rfl) (Z.keepS hs) (by first | exact Z.Yd.load rfl Try.isAgg26 (fun _ => Z.cellB (by first | ((repeat (first | exact List.mem_cons_self | refine List.mem_cons_of_mem _ ?_ | refine List.mem_append_right _ ?_)); done) | fail) rfl) | exact Z.Yd.load rfl Try.isAgg26 (fun _ => Z.cellO (by assumption) (by simp) (by assumption)) | fail "load 21.4") ?_
                      refine Z.l rfl rfl (by rfl) (Z.keepS hs) (Z.Yd.lenS rfl Try.underlying26) ?_
                      refine Z.l rfl rfl (by rfl) (Z.keepS hs) (Z.Yd.convI rfl ⟨_, Try.underlying3⟩ Try.underlying68 (fun hG => Z.wu64 (by first | omega | (have hG' := Z.gh rfl hG; simp at hG'; omega)))) ?_
                      refine Z.l rfl rfl (by rfl) (Z.keepS hs) (Z.Yd.fieldA (m := 1) rfl (by kernel_rfl)) ?_
                      refine Z.l rfl rfl (by rfl) (Z.keepS hs) (Z.Yd.load rfl Try.isAgg3 (fun _ => Z.cellB (cs := #[.int .u64 fv.1, .int .i64 fv.2.1, .int .i64 fv.2.2]) (by first | ((repeat (first | exact List.mem_cons_self | refine List.mem_cons_of_mem _ ?_ | refine List.mem_append_right _ ?_)); done) | fail) rfl)) ?_
                      refine Z.l rfl rfl (by rfl) (Z.keepS hs) (Z.Yd.buildL [(0, 1), (1, 1)] [.int .u64 0, .int .i64 0] rfl rfl (by intro w; kernel_rfl)) ?_
                      refine Z.le rfl trivial ?_
                      refine Z.ZO.litL (T' := 71) [(0, 2), (2, 2)] [.int .u64 0, .int .i64 0, .int .u64 0, .int .i64 0] rfl rfl (by rfl) rfl rfl (by intro W; kernel_rfl) hs ?_
                      clear hs; intro g87 w87 hs
                      subst hfv
                      replace hs : SX.St w [] _ (WrL g7 67 sv1 _ ++ [_, _, _]) := hs.sel [2, 3, 0, 4, 5] (by decide)
                      refine Z.le rfl trivial ?_
                      refine Z.ZO.call rfl rfl (by rfl) rfl rfl Try.call34 rfl (putAll_any g7 _ sv1 _ _ 2 2 (lnF q.l.length) _ hs.lend (by have h0 := Z.blk_lentj hs (j := 0) rfl; exact h0) rfl (by omega) (by rw [unb_length]; simp; omega) hlnF.1) ?_
                      rintro v21_11 w21_11 ⟨sv2, rfl, hz⟩
                      replace hs := hs.regain hz
                      rw [er2] at hs
                      refine Z.lnil ?_
                      refine Z.only [0, 1, 4, 5, 7, 8, 9, 46, 47, 48] rfl ?_
                      refine Z.nblock ?_
                      refine Z.nthen ?_
                      refine Z.region ?_
                      refine Z.l rfl rfl (by rfl) (Z.keepS hs) (Z.Yd.add rfl rfl (fun hG => Z.wi64 (by first | omega | (have hG' := Z.gh rfl hG; simp at hG'; omega)))) ?_
                      refine Z.lb 1 rfl ?_
                      refine Z.lnil ?_
                      refine Z.only [0, 1, 4, 5, 7, 8, 9, 46, 47, 48] rfl ?_
                      refine Z.nthen ?_
                      first
                      | exact Z.again (k + 1, sv2, _) (by refine ⟨?_, ?_, ?_, ?_, ?_, ?_, ?_, ?_, ?_, ?_, trivial⟩ <;> (first | rfl | (refine Z.lookv rfl ?_; simp; done) | (refine Z.lookv rfl ?_; simp; omega))) ⟨⟨by simp only; omega, hrest1 _ (hmT hsp54) ⟨rfl, hsd⟩⟩, hs.sel [0, 1, 3, 4] (by decide)⟩ (by simp only; omega)
                      | exact Z.again (k + 1, sv2, _) (by refine ⟨?_, ?_, ?_, ?_, ?_, ?_, ?_, ?_, ?_, ?_, trivial⟩ <;> (first | rfl | (refine Z.lookv rfl ?_; simp; done) | (refine Z.lookv rfl ?_; simp; omega))) ⟨⟨by simp only; omega, hrest1 _ (hmF hsp54) ⟨decide_eq_true hc19.1, hsd⟩⟩, hs.sel [0, 1, 3, 4] (by decide)⟩ (by simp only; omega)
                      | exact Z.again (k + 1, sv1, _) (by refine ⟨?_, ?_, ?_, ?_, ?_, ?_, ?_, ?_, ?_, ?_, trivial⟩ <;> (first | rfl | (refine Z.lookv rfl ?_; simp; done) | (refine Z.lookv rfl ?_; simp; omega))) ⟨⟨by simp only; omega, hrest2 _ (hmT hsp54) (fun h => by have h9 := ext_pos.2 h.2; omega)⟩, hs.sel [0, 1, 2, 3] (by decide)⟩ (by simp only; omega)
                      | exact Z.again (k + 1, sv1, _) (by refine ⟨?_, ?_, ?_, ?_, ?_, ?_, ?_, ?_, ?_, ?_, trivial⟩ <;> (first | rfl | (refine Z.lookv rfl ?_; simp; done) | (refine Z.lookv rfl ?_; simp; omega))) ⟨⟨by simp only; omega, hrest2 _ (hmF hsp54) (fun h => by have h9 := ext_pos.2 h.2; have h8 := of_decide_eq_true h.1; first | omega | (have h7 := hc19 h8; omega))⟩, hs.sel [0, 1, 2, 3] (by decide)⟩ (by simp only; omega)
                      )
                · first
                    | (exfalso; simp at hc19 <;> omega)
                    | (
                      (try simp at hc19)
                      refine Z.skip ?_
                      refine Z.nblock ?_
                      refine Z.nthen ?_
                      refine Z.region ?_
                      refine Z.l rfl rfl (by rfl) (Z.keepS hs) (Z.Yd.add rfl rfl (fun hG => Z.wi64 (by first | omega | (have hG' := Z.gh rfl hG; simp at hG'; omega)))) ?_
                      refine Z.lb 1 rfl ?_
                      refine Z.lnil ?_
                      refine Z.only [0, 1, 4, 5, 7, 8, 9, 46, 47, 48] rfl ?_
                      refine Z.nthen ?_
                      first
                      | exact Z.again (k + 1, sv2, _) (by refine ⟨?_, ?_, ?_, ?_, ?_, ?_, ?_, ?_, ?_, ?_, trivial⟩ <;> (first | rfl | (refine Z.lookv rfl ?_; simp; done) | (refine Z.lookv rfl ?_; simp; omega))) ⟨⟨by simp only; omega, hrest1 _ (hmT hsp54) ⟨rfl, hsd⟩⟩, hs.sel [0, 1, 3, 4] (by decide)⟩ (by simp only; omega)
                      | exact Z.again (k + 1, sv2, _) (by refine ⟨?_, ?_, ?_, ?_, ?_, ?_, ?_, ?_, ?_, ?_, trivial⟩ <;> (first | rfl | (refine Z.lookv rfl ?_; simp; done) | (refine Z.lookv rfl ?_; simp; omega))) ⟨⟨by simp only; omega, hrest1 _ (hmF hsp54) ⟨decide_eq_true hc19.1, hsd⟩⟩, hs.sel [0, 1, 3, 4] (by decide)⟩ (by simp only; omega)
                      | exact Z.again (k + 1, sv1, _) (by refine ⟨?_, ?_, ?_, ?_, ?_, ?_, ?_, ?_, ?_, ?_, trivial⟩ <;> (first | rfl | (refine Z.lookv rfl ?_; simp; done) | (refine Z.lookv rfl ?_; simp; omega))) ⟨⟨by simp only; omega, hrest2 _ (hmT hsp54) (fun h => by have h9 := ext_pos.2 h.2; omega)⟩, hs.sel [0, 1, 2, 3] (by decide)⟩ (by simp only; omega)
                      | exact Z.again (k + 1, sv1, _) (by refine ⟨?_, ?_, ?_, ?_, ?_, ?_, ?_, ?_, ?_, ?_, trivial⟩ <;> (first | rfl | (refine Z.lookv rfl ?_; simp; done) | (refine Z.lookv rfl ?_; simp; omega))) ⟨⟨by simp only; omega, hrest2 _ (hmF hsp54) (fun h => by have h9 := ext_pos.2 h.2; have h8 := of_decide_eq_true h.1; first | omega | (have h7 := hc19 h8; omega))⟩, hs.sel [0, 1, 2, 3] (by decide)⟩ (by simp only; omega)
                      )
                )
          · first
              | (exfalso; simp at hsp54 <;> omega)
              | (
                refine Z.yes (s := 54) (b := false) rfl hsp54 rfl ?_
                (try simp at hsp54)
                refine Z.lb 2 rfl ?_
                refine Z.l rfl rfl (by rfl) (Z.keepS hs) (Z.Yd.lenS rfl Try.underlying22) ?_
                refine Z.l rfl rfl (by rfl) (Z.keepS hs) (Z.Yd.sub rfl rfl (fun hG => Z.wi64 (by first | omega | (have hG' := Z.gh rfl hG; simp at hG'; omega)))) ?_
                refine Z.lb 1 rfl ?_
                refine Z.yes (s := 54) (b := false) rfl rfl rfl ?_
                refine Z.l rfl rfl (by rfl) (Z.keepS hs) (Z.Yd.pickF rfl rfl) ?_
                refine Z.lb 1 rfl ?_
                refine Z.lnil ?_
                refine Z.only [0, 1, 4, 5, 7, 8, 9, 11, 12, 46, 47, 48] rfl ?_
                refine Z.nthen ?_
                refine Z.seq ?_
                refine Z.region ?_
                refine Z.lb 1 rfl ?_
                refine Z.l rfl rfl (by rfl) (Z.keepS hs) (Z.Yd.fieldA (m := 0) rfl (by kernel_rfl)) ?_
                refine Z.l rfl rfl (by rfl) (Z.keepS hs) (Z.Yd.load rfl Try.isAgg3 (fun _ => Z.cellB (cs := q.cells.toArray) (by first | ((repeat (first | exact List.mem_cons_self | refine List.mem_cons_of_mem _ ?_ | refine List.mem_append_right _ ?_)); done) | fail) rfl)) ?_
                refine Z.lb 1 rfl ?_
                replace hs : SX.St w [] _ (WrL g7 67 sv (unb acc) ++ [_, _, _]) := hs.rot (L1 := [_])
                refine Z.le rfl trivial ?_
                refine Z.ZO.call rfl rfl (by rfl) rfl rfl Try.call33 rfl (mm_headI g7 _ sv acc q.lc _ _ (hs.lend (L1 := WrL _ _ _ _)) (by omega) (by omega)) ?_
                rintro v17_4 w17_4 ⟨sv1, rfl, hz⟩
                replace hs := hs.regain hz
                refine Z.lnil ?_
                refine Z.only [0, 1, 4, 5, 7, 8, 9, 11, 12, 46, 47, 48] rfl ?_
                refine Z.nthen ?_
                refine Z.seq ?_
                refine Z.region ?_
                simp only [WrL, List.cons_append, List.nil_append] at hs
                refine Z.l rfl rfl (by rfl) (Z.keepS hs) (Z.Yd.loadA _ rfl Try.isAgg47 (fun _ => Z.cellsB (cs := MpV.cells q) (by first | ((repeat (first | exact List.mem_cons_self | refine List.mem_cons_of_mem _ ?_ | refine List.mem_append_right _ ?_)); done) | fail)) (by exact Try.sizeOf47)) ?_
                refine Z.le rfl trivial ?_
                refine Z.ZO.call rfl rfl (by rfl) rfl rfl Try.call35 rfl (mc_extra q _) ?_
                rintro v18_1 w18_1 ⟨rfl, hy⟩
                replace hs := hs.call hy
                clear hy
                try simp only [List.cons_append, List.nil_append, List.append_nil] at hs
                refine Z.lb 1 rfl ?_
                refine Z.lnil ?_
                refine Z.only [0, 1, 4, 5, 7, 8, 9, 11, 12, 13, 46, 47, 48] rfl ?_
                refine Z.nthen ?_
                refine Z.seq ?_
                refine Z.region ?_
                refine Z.lb 5 rfl ?_
                refine Z.lnil ?_
                refine Z.only [0, 1, 4, 5, 7, 8, 9, 11, 13, 46, 47, 48, 72] rfl ?_
                refine Z.nthen ?_
                refine Z.cond rfl (fun hc19 => ?_) (fun hc19 => ?_)
                · first
                    | (exfalso; simp at hc19 <;> omega)
                    | (
                      (try simp at hc19)
                      have hsd : sduB q.lc := ext_pos.1 (by first | exact hc19 | exact hc19.2)
                      have hfm := fm_ext hsd
                      obtain ⟨fv, hfv⟩ : ∃ fv, fmOf q.l.length = fv := ⟨_, rfl⟩
                      refine Z.seq ?_
                      refine Z.region ?_
                      refine Z.le rfl trivial ?_
                      refine Z.ZO.call rfl rfl (by rfl) rfl rfl Try.call36 rfl (mc_formats _) ?_
                      rintro v20_0 w20_0 ⟨rfl, hy⟩
                      replace hs := hs.call hy
                      clear hy
                      try simp only [List.cons_append, List.nil_append, List.append_nil] at hs
                      refine Z.lb 1 rfl ?_
                      refine Z.l rfl rfl (by rfl) (Z.keepS hs) (Z.Yd.sub rfl rfl (fun hG => Z.wi64 (by first | omega | (have hG' := Z.gh rfl hG; simp at hG'; omega)))) ?_
                      refine Z.l rfl rfl (by rfl) (Z.keepS hs) (Z.Yd.index (v := .agg #[.int .u64 fv.1, .int .i64 fv.2.1, .int .i64 fv.2.2]) rfl rfl (by intro _ w; rw [hfm, ← hfv]; unfold fmOf; by_cases hc : q.l.length ≤ 127 <;> simp only [hc, if_true, if_false] <;> kernel_rfl)) ?_
                      refine Z.le rfl trivial ?_
                      refine Z.ZO.alloc rfl rfl (by rfl) Try.zeroValue75 rfl hs ?_
                      clear hs; intro g14 w14 hs
                      refine Z.le rfl trivial ?_
                      first | refine Z.ZO.storeA rfl rfl hs rfl rfl (by kernel_rfl) (by first | (simp [Value.oneCell']; done) | (refine Z.all_one ?_; assumption)) (by first | exact SX.at0 | exact SX.at1 | exact SX.at2 | exact SX.at3 | exact SX.at4 | exact SX.at5 | exact Z.at6 | exact Z.at7 | exact Z.at8 | exact Z.at9 | exact Z.at10 | exact Z.at11 | exact Z.at12) (by rfl) ?_ | refine Z.ZO.storeP rfl rfl hs rfl rfl (by kernel_rfl) (by first | (simp [Value.oneCell']; done) | (refine Z.all_one ?_; assumption)) (by first | exact SX.at0 | exact SX.at1 | exact SX.at2 | exact SX.at3 | exact SX.at4 | exact SX.at5 | exact Z.at6 | exact Z.at7 | exact Z.at8 | exact Z.at9 | exact Z.at10 | exact Z.at11 | exact Z.at12) (by first | decide | (simp; done) | (simp; omega)) ?_ | refine Z.ZO.storePR rfl rfl hs rfl rfl (by kernel_rfl) (by first | (simp [Value.oneCell']; done) | (refine Z.all_one ?_; assumption)) (by first | exact SX.at0 | exact SX.at1 | exact SX.at2 | exact SX.at3 | exact SX.at4 | exact SX.at5 | exact Z.at6 | exact Z.at7 | exact Z.at8 | exact Z.at9 | exact Z.at10 | exact Z.at11 | exact Z.at12) (by first | decide | (simp; done) | (simp; omega)) ?_
                      clear hs; intro ws hs
                      simp only [Nat.zero_add, Nat.add_zero, Nat.reduceAdd, Int.reduceToNat, Nat.reduceMul, List.set_cons_zero, List.set_cons_succ, List.setIfInBounds_toArray] at hs
                      try simp only [Z.putL, Nat.zero_add] at hs
                      refine Z.lnil ?_
                      refine Z.only [0, 1, 4, 5, 7, 8, 9, 11, 14, 46, 47, 48] rfl ?_
                      refine Z.nthen ?_
                      refine Z.region ?_
                      refine Z.l rfl rfl (by rfl) (Z.keepS hs) (Z.Yd.fieldA (m := 0) rfl (by kernel_rfl)) ?_
                      refine Z.l rfl rfl (by rfl) (Z.keepS hs) (Z.Yd.load rfl Try.isAgg68 (fun _ => Z.cellB (cs := #[.int .u64 fv.1, .int .i64 fv.2.1, .int .i64 fv.2.2]) (by first | ((repeat (first | exact List.mem_cons_self | refine List.mem_cons_of_mem _ ?_ | refine List.mem_append_right _ ?_)); done) | fail) rfl)) ?_
                      refine Z.l rfl rfl (by rfl) (Z.keepS hs) (Z.Yd.buildL [(0, 1), (1, 1)] [.int .u64 0, .int .i64 0] rfl rfl (by intro w; kernel_rfl)) ?_
                      refine Z.l rfl rfl (by rfl) (Z.keepS hs) (Z.Yd.fieldA (m := 1) rfl (by kernel_rfl)) ?_
                      refine Z.l rfl rfl (by rfl) (Z.keepS hs) (by first | exact Z.Yd.load rfl Try.isAgg26 (fun _ => Z.cellB (by first | ((repeat (first | exact List.mem_cons_self | refine List.mem_cons_of_mem _ ?_ | refine List.mem_append_right _ ?_)); done) | fail) rfl) | exact Z.Yd.load rfl Try.isAgg26 (fun _ => Z.cellO (by assumption) (by simp) (by assumption)) | fail "load 21.4") ?_
                      refine Z.l rfl rfl (by rfl) (Z.keepS hs) (Z.Yd.lenS rfl Try.underlying26) ?_
                      refine Z.l rfl rfl (by rfl) (Z.keepS hs) (Z.Yd.convI rfl ⟨_, Try.underlying3⟩ Try.underlying68 (fun hG => Z.wu64 (by first | omega | (have hG' := Z.gh rfl hG; simp at hG'; omega)))) ?_
                      refine Z.l rfl rfl (by rfl) (Z.keepS hs) (Z.Yd.fieldA (m := 1) rfl (by kernel_rfl)) ?_
                      refine Z.l rfl rfl (by rfl) (Z.keepS hs) (Z.Yd.load rfl Try.isAgg3 (fun _ => Z.cellB (cs := #[.int .u64 fv.1, .int .i64 fv.2.1, .int .i64 fv.2.2]) (by first | ((repeat (first | exact List.mem_cons_self | refine List.mem_cons_of_mem _ ?_ | refine List.mem_append_right _ ?_)); done) | fail) rfl)) ?_
                      refine Z.l rfl rfl (by rfl) (Z.keepS hs) (Z.Yd.buildL [(0, 1), (1, 1)] [.int .u64 0, .int .i64 0] rfl rfl (by intro w; kernel_rfl)) ?_
                      refine Z.le rfl trivial ?_
                      refine Z.ZO.litL (T' := 71) [(0, 2), (2, 2)] [.int .u64 0, .int .i64 0, .int .u64 0, .int .i64 0] rfl rfl (by rfl) rfl rfl (by intro W; kernel_rfl) hs ?_
                      clear hs; intro g87 w87 hs
                      subst hfv
                      replace hs : SX.St w [] _ (WrL g7 67 sv1 _ ++ [_, _, _]) := hs.sel [2, 3, 0, 4, 5] (by decide)
                      refine Z.le rfl trivial ?_
                      refine Z.ZO.call rfl rfl (by rfl) rfl rfl Try.call34 rfl (putAll_any g7 _ sv1 _ _ 2 2 (lnF q.l.length) _ hs.lend (by have h0 := Z.blk_lentj hs (j := 0) rfl; exact h0) rfl (by omega) (by rw [unb_length]; simp; omega) hlnF.1) ?_
                      rintro v21_11 w21_11 ⟨sv2, rfl, hz⟩
                      replace hs := hs.regain hz
                      rw [er2] at hs
                      refine Z.lnil ?_
                      refine Z.only [0, 1, 4, 5, 7, 8, 9, 46, 47, 48] rfl ?_
                      refine Z.nblock ?_
                      refine Z.nthen ?_
                      refine Z.region ?_
                      refine Z.l rfl rfl (by rfl) (Z.keepS hs) (Z.Yd.add rfl rfl (fun hG => Z.wi64 (by first | omega | (have hG' := Z.gh rfl hG; simp at hG'; omega)))) ?_
                      refine Z.lb 1 rfl ?_
                      refine Z.lnil ?_
                      refine Z.only [0, 1, 4, 5, 7, 8, 9, 46, 47, 48] rfl ?_
                      refine Z.nthen ?_
                      first
                      | exact Z.again (k + 1, sv2, _) (by refine ⟨?_, ?_, ?_, ?_, ?_, ?_, ?_, ?_, ?_, ?_, trivial⟩ <;> (first | rfl | (refine Z.lookv rfl ?_; simp; done) | (refine Z.lookv rfl ?_; simp; omega))) ⟨⟨by simp only; omega, hrest1 _ (hmT hsp54) ⟨rfl, hsd⟩⟩, hs.sel [0, 1, 3, 4] (by decide)⟩ (by simp only; omega)
                      | exact Z.again (k + 1, sv2, _) (by refine ⟨?_, ?_, ?_, ?_, ?_, ?_, ?_, ?_, ?_, ?_, trivial⟩ <;> (first | rfl | (refine Z.lookv rfl ?_; simp; done) | (refine Z.lookv rfl ?_; simp; omega))) ⟨⟨by simp only; omega, hrest1 _ (hmF hsp54) ⟨decide_eq_true hc19.1, hsd⟩⟩, hs.sel [0, 1, 3, 4] (by decide)⟩ (by simp only; omega)
                      | exact Z.again (k + 1, sv1, _) (by refine ⟨?_, ?_, ?_, ?_, ?_, ?_, ?_, ?_, ?_, ?_, trivial⟩ <;> (first | rfl | (refine Z.lookv rfl ?_; simp; done) | (refine Z.lookv rfl ?_; simp; omega))) ⟨⟨by simp only; omega, hrest2 _ (hmT hsp54) (fun h => by have h9 := ext_pos.2 h.2; omega)⟩, hs.sel [0, 1, 2, 3] (by decide)⟩ (by simp only; omega)
                      | exact Z.again (k + 1, sv1, _) (by refine ⟨?_, ?_, ?_, ?_, ?_, ?_, ?_, ?_, ?_, ?_, trivial⟩ <;> (first | rfl | (refine Z.lookv rfl ?_; simp; done) | (refine Z.lookv rfl ?_; simp; omega))) ⟨⟨by simp only; omega, hrest2 _ (hmF hsp54) (fun h => by have h9 := ext_pos.2 h.2; have h8 := of_decide_eq_true h.1; first | omega | (have h7 := hc19 h8; omega))⟩, hs.sel [0, 1, 2, 3] (by decide)⟩ (by simp only; omega)
                      )
                · first
                    | (exfalso; simp at hc19 <;> omega)
                    | (
                      (try simp at hc19)
                      refine Z.skip ?_
                      refine Z.nblock ?_
                      refine Z.nthen ?_
                      refine Z.region ?_
                      refine Z.l rfl rfl (by rfl) (Z.keepS hs) (Z.Yd.add rfl rfl (fun hG => Z.wi64 (by first | omega | (have hG' := Z.gh rfl hG; simp at hG'; omega)))) ?_
                      refine Z.lb 1 rfl ?_
                      refine Z.lnil ?_
                      refine Z.only [0, 1, 4, 5, 7, 8, 9, 46, 47, 48] rfl ?_
                      refine Z.nthen ?_
                      first
                      | exact Z.again (k + 1, sv2, _) (by refine ⟨?_, ?_, ?_, ?_, ?_, ?_, ?_, ?_, ?_, ?_, trivial⟩ <;> (first | rfl | (refine Z.lookv rfl ?_; simp; done) | (refine Z.lookv rfl ?_; simp; omega))) ⟨⟨by simp only; omega, hrest1 _ (hmT hsp54) ⟨rfl, hsd⟩⟩, hs.sel [0, 1, 3, 4] (by decide)⟩ (by simp only; omega)
                      | exact Z.again (k + 1, sv2, _) (by refine ⟨?_, ?_, ?_, ?_, ?_, ?_, ?_, ?_, ?_, ?_, trivial⟩ <;> (first | rfl | (refine Z.lookv rfl ?_; simp; done) | (refine Z.lookv rfl ?_; simp; omega))) ⟨⟨by simp only; omega, hrest1 _ (hmF hsp54) ⟨decide_eq_true hc19.1, hsd⟩⟩, hs.sel [0, 1, 3, 4] (by decide)⟩ (by simp only; omega)
                      | exact Z.again (k + 1, sv1, _) (by refine ⟨?_, ?_, ?_, ?_, ?_, ?_, ?_, ?_, ?_, ?_, trivial⟩ <;> (first | rfl | (refine Z.lookv rfl ?_; simp; done) | (refine Z.lookv rfl ?_; simp; omega))) ⟨⟨by simp only; omega, hrest2 _ (hmT hsp54) (fun h => by have h9 := ext_pos.2 h.2; omega)⟩, hs.sel [0, 1, 2, 3] (by decide)⟩ (by simp only; omega)
                      | exact Z.again (k + 1, sv1, _) (by refine ⟨?_, ?_, ?_, ?_, ?_, ?_, ?_, ?_, ?_, ?_, trivial⟩ <;> (first | rfl | (refine Z.lookv rfl ?_; simp; done) | (refine Z.lookv rfl ?_; simp; omega))) ⟨⟨by simp only; omega, hrest2 _ (hmF hsp54) (fun h => by have h9 := ext_pos.2 h.2; have h8 := of_decide_eq_true h.1; first | omega | (have h7 := hc19 h8; omega))⟩, hs.sel [0, 1, 2, 3] (by decide)⟩ (by simp only; omega)
                      )
                )
          )
    · first
        | (exfalso; simp at hc14 <;> omega)
        | (
          (try simp at hc14)
          refine Z.exit ?_
          refine Z.xthen ?_
          refine Z.xthen ?_
          refine Z.xblock ?_
          refine Z.nthen ?_
          refine Z.seq ?_
          refine Z.seq ?_
          refine Z.region ?_
          obtain rfl : k = n := by omega
          rw [List.drop_of_length_le (by simp; omega)] at hacc
          simp only [hdsR, List.nil_append] at hacc
          refine Z.l rfl rfl (by rfl) (Z.keepS hs) (Z.Yd.pure rfl) ?_
          refine Z.lnil ?_
          refine Z.only [0, 1, 4, 5, 7, 8, 90] rfl ?_
          refine Z.nthen ?_
          refine Z.cutt (ι := Value) [0, 1, 4, 5, 7] rfl (fun _ => []) (fun sv wr => SX.St w [] wr (WrL g7 67 sv (unb H) ++ [SX.Ent.blk g5 27 #[.int .i64 0], SX.Ent.blk g4 26 #[.slice none 0 0]])) ?_ ?_
          · skip
            refine Z.cond rfl (fun hc23 => ?_) (fun hc23 => ?_)
            · first
                | (exfalso; simp at hc23 <;> omega)
                | (
                  (try simp at hc23)
                  rw [if_pos (by assumption)] at hacc
                  refine Z.region ?_
                  refine Z.lb 1 rfl ?_
                  refine Z.le rfl trivial ?_
                  refine Z.ZO.call rfl rfl (by rfl) rfl rfl Try.call33 rfl (mm_headI g7 _ sv acc 31 false _ (hs.lend (L1 := WrL _ _ _ _)) (by omega) (by omega)) ?_
                  rintro v24_1 w24_1 ⟨sv1, rfl, hz⟩
                  replace hs := hs.regain hz
                  refine Z.lnil ?_
                  refine Z.only [0, 1, 4, 5, 7] rfl ?_
                  refine Z.nthen ?_
                  exact Z.meet _ (by refine ⟨?_, ?_, ?_, ?_, ?_, trivial⟩ <;> (first | rfl | (refine Z.lookv rfl ?_; simp; done) | (refine Z.lookv rfl ?_; simp; omega))) (by rw [← hacc]; simpa using hs)
                  )
            · first
                | (exfalso; simp at hc23 <;> omega)
                | (
                  (try simp at hc23)
                  rw [if_neg (by simp_all)] at hacc
                  refine Z.skip ?_
                  refine Z.nthen ?_
                  exact Z.meet _ (by refine ⟨?_, ?_, ?_, ?_, ?_, trivial⟩ <;> (first | rfl | (refine Z.lookv rfl ?_; simp; done) | (refine Z.lookv rfl ?_; simp; omega))) (by rw [← hacc]; simpa using hs)
                  )
          · clear hs
            rintro sv w23 hs
            refine Z.only [0, 1, 4, 5, 7] rfl ?_
            refine Z.seq ?_
            refine Z.seq ?_
            refine Z.region ?_
            refine Z.lb 1 rfl ?_
            refine Z.l rfl rfl (by rfl) (Z.keepS hs) (Z.Yd.lenS rfl Try.underlying22) ?_
            refine Z.lb 1 rfl ?_
            refine Z.lnil ?_
            refine Z.only [0, 4, 5, 7, 93, 94, 95] rfl ?_
            refine Z.nthen ?_
            refine Z.block ?_
            refine Z.loopk (ι := Nat × Value) [0, 4, 5, 7, 93, 94] rfl (fun x => [(95, [], .int .i64 (x.1 : Int))]) (fun x wr => x.1 ≤ k ∧ SX.St w [] wr (WrL g7 67 x.2 (unb (H ++ datR ((ps.map MpV.plain).take x.1))) ++ [SX.Ent.blk g5 27 #[.int .i64 0], SX.Ent.blk g4 26 #[.slice none 0 0]])) (fun x => k - x.1) (0, sv) (by refine ⟨?_, trivial⟩ <;> (first | rfl | (refine Z.lookv rfl ?_; simp; done) | (refine Z.lookv rfl ?_; simp; omega))) ⟨Nat.zero_le _, by simpa [datR] using hs⟩ ?_
            clear hs
            rintro ⟨i, sv⟩ w26 ⟨hi, hs⟩
            refine Z.only [0, 4, 5, 7, 93, 94, 95] rfl ?_
            (try dsimp only at hs)
            dsimp only at hi hs
            refine Z.seq ?_
            refine Z.region ?_
            refine Z.lb 1 rfl ?_
            refine Z.lnil ?_
            refine Z.only [0, 4, 5, 7, 93, 94, 95, 96] rfl ?_
            refine Z.nthen ?_
            refine Z.seq ?_
            refine Z.cond rfl (fun hc26 => ?_) (fun hc26 => ?_)
            · first
                | (exfalso; simp at hc26 <;> omega)
                | (
                  (try simp at hc26)
                  obtain ⟨b, off, rfl, hb0, hx2⟩ := Z.Sl.some hx (by rw [fl_len mp_len]; omega)
                  obtain ⟨q, hqi⟩ : ∃ q, ps[i]? = some q := ⟨_, List.getElem?_eq_getElem (by omega)⟩
                  have hqm := List.mem_of_getElem? hqi
                  have hone := mp_one q
                  have hql := (hmem q.plain (List.mem_map_of_mem hqm)).2
                  rw [show q.plain.2 = q.l from rfl] at hql
                  have htl := datR_take (ps.map MpV.plain) i
                  refine Z.skip ?_
                  refine Z.nthen ?_
                  refine Z.seq ?_
                  refine Z.block ?_
                  refine Z.seq ?_
                  refine Z.region ?_
                  refine Z.l rfl rfl (by rfl) (Z.keepS hs) (Z.Yd.elem rfl rfl Try.underlying22 Try.sizeOf47 (fun hG => ⟨(by first | omega | (have hG' := Z.gh rfl hG; simp at hG'; omega)), (by first | omega | (have hG' := Z.gh rfl hG; simp at hG'; omega))⟩)) ?_
                  refine Z.l rfl rfl (by rfl) (Z.keepS hs) (Z.Yd.loadA _ rfl Try.isAgg47 (fun _ W hK j u hu => Z.cellXq (enc := MpV.cells) hx2.sx mp_len hqi hu W hK) (by exact Try.sizeOf47)) ?_
                  refine Z.le rfl trivial ?_
                  refine Z.ZO.alloc rfl rfl (by rfl) Try.zeroValue47 rfl hs ?_
                  clear hs; intro g16 w16 hs
                  refine Z.le rfl trivial ?_
                  first | refine Z.ZO.storeA rfl rfl hs rfl rfl (by kernel_rfl) (by first | (simp [Value.oneCell']; done) | (refine Z.all_one ?_; assumption)) (by first | exact SX.at0 | exact SX.at1 | exact SX.at2 | exact SX.at3 | exact SX.at4 | exact SX.at5 | exact Z.at6 | exact Z.at7 | exact Z.at8 | exact Z.at9 | exact Z.at10 | exact Z.at11 | exact Z.at12) (by rfl) ?_ | refine Z.ZO.storeP rfl rfl hs rfl rfl (by kernel_rfl) (by first | (simp [Value.oneCell']; done) | (refine Z.all_one ?_; assumption)) (by first | exact SX.at0 | exact SX.at1 | exact SX.at2 | exact SX.at3 | exact SX.at4 | exact SX.at5 | exact Z.at6 | exact Z.at7 | exact Z.at8 | exact Z.at9 | exact Z.at10 | exact Z.at11 | exact Z.at12) (by first | decide | (simp; done) | (simp; omega)) ?_ | refine Z.ZO.storePR rfl rfl hs rfl rfl (by kernel_rfl) (by first | (simp [Value.oneCell']; done) | (refine Z.all_one ?_; assumption)) (by first | exact SX.at0 | exact SX.at1 | exact SX.at2 | exact SX.at3 | exact SX.at4 | exact SX.at5 | exact Z.at6 | exact Z.at7 | exact Z.at8 | exact Z.at9 | exact Z.at10 | exact Z.at11 | exact Z.at12) (by first | decide | (simp; done) | (simp; omega)) ?_
                  clear hs; intro ws hs
                  simp only [Nat.zero_add, Nat.add_zero, Nat.reduceAdd, Int.reduceToNat, Nat.reduceMul, List.set_cons_zero, List.set_cons_succ, List.setIfInBounds_toArray] at hs
                  try simp only [Z.putL, Nat.zero_add] at hs
                  refine Z.lnil ?_
                  refine Z.only [0, 4, 5, 7, 16, 93, 94, 95] rfl ?_
                  refine Z.nthen ?_
                  refine Z.region ?_
                  refine Z.l rfl rfl (by rfl) (Z.keepS hs) (Z.Yd.fieldA (m := 1) rfl (by kernel_rfl)) ?_
                  refine Z.l rfl rfl (by rfl) (Z.keepS hs) (Z.Yd.load rfl Try.isAgg26 (fun _ => Z.cellB (cs := q.cells.toArray) (by first | ((repeat (first | exact List.mem_cons_self | refine List.mem_cons_of_mem _ ?_ | refine List.mem_append_right _ ?_)); done) | fail) rfl)) ?_
                  replace hs : SX.St w [] _ (WrL g7 67 sv _ ++ [_, _, _]) := hs.rot (L1 := [_])
                  refine Z.le rfl trivial ?_
                  refine Z.ZO.call rfl rfl (by rfl) rfl rfl Try.call37 rfl (wputbytes_any g7 _ sv _ q.B _ q.c q.l _ (hs.lend (L1 := WrL _ _ _ _)) ((hB q hqm).sx.lent (L1 := WrL _ _ _ _) hs) rfl (by omega) (by rw [unb_length, List.length_append]; omega) (hby q hqm)) ?_
                  rintro v28_2 w28_2 ⟨sv1, rfl, hz⟩
                  replace hs := hs.regain hz
                  refine Z.lnil ?_
                  refine Z.only [0, 4, 5, 7, 93, 94, 95] rfl ?_
                  refine Z.nblock ?_
                  refine Z.nthen ?_
                  refine Z.region ?_
                  refine Z.l rfl rfl (by rfl) (Z.keepS hs) (Z.Yd.add rfl rfl (fun hG => Z.wi64 (by first | omega | (have hG' := Z.gh rfl hG; simp at hG'; omega)))) ?_
                  refine Z.lb 1 rfl ?_
                  refine Z.lnil ?_
                  refine Z.only [0, 4, 5, 7, 93, 94, 95] rfl ?_
                  refine Z.nthen ?_
                  have ed : unb (H ++ datR ((ps.map MpV.plain).take i)) ++ unb q.l = unb (H ++ datR ((ps.map MpV.plain).take (i + 1))) := by
                    rw [plain_take hqi, datR_snoc, ← unb_app, List.append_assoc]
                    rfl
                  rw [ed] at hs
                  exact Z.again (i + 1, sv1) (by refine ⟨?_, ?_, ?_, ?_, ?_, ?_, ?_, trivial⟩ <;> (first | rfl | (refine Z.lookv rfl ?_; simp; done) | (refine Z.lookv rfl ?_; simp; omega))) ⟨by simp only; omega, hs.sel [0, 1, 2, 3] (by decide)⟩ (by simp only; omega)
                  )
            · first
                | (exfalso; simp at hc26 <;> omega)
                | (
                  (try simp at hc26)
                  refine Z.exit ?_
                  refine Z.xthen ?_
                  refine Z.xthen ?_
                  refine Z.xblock ?_
                  refine Z.nthen ?_
                  refine Z.seq ?_
                  refine Z.region ?_
                  obtain rfl : i = k := by omega
                  rw [List.take_of_length_le (by simp; omega)] at hs
                  refine Z.le rfl trivial ?_
                  refine Z.ZO.call rfl rfl (by rfl) rfl rfl Try.call38 rfl (wbytes_any g7 _ sv _ _ (hs.lend (L1 := WrL _ _ _ _)) (by rw [unb_length, List.length_append]; omega)) ?_
                  rintro v30_0 w30_0 hz
                  replace hs := hs.regain hz
                  rw [pk_unb hHb] at hs
                  obtain ⟨Ao, co, rfl, hco, -, -⟩ := SX.row_slv hs (j := 0) rfl
                  simp only [WrL, List.cons_append, List.nil_append] at hs
                  refine Z.le rfl trivial ?_
                  first | refine Z.ZO.store rfl rfl hs Try.sizeOf26 rfl rfl rfl (by first | exact SX.at0 | exact SX.at1 | exact SX.at2 | exact SX.at3 | exact SX.at4 | exact SX.at5 | exact Z.at6 | exact Z.at7 | exact Z.at8 | exact Z.at9 | exact Z.at10 | exact Z.at11 | exact Z.at12) (by first | (simp; done) | (simp; omega)) ?_ | refine Z.ZO.storeR rfl rfl hs Try.sizeOf26 rfl rfl rfl (by first | exact SX.at0 | exact SX.at1 | exact SX.at2 | exact SX.at3 | exact SX.at4 | exact SX.at5 | exact Z.at6 | exact Z.at7 | exact Z.at8 | exact Z.at9 | exact Z.at10 | exact Z.at11 | exact Z.at12) (by first | omega | (simp [ints_length]; done) | (simp [ints_length]; omega)) ?_
                  clear hs; intro ws hs
                  simp only [Nat.zero_add, Nat.add_zero, Nat.reduceAdd, Int.reduceToNat, Nat.reduceMul, List.set_cons_zero, List.set_cons_succ, List.setIfInBounds_toArray] at hs
                  refine Z.lnil ?_
                  refine Z.only [0, 4, 5] rfl ?_
                  refine Z.nthen ?_
                  refine Z.seq ?_
                  refine Z.region ?_
                  refine Z.l rfl rfl (by rfl) (Z.keepS hs) (by first | exact Z.Yd.load rfl Try.isAgg26 (fun _ => Z.cellB (by first | ((repeat (first | exact List.mem_cons_self | refine List.mem_cons_of_mem _ ?_ | refine List.mem_append_right _ ?_)); done) | fail) rfl) | exact Z.Yd.load rfl Try.isAgg26 (fun _ => Z.cellO (by assumption) (by simp) (by assumption)) | fail "load 31.0") ?_
                  refine Z.lb 1 rfl ?_
                  refine Z.l rfl rfl (by rfl) (Z.keepS hs) (by first | exact Z.Yd.load rfl Try.isAgg26 (fun _ => Z.cellB (by first | ((repeat (first | exact List.mem_cons_self | refine List.mem_cons_of_mem _ ?_ | refine List.mem_append_right _ ?_)); done) | fail) rfl) | exact Z.Yd.load rfl Try.isAgg26 (fun _ => Z.cellO (by assumption) (by simp) (by assumption)) | fail "load 31.2") ?_
                  refine Z.l rfl rfl (by rfl) (Z.keepS hs) (Z.Yd.lenS rfl Try.underlying26) ?_
                  refine Z.l rfl rfl (by rfl) (Z.keepS hs) (Z.Yd.sub rfl rfl (fun hG => Z.wi64 (by first | omega | (have hG' := Z.gh rfl hG; simp at hG'; omega)))) ?_
                  refine Z.le rfl trivial ?_
                  refine Z.ZO.appendZ (m := M) (i0 := Try.t5) rfl rfl (by rfl) hs Try.underlying26 Try.underlying3 (by kernel_rfl) rfl rfl rfl rfl rfl rfl rfl (by first | exact SX.at0 | exact SX.at1 | exact SX.at2 | exact SX.at3 | exact SX.at4 | exact SX.at5 | exact Z.at6 | exact Z.at7 | exact Z.at8 | exact Z.at9 | exact Z.at10 | exact Z.at11 | exact Z.at12) (by omega) (by omega) ?_
                  clear hs; intro v109 w109 hs
                  simp only [List.set_cons_zero, List.set_cons_succ] at hs
                  obtain ⟨Av, cv, rfl, -, -, -⟩ := SX.row_slv hs (j := 0) rfl
                  refine Z.le rfl trivial ?_
                  first | refine Z.ZO.store rfl rfl hs Try.sizeOf26 rfl rfl rfl (by first | exact SX.at0 | exact SX.at1 | exact SX.at2 | exact SX.at3 | exact SX.at4 | exact SX.at5 | exact Z.at6 | exact Z.at7 | exact Z.at8 | exact Z.at9 | exact Z.at10 | exact Z.at11 | exact Z.at12) (by first | (simp; done) | (simp; omega)) ?_ | refine Z.ZO.storeR rfl rfl hs Try.sizeOf26 rfl rfl rfl (by first | exact SX.at0 | exact SX.at1 | exact SX.at2 | exact SX.at3 | exact SX.at4 | exact SX.at5 | exact Z.at6 | exact Z.at7 | exact Z.at8 | exact Z.at9 | exact Z.at10 | exact Z.at11 | exact Z.at12) (by first | omega | (simp [ints_length]; done) | (simp [ints_length]; omega)) ?_
                  clear hs; intro ws hs
                  simp only [Nat.zero_add, Nat.add_zero, Nat.reduceAdd, Int.reduceToNat, Nat.reduceMul, List.set_cons_zero, List.set_cons_succ, List.setIfInBounds_toArray] at hs
                  refine Z.le rfl trivial ?_
                  first | refine Z.ZO.store rfl rfl hs Try.sizeOf27 rfl rfl rfl (by first | exact SX.at0 | exact SX.at1 | exact SX.at2 | exact SX.at3 | exact SX.at4 | exact SX.at5 | exact Z.at6 | exact Z.at7 | exact Z.at8 | exact Z.at9 | exact Z.at10 | exact Z.at11 | exact Z.at12) (by first | (simp; done) | (simp; omega)) ?_ | refine Z.ZO.storeR rfl rfl hs Try.sizeOf27 rfl rfl rfl (by first | exact SX.at0 | exact SX.at1 | exact SX.at2 | exact SX.at3 | exact SX.at4 | exact SX.at5 | exact Z.at6 | exact Z.at7 | exact Z.at8 | exact Z.at9 | exact Z.at10 | exact Z.at11 | exact Z.at12) (by first | omega | (simp [ints_length]; done) | (simp [ints_length]; omega)) ?_
                  clear hs; intro ws hs
                  simp only [Nat.zero_add, Nat.add_zero, Nat.reduceAdd, Int.reduceToNat, Nat.reduceMul, List.set_cons_zero, List.set_cons_succ, List.setIfInBounds_toArray] at hs
                  refine Z.lnil ?_
                  refine Z.only [4, 5] rfl ?_
                  refine Z.nthen ?_
                  refine Z.ret ?_
                  -- ret#0
                  refine Z.outDr Try.call29 (mm_caught_ret g5 _ _ _) ?_
                  rintro vD wD ⟨rfl, hy⟩
                  replace hs := hs.call hy
                  refine ⟨[_, _], (by exact ⟨⟨_, rfl, Z.rvc hs Try.isAgg26 (by first | ((repeat (first | exact List.mem_cons_self | refine List.mem_cons_of_mem _ ?_ | refine List.mem_append_right _ ?_)); done) | fail) rfl⟩, ⟨_, rfl, Z.rvc hs Try.isAgg27 (by first | ((repeat (first | exact List.mem_cons_self | refine List.mem_cons_of_mem _ ?_ | refine List.mem_append_right _ ?_)); done) | fail) rfl⟩, trivial⟩), ?_⟩
                  exact ⟨_, rfl, _, rfl, hs.sub ((List.nil_sublist _).cons_cons _)⟩
                  )
          )
theorem mc_Build (size : Int) (A : Option Addr) (n c : Nat) (ps : List MpV) (w : World) (hx : Sl w A (ps.flatMap MpV.cells)) (hl : ps.length = n) (hn : n ≤ 100) (hf : ∀ q ∈ ps, q.l.length ≤ 100000) (hB : ∀ q ∈ ps, Sl w q.B (ints .u8 q.l)) (hby : ∀ q ∈ ps, ∀ x ∈ q.l, 0 ≤ x ∧ x < 256) :
    Calls Try.prog 12 #[.int .i64 size, .slice A n c] w (SX.Ret fun v w' => ∃ sv, v = .tuple #[sv, .int .i64 (bldV size (ps.map MpV.plain)).2] ∧ SX.St w [] w' [SX.Ent.row sv 5 1 (bldV size (ps.map MpV.plain)).1.length (ints .u8 (bldV size (ps.map MpV.plain)).1)]) := by
  have nilr : ∀ (e : Int) (w' : World), SX.St w [] w' [] → ∃ sv, (Value.tuple #[.slice none 0 0, .int .i64 e]) = .tuple #[sv, .int .i64 (([], e) : List Int × Int).2] ∧ SX.St w [] w' [SX.Ent.row sv 5 1 (([], e) : List Int × Int).1.length (ints .u8 (([], e) : List Int × Int).1)] := fun e w' h => ⟨_, rfl, h.nil _ 1⟩
  by_cases h : 1 ≤ size ∧ size ≤ 16384
  · by_cases hno : okN (ps.map MpV.plain)
    · by_cases hd : size - needP (ps.map MpV.plain) < 0
      · rw [bld_long ⟨h, hno⟩ hd]
        refine (mb_long size A n c ps w hx hl hn hf h hno hd).mono ?_
        rintro e w' ⟨v, rfl, rfl, hs⟩
        exact ⟨_, rfl, nilr 4 w' hs⟩
      · obtain ⟨d, hd1⟩ : ∃ d : Nat, size - needP (ps.map MpV.plain) = (d : Int) := ⟨(size - needP (ps.map MpV.plain)).toNat, by omega⟩
        by_cases h2 : d ≤ 2
        · rw [bld_few ⟨h, hno⟩ hd1 h2]
          have hlen := headB_len_f (ps.map MpV.plain) d hno.1
          refine (mb_main size A n c ps w hx hl hn hf hB hby h hno d d 0 false hd1 (by simp; omega) (fun h => by cases h) (fun _ => rfl) (by omega)).mono ?_
          rintro e w' ⟨v, rfl, sv, rfl, hs⟩
          refine ⟨_, rfl, sv, rfl, ?_⟩
          rw [List.replicate_zero, List.append_nil, Nat.add_zero] at hs
          simp only [join_few]
          exact hs
        · have hlen := headB_len_t (ps.map MpV.plain)
          have hnt := need_tot (ps.map MpV.plain)
          rw [bld_pad ⟨h, hno⟩ (by omega)]
          obtain ⟨a, ha⟩ : ∃ a : Nat, size - (totP (ps.map MpV.plain) + 1) = (a : Int) := ⟨(size - (totP (ps.map MpV.plain) + 1)).toNat, by omega⟩
          rw [ha]
          refine (mb_main size A n c ps w hx hl hn hf hB hby h hno d 0 a true hd1 (by simp; omega) (fun _ => rfl) (fun h => by cases h) (by omega)).mono ?_
          rintro e w' ⟨v, rfl, sv, rfl, hs⟩
          refine ⟨_, rfl, sv, rfl, ?_⟩
          simp only [join_tr]
          have e1 : (headB (ps.map MpV.plain) 0 true ++ datR (ps.map MpV.plain) ++ List.replicate a (0 : Int)).length = (headB (ps.map MpV.plain) 0 true ++ datR (ps.map MpV.plain)).length + a := by rw [List.length_append, List.length_replicate]
          have e2 : ints .u8 (headB (ps.map MpV.plain) 0 true ++ datR (ps.map MpV.plain) ++ List.replicate a (0 : Int)) = ints .u8 (headB (ps.map MpV.plain) 0 true ++ datR (ps.map MpV.plain)) ++ List.replicate a (Value.int .u8 0) := by simp [ints]
          rw [e1, e2]
          exact hs
    · rw [bld_arg (fun h => hno h.2)]
      refine (mb_need size A n c ps w hx hl hn hf h hno).mono ?_
      rintro e w' ⟨v, rfl, rfl, hs⟩
      exact ⟨_, rfl, nilr 2 w' hs⟩
  · rw [bld_arg (fun hh => h hh.1)]
    refine (mb_size size A n c w h).mono ?_
    rintro e w' ⟨v, rfl, rfl, hs⟩
    exact ⟨_, rfl, nilr 2 w' hs⟩
end Go.Proofs.Ytogjkgoiofngaaa
