/- Part 6 of the proofs that lead to the statement. -/
import Derived.Test.YtjejdlolgmhljaaY5
namespace Go.Proofs.Ytjejdlolgmhljaa
open Go.RowKit
set_option linter.unusedSimpArgs false
set_option linter.unusedVariables false
set_option maxHeartbeats 1000000 in
set_option maxRecDepth 100000 in
theorem rp_update (g T : Nat) (m : RpV) (t a b c d h : Int) (w : World) (hs : SX.St w (SX.idsOf [SX.Ent.blk g T m.cells.toArray]) w [SX.Ent.blk g T m.cells.toArray]) (hm : m.ok) :
    Calls Try.prog 9 #[.pointer (some ⟨g, 0, none⟩), .int .i64 t, .agg #[.int .i64 a, .int .i64 b, .int .i64 c, .int .i64 d], .int .i64 h] w (SX.Ret fun v w' => v = .int .i64 (updV m t a b c d h).2 ∧ SX.St w (SX.idsOf [SX.Ent.blk g T m.cells.toArray]) w' [SX.Ent.blk g T (updV m t a b c d h).1.cells.toArray]) := by
  generalize hM : SX.idsOf [SX.Ent.blk g T m.cells.toArray] = M at *
  obtain ⟨h1, h2, h3, h4, h5, h6, h7, h8, h9, h10, h11⟩ := hm
  replace hs : SX.St w M w [SX.Ent.blk g T #[.bool (m).reg, .bool (m).per, .bool (m).pow, .bool (m).fst, .bool true, .int .i64 (m).c0, .int .i64 (m).c1, .int .i64 (m).c2, .int .i64 (m).c3, .int .i64 (m).now, .int .i64 (m).b0, .int .i64 (m).b1, .int .i64 (m).b2, .int .i64 (m).b3, .int .i64 (m).head, .int .i64 (m).last, .int .i64 (m).lastP, .int .i64 (m).told]] := hs
  refine Z.enter Try.func9 rfl Try.ntmps9 rfl rfl ?_
  refine Z.seq ?_
  refine Z.region ?_
  refine Z.le rfl trivial ?_
  refine Z.ZO.box rfl rfl (by rfl) rfl rfl hs ?_
  clear hs; intro g6 w6 hs
  refine Z.lb 1 rfl ?_
  refine Z.lnil ?_
  refine Z.only [0, 1, 3, 6] rfl ?_
  refine Z.nthen ?_
  refine Z.scopeJ (ι := Unit) 0 rfl [] rfl (fun _ => [(8, [], .int .i64 (2 : Int))]) (fun _ wr => (¬ okU m t a b c d h) ∧ SX.St w M wr [SX.Ent.blk g T m.cells.toArray]) ?_ ?_
  · skip
    refine Z.seq ?_
    refine Z.region ?_
    refine Z.lb 2 rfl ?_
    refine Z.lnil ?_
    refine Z.only [0, 1, 3, 6] rfl ?_
    refine Z.nthen ?_
    refine Z.seq ?_
    refine Z.seq ?_
    refine Z.region ?_
    refine Z.lb 1 rfl ?_
    refine Z.lnil ?_
    refine Z.only [0, 1, 3, 6, 8] rfl ?_
    refine Z.nthen ?_
    refine Z.seq ?_
    refine Z.region ?_
    refine Z.lb 1 rfl ?_
    refine Z.le rfl trivial ?_
    refine Z.ZO.call rfl rfl (by rfl) rfl rfl Try.call24 rfl (rp_none g m _ (hs.celOf (by first | ((repeat (first | exact List.mem_cons_self | refine List.mem_cons_of_mem _ ?_ | refine List.mem_append_right _ ?_)); done) | fail))) ?_
    rintro v3_1 w3_1 ⟨rfl, hy⟩
    replace hs := hs.call hy
    clear hy
    try simp only [List.cons_append, List.nil_append, List.append_nil] at hs
    refine Z.lnil ?_
    refine Z.only [0, 1, 3, 6, 8, 12] rfl ?_
    refine Z.nthen ?_
    refine Z.cond rfl (fun h => absurd h (by simp)) (fun hc3 => ?_)
    refine Z.skip ?_
    refine Z.nthen ?_
    refine Z.seq ?_
    refine Z.seq ?_
    refine Z.region ?_
    refine Z.lb 1 rfl ?_
    refine Z.lnil ?_
    refine Z.only [0, 1, 3, 6, 8] rfl ?_
    refine Z.nthen ?_
    refine Z.seq ?_
    refine Z.region ?_
    refine Z.lb 2 rfl ?_
    refine Z.le rfl trivial ?_
    refine Z.ZO.call rfl rfl (by rfl) rfl rfl Try.call25 rfl (rp_valid g m t _ (hs.celOf (by first | ((repeat (first | exact List.mem_cons_self | refine List.mem_cons_of_mem _ ?_ | refine List.mem_append_right _ ?_)); done) | fail))) ?_
    rintro v5_2 w5_2 ⟨rfl, hy⟩
    replace hs := hs.call hy
    clear hy
    try simp only [List.cons_append, List.nil_append, List.append_nil] at hs
    refine Z.lb 2 rfl ?_
    refine Z.split (s := 17) rfl (fun hsp17 => ?_) (fun hsp17 => ?_)
    · first
        | (exfalso; simp at hsp17 <;> omega)
        | (
          refine Z.yes (s := 17) (b := true) rfl hsp17 rfl ?_
          (try simp at hsp17)
          refine Z.ls rfl rfl rfl (by rfl) ?_
          refine Z.ls rfl rfl rfl (by rfl) ?_
          refine Z.ls rfl rfl rfl (by rfl) ?_
          refine Z.l rfl rfl (by rfl) (Z.keepS hs) (Z.Yd.pickT rfl rfl) ?_
          refine Z.lb 1 rfl ?_
          refine Z.split (s := 22) rfl (fun hsp22 => ?_) (fun hsp22 => ?_)
          · first
              | (exfalso; simp at hsp22 <;> omega)
              | (
                refine Z.yes (s := 22) (b := true) rfl hsp22 rfl ?_
                (try simp at hsp22)
                refine Z.ls rfl rfl rfl (by rfl) ?_
                refine Z.ls rfl rfl rfl (by rfl) ?_
                refine Z.ls rfl rfl rfl (by rfl) ?_
                refine Z.ls rfl rfl rfl (by rfl) ?_
                refine Z.l rfl rfl (by rfl) (Z.keepS hs) (Z.Yd.pickT rfl rfl) ?_
                refine Z.lnil ?_
                refine Z.only [0, 1, 3, 6, 8, 27] rfl ?_
                refine Z.nthen ?_
                refine Z.cond rfl (fun hc5 => ?_) (fun hc5 => ?_)
                · first
                    | (exfalso; simp at hc5 <;> omega)
                    | (
                      (try simp at hc5)
                      have hno : ¬ okU m t a b c d h := by intro ⟨hh, hh2, hh3⟩; first | omega | exact absurd hh2 (by assumption) | exact absurd hh3 (by assumption) | simp_all
                      refine Z.goto ?_
                      refine Z.gthen ?_
                      refine Z.gjump ?_
                      first | exact Z.meet () (by refine ⟨?_, trivial⟩ <;> (first | rfl | (refine Z.lookv rfl ?_; simp; done) | (refine Z.lookv rfl ?_; simp; omega))) ⟨by assumption, hs.sel [1] (by decide)⟩ | exact Z.meet () (by refine ⟨?_, trivial⟩ <;> (first | rfl | (refine Z.lookv rfl ?_; simp; done) | (refine Z.lookv rfl ?_; simp; omega))) ⟨by assumption, hs.sel [2] (by decide)⟩
                      )
                · first
                    | (exfalso; simp at hc5 <;> omega)
                    | (
                      (try simp at hc5)
                      have hok : okU m t a b c d h := by unfold okU; first | (simp_all; done) | (refine ⟨by omega, ?_, ?_⟩ <;> simp_all)
                      have eU : updV m t a b c d h = (updG m t a b c d h, 0) := if_pos hok
                      obtain ⟨⟨u1, u2⟩, ⟨u3, u4, u5, u6⟩, u7⟩ := (okU_iff m t a b c d h).1 hok
                      rw [eU]
                      refine Z.skip ?_
                      refine Z.nthen ?_
                      refine Z.seq ?_
                      refine Z.drawK (fun _ => true) mixed hs ?_
                      clear hs; intro wd6 hs
                      refine Z.tb [0] (by kernel_rfl) rfl ⟨_, hs, by first | (simp; done) | exact fun e he => List.mem_append_right _ he⟩ rfl ?_
                      refine Z.t 1 rfl rfl rfl (by rfl) (by kernel_rfl) ⟨_, hs, by first | (simp; done) | exact fun e he => List.mem_append_right _ he⟩ (Z.Yd.nilc rfl rfl) ?_
                      refine Z.t 2 rfl rfl rfl (by rfl) (by kernel_rfl) ⟨_, hs, by first | (simp; done) | exact fun e he => List.mem_append_right _ he⟩ (Z.Yd.fieldA (m := 10) rfl (by kernel_rfl)) ?_
                      refine Z.t 3 rfl rfl rfl (by rfl) (by kernel_rfl) ⟨_, hs, by first | (simp; done) | exact fun e he => List.mem_append_right _ he⟩ (Z.Yd.loadA _ rfl Try.isAgg22 (fun _ => Z.cellsBo (cs := m.cells) [.int .i64 (m).b0, .int .i64 (m).b1, .int .i64 (m).b2, .int .i64 (m).b3] (by first | ((repeat (first | exact List.mem_cons_self | refine List.mem_cons_of_mem _ ?_ | refine List.mem_append_right _ ?_)); done) | fail) ⟨[_, _, _, _], rfl⟩) (by exact Try.sizeOf22)) ?_
                      refine Z.t 5 rfl rfl rfl (by rfl) (by kernel_rfl) ⟨_, hs, by first | (simp; done) | exact fun e he => List.mem_append_right _ he⟩ (by first | exact Z.Yd.loadA _ rfl Try.isAgg22 (fun _ => Z.cellsB (by first | ((repeat (first | exact List.mem_cons_self | refine List.mem_cons_of_mem _ ?_ | refine List.mem_append_right _ ?_)); done) | fail)) (by exact Try.sizeOf22) | fail "load 6.5") ?_
                      refine Z.tn 4 rfl rfl (by kernel_rfl) rfl trivial ?_
                      refine Z.ZO.call rfl rfl (by rfl) rfl rfl Try.call26 rfl (rp_group m.b0 m.b1 m.b2 m.b3 _) ?_
                      rintro v6_4 w6_4 ⟨rfl, hy⟩
                      replace hs := hs.call hy
                      clear hy
                      try simp only [List.cons_append, List.nil_append, List.append_nil] at hs
                      refine Z.tk (Dn := fun _ => true) (i := 4) (fun _ => ⟨_, hs, by first | (simp; done) | exact fun e he => List.mem_append_right _ he⟩) ?_
                      refine Z.tn 6 rfl rfl (by kernel_rfl) rfl trivial ?_
                      refine Z.ZO.call rfl rfl (by rfl) rfl rfl Try.call26 rfl (rp_group a b c d _) ?_
                      rintro v6_6 w6_6 ⟨rfl, hy⟩
                      replace hs := hs.call hy
                      clear hy
                      try simp only [List.cons_append, List.nil_append, List.append_nil] at hs
                      refine Z.tk (Dn := fun _ => true) (i := 6) (fun _ => ⟨_, hs, by first | (simp; done) | exact fun e he => List.mem_append_right _ he⟩) ?_
                      refine Z.tb [7, 8] (by kernel_rfl) rfl ⟨_, hs, by first | (simp; done) | exact fun e he => List.mem_append_right _ he⟩ rfl ?_
                      refine Z.td (by rfl) (by kernel_rfl) ?_
                      refine Z.only [0, 1, 3, 6, 9, 10] rfl ?_
                      refine Z.nthen ?_
                      refine Z.seq ?_
                      refine Z.region ?_
                      refine Z.lb 4 rfl ?_
                      refine Z.l rfl rfl (by rfl) (Z.keepS hs) (by first | exact Z.Yd.loadA _ rfl Try.isAgg22 (fun _ => Z.cellsB (by first | ((repeat (first | exact List.mem_cons_self | refine List.mem_cons_of_mem _ ?_ | refine List.mem_append_right _ ?_)); done) | fail)) (by exact Try.sizeOf22) | fail "load 7.4") ?_
                      refine Z.lb 1 rfl ?_
                      refine Z.l rfl rfl (by rfl) (Z.keepS hs) (Z.Yd.nilc rfl rfl) ?_
                      refine Z.l rfl rfl (by rfl) (Z.keepS hs) (Z.Yd.fieldA (m := 9) rfl (by kernel_rfl)) ?_
                      refine Z.le rfl trivial ?_
                      first | refine Z.ZO.store rfl rfl hs Try.sizeOf3 rfl rfl rfl (by first | exact SX.at0 | exact SX.at1 | exact SX.at2 | exact SX.at3 | exact SX.at4 | exact SX.at5 | exact Z.at6 | exact Z.at7 | exact Z.at8 | exact Z.at9 | exact Z.at10 | exact Z.at11 | exact Z.at12) (by first | (simp; done) | (simp; omega)) ?_ | refine Z.ZO.storeR rfl rfl hs Try.sizeOf3 rfl rfl rfl (by first | exact SX.at0 | exact SX.at1 | exact SX.at2 | exact SX.at3 | exact SX.at4 | exact SX.at5 | exact Z.at6 | exact Z.at7 | exact Z.at8 | exact Z.at9 | exact Z.at10 | exact Z.at11 | exact Z.at12) (by first | omega | (simp [ints_length]; done) | (simp [ints_length]; omega)) ?_
                      clear hs; intro ws hs
                      simp only [Nat.zero_add, Nat.add_zero, Nat.reduceAdd, Int.reduceToNat, Nat.reduceMul, List.set_cons_zero, List.set_cons_succ, List.setIfInBounds_toArray] at hs
                      refine Z.l rfl rfl (by rfl) (Z.keepS hs) (Z.Yd.nilc rfl rfl) ?_
                      refine Z.l rfl rfl (by rfl) (Z.keepS hs) (Z.Yd.fieldA (m := 10) rfl (by kernel_rfl)) ?_
                      refine Z.le rfl trivial ?_
                      first | refine Z.ZO.storeA rfl rfl hs rfl rfl (by kernel_rfl) (by first | (simp [Value.oneCell']; done) | (refine Z.all_one ?_; assumption)) (by first | exact SX.at0 | exact SX.at1 | exact SX.at2 | exact SX.at3 | exact SX.at4 | exact SX.at5 | exact Z.at6 | exact Z.at7 | exact Z.at8 | exact Z.at9 | exact Z.at10 | exact Z.at11 | exact Z.at12) (by rfl) ?_ | refine Z.ZO.storeP rfl rfl hs rfl rfl (by kernel_rfl) (by first | (simp [Value.oneCell']; done) | (refine Z.all_one ?_; assumption)) (by first | exact SX.at0 | exact SX.at1 | exact SX.at2 | exact SX.at3 | exact SX.at4 | exact SX.at5 | exact Z.at6 | exact Z.at7 | exact Z.at8 | exact Z.at9 | exact Z.at10 | exact Z.at11 | exact Z.at12) (by first | decide | (simp; done) | (simp; omega)) ?_ | refine Z.ZO.storePR rfl rfl hs rfl rfl (by kernel_rfl) (by first | (simp [Value.oneCell']; done) | (refine Z.all_one ?_; assumption)) (by first | exact SX.at0 | exact SX.at1 | exact SX.at2 | exact SX.at3 | exact SX.at4 | exact SX.at5 | exact Z.at6 | exact Z.at7 | exact Z.at8 | exact Z.at9 | exact Z.at10 | exact Z.at11 | exact Z.at12) (by first | decide | (simp; done) | (simp; omega)) ?_
                      clear hs; intro ws hs
                      simp only [Nat.zero_add, Nat.add_zero, Nat.reduceAdd, Int.reduceToNat, Nat.reduceMul, List.set_cons_zero, List.set_cons_succ, List.setIfInBounds_toArray] at hs
                      try simp only [Z.putL, Nat.zero_add] at hs
                      refine Z.l rfl rfl (by rfl) (Z.keepS hs) (Z.Yd.nilc rfl rfl) ?_
                      refine Z.l rfl rfl (by rfl) (Z.keepS hs) (Z.Yd.fieldA (m := 14) rfl (by kernel_rfl)) ?_
                      refine Z.le rfl trivial ?_
                      first | refine Z.ZO.store rfl rfl hs Try.sizeOf3 rfl rfl rfl (by first | exact SX.at0 | exact SX.at1 | exact SX.at2 | exact SX.at3 | exact SX.at4 | exact SX.at5 | exact Z.at6 | exact Z.at7 | exact Z.at8 | exact Z.at9 | exact Z.at10 | exact Z.at11 | exact Z.at12) (by first | (simp; done) | (simp; omega)) ?_ | refine Z.ZO.storeR rfl rfl hs Try.sizeOf3 rfl rfl rfl (by first | exact SX.at0 | exact SX.at1 | exact SX.at2 | exact SX.at3 | exact SX.at4 | exact SX.at5 | exact Z.at6 | exact Z.at7 | exact Z.at8 | exact Z.at9 | exact Z.at10 | exact Z.at11 | exact Z.at12) (by first | omega | (simp [ints_length]; done) | (simp [ints_length]; omega)) ?_
                      clear hs; intro ws hs
                      simp only [Nat.zero_add, Nat.add_zero, Nat.reduceAdd, Int.reduceToNat, Nat.reduceMul, List.set_cons_zero, List.set_cons_succ, List.setIfInBounds_toArray] at hs
                      refine Z.lnil ?_
                      refine Z.only [0, 9, 10] rfl ?_
                      refine Z.nthen ?_
                      refine Z.seq ?_
                      refine Z.seq ?_
                      refine Z.region ?_
                      obtain ⟨R, hR⟩ : ∃ R, R = (updG m t a b c d h).reg := ⟨_, rfl⟩
                      obtain ⟨Q, hQ⟩ : ∃ R, R = (updG m t a b c d h).per := ⟨_, rfl⟩
                      obtain ⟨X, hX⟩ : ∃ R, R = (updG m t a b c d h).pow := ⟨_, rfl⟩
                      have eA : updG m t a b c d h = { m with reg := R, per := Q, pow := X, now := t, b0 := a, b1 := b, b2 := c, b3 := d, head := h } := by rw [hR, hQ, hX]; rfl
                      simp only [updG] at hR hQ hX
                      replace hs : SX.St w M _ [SX.Ent.blk g T ({ m with now := t, b0 := a, b1 := b, b2 := c, b3 := d, head := h } : RpV).cells.toArray] := hs.sel [2] (by decide)
                      refine Z.l rfl rfl (by rfl) (Z.keepS hs) (Z.Yd.pure rfl) ?_
                      refine Z.lb 1 rfl ?_
                      refine Z.lnil ?_
                      refine Z.only [0, 9, 10, 48] rfl ?_
                      refine Z.nthen ?_
                      refine Z.cutt (ι := Unit) [0] rfl (fun _ => []) (fun _ wr => SX.St w M wr [SX.Ent.blk g T ({ m with reg := R, per := Q, now := t, b0 := a, b1 := b, b2 := c, b3 := d, head := h } : RpV).cells.toArray]) ?_ ?_
                      · skip
                        refine Z.cond rfl (fun hc8 => ?_) (fun hc8 => ?_)
                        · first
                            | (exfalso; simp at hc8 <;> omega)
                            | (
                              (try simp at hc8)
                              rw [if_pos (by assumption)] at hR hQ
                              replace hs : SX.St w M _ [SX.Ent.blk g T #[.bool ({ m with now := t, b0 := a, b1 := b, b2 := c, b3 := d, head := h }).reg, .bool ({ m with now := t, b0 := a, b1 := b, b2 := c, b3 := d, head := h }).per, .bool ({ m with now := t, b0 := a, b1 := b, b2 := c, b3 := d, head := h }).pow, .bool ({ m with now := t, b0 := a, b1 := b, b2 := c, b3 := d, head := h }).fst, .bool true, .int .i64 ({ m with now := t, b0 := a, b1 := b, b2 := c, b3 := d, head := h }).c0, .int .i64 ({ m with now := t, b0 := a, b1 := b, b2 := c, b3 := d, head := h }).c1, .int .i64 ({ m with now := t, b0 := a, b1 := b, b2 := c, b3 := d, head := h }).c2, .int .i64 ({ m with now := t, b0 := a, b1 := b, b2 := c, b3 := d, head := h }).c3, .int .i64 ({ m with now := t, b0 := a, b1 := b, b2 := c, b3 := d, head := h }).now, .int .i64 ({ m with now := t, b0 := a, b1 := b, b2 := c, b3 := d, head := h }).b0, .int .i64 ({ m with now := t, b0 := a, b1 := b, b2 := c, b3 := d, head := h }).b1, .int .i64 ({ m with now := t, b0 := a, b1 := b, b2 := c, b3 := d, head := h }).b2, .int .i64 ({ m with now := t, b0 := a, b1 := b, b2 := c, b3 := d, head := h }).b3, .int .i64 ({ m with now := t, b0 := a, b1 := b, b2 := c, b3 := d, head := h }).head, .int .i64 ({ m with now := t, b0 := a, b1 := b, b2 := c, b3 := d, head := h }).last, .int .i64 ({ m with now := t, b0 := a, b1 := b, b2 := c, b3 := d, head := h }).lastP, .int .i64 ({ m with now := t, b0 := a, b1 := b, b2 := c, b3 := d, head := h }).told]] := hs
                              refine Z.region ?_
                              refine Z.lb 2 rfl ?_
                              refine Z.l rfl rfl (by rfl) (Z.keepS hs) (Z.Yd.nilc rfl rfl) ?_
                              refine Z.l rfl rfl (by rfl) (Z.keepS hs) (Z.Yd.fieldA (m := 0) rfl (by kernel_rfl)) ?_
                              refine Z.l rfl rfl (by rfl) (Z.keepS hs) (Z.Yd.fieldA (m := 0) rfl (by kernel_rfl)) ?_
                              refine Z.le rfl trivial ?_
                              first | refine Z.ZO.store rfl rfl hs Try.sizeOf4 rfl rfl rfl (by first | exact SX.at0 | exact SX.at1 | exact SX.at2 | exact SX.at3 | exact SX.at4 | exact SX.at5 | exact Z.at6 | exact Z.at7 | exact Z.at8 | exact Z.at9 | exact Z.at10 | exact Z.at11 | exact Z.at12) (by first | (simp; done) | (simp; omega)) ?_ | refine Z.ZO.storeR rfl rfl hs Try.sizeOf4 rfl rfl rfl (by first | exact SX.at0 | exact SX.at1 | exact SX.at2 | exact SX.at3 | exact SX.at4 | exact SX.at5 | exact Z.at6 | exact Z.at7 | exact Z.at8 | exact Z.at9 | exact Z.at10 | exact Z.at11 | exact Z.at12) (by first | omega | (simp [ints_length]; done) | (simp [ints_length]; omega)) ?_
                              clear hs; intro ws hs
                              simp only [Nat.zero_add, Nat.add_zero, Nat.reduceAdd, Int.reduceToNat, Nat.reduceMul, List.set_cons_zero, List.set_cons_succ, List.setIfInBounds_toArray] at hs
                              refine Z.l rfl rfl (by rfl) (Z.keepS hs) (Z.Yd.nilc rfl rfl) ?_
                              refine Z.l rfl rfl (by rfl) (Z.keepS hs) (Z.Yd.fieldA (m := 0) rfl (by kernel_rfl)) ?_
                              refine Z.l rfl rfl (by rfl) (Z.keepS hs) (Z.Yd.fieldA (m := 1) rfl (by kernel_rfl)) ?_
                              refine Z.le rfl trivial ?_
                              first | refine Z.ZO.store rfl rfl hs Try.sizeOf4 rfl rfl rfl (by first | exact SX.at0 | exact SX.at1 | exact SX.at2 | exact SX.at3 | exact SX.at4 | exact SX.at5 | exact Z.at6 | exact Z.at7 | exact Z.at8 | exact Z.at9 | exact Z.at10 | exact Z.at11 | exact Z.at12) (by first | (simp; done) | (simp; omega)) ?_ | refine Z.ZO.storeR rfl rfl hs Try.sizeOf4 rfl rfl rfl (by first | exact SX.at0 | exact SX.at1 | exact SX.at2 | exact SX.at3 | exact SX.at4 | exact SX.at5 | exact Z.at6 | exact Z.at7 | exact Z.at8 | exact Z.at9 | exact Z.at10 | exact Z.at11 | exact Z.at12) (by first | omega | (simp [ints_length]; done) | (simp [ints_length]; omega)) ?_
                              clear hs; intro ws hs
                              simp only [Nat.zero_add, Nat.add_zero, Nat.reduceAdd, Int.reduceToNat, Nat.reduceMul, List.set_cons_zero, List.set_cons_succ, List.setIfInBounds_toArray] at hs
                              refine Z.lnil ?_
                              refine Z.only [0] rfl ?_
                              refine Z.nthen ?_
                              first | exact Z.meet () (by refine ⟨?_, trivial⟩ <;> (first | rfl | (refine Z.lookv rfl ?_; simp; done) | (refine Z.lookv rfl ?_; simp; omega))) (by rw [hR, hQ]; exact hs) | exact Z.meet () (by refine ⟨?_, trivial⟩ <;> (first | rfl | (refine Z.lookv rfl ?_; simp; done) | (refine Z.lookv rfl ?_; simp; omega))) (by rw [show Q = true by rw [hQ]; simp_all]; exact hs) | exact Z.meet () (by refine ⟨?_, trivial⟩ <;> (first | rfl | (refine Z.lookv rfl ?_; simp; done) | (refine Z.lookv rfl ?_; simp; omega))) (by rw [show Q = dueV m.c0 m.last t by rw [hQ]; simp_all]; exact hs)
                              )
                        · first
                            | (exfalso; simp at hc8 <;> omega)
                            | (
                              (try simp at hc8)
                              rw [if_neg (by assumption)] at hR hQ
                              replace hs : SX.St w M _ [SX.Ent.blk g T #[.bool ({ m with now := t, b0 := a, b1 := b, b2 := c, b3 := d, head := h }).reg, .bool ({ m with now := t, b0 := a, b1 := b, b2 := c, b3 := d, head := h }).per, .bool ({ m with now := t, b0 := a, b1 := b, b2 := c, b3 := d, head := h }).pow, .bool ({ m with now := t, b0 := a, b1 := b, b2 := c, b3 := d, head := h }).fst, .bool true, .int .i64 ({ m with now := t, b0 := a, b1 := b, b2 := c, b3 := d, head := h }).c0, .int .i64 ({ m with now := t, b0 := a, b1 := b, b2 := c, b3 := d, head := h }).c1, .int .i64 ({ m with now := t, b0 := a, b1 := b, b2 := c, b3 := d, head := h }).c2, .int .i64 ({ m with now := t, b0 := a, b1 := b, b2 := c, b3 := d, head := h }).c3, .int .i64 ({ m with now := t, b0 := a, b1 := b, b2 := c, b3 := d, head := h }).now, .int .i64 ({ m with now := t, b0 := a, b1 := b, b2 := c, b3 := d, head := h }).b0, .int .i64 ({ m with now := t, b0 := a, b1 := b, b2 := c, b3 := d, head := h }).b1, .int .i64 ({ m with now := t, b0 := a, b1 := b, b2 := c, b3 := d, head := h }).b2, .int .i64 ({ m with now := t, b0 := a, b1 := b, b2 := c, b3 := d, head := h }).b3, .int .i64 ({ m with now := t, b0 := a, b1 := b, b2 := c, b3 := d, head := h }).head, .int .i64 ({ m with now := t, b0 := a, b1 := b, b2 := c, b3 := d, head := h }).last, .int .i64 ({ m with now := t, b0 := a, b1 := b, b2 := c, b3 := d, head := h }).lastP, .int .i64 ({ m with now := t, b0 := a, b1 := b, b2 := c, b3 := d, head := h }).told]] := hs
                              refine Z.seq ?_
                              refine Z.cutt (ι := Unit) [0] rfl (fun _ => []) (fun _ wr => SX.St w M wr [SX.Ent.blk g T ({ m with reg := R, now := t, b0 := a, b1 := b, b2 := c, b3 := d, head := h } : RpV).cells.toArray]) ?_ ?_
                              · skip
                                refine Z.drawK (fun j => j != 27) mixed hs ?_
                                clear hs; intro wd10 hs
                                refine Z.tb [0, 1] (by kernel_rfl) rfl ⟨_, hs, by first | (simp; done) | exact fun e he => List.mem_append_right _ he⟩ rfl ?_
                                refine Z.t 2 rfl rfl rfl (by rfl) (by kernel_rfl) ⟨_, hs, by first | (simp; done) | exact fun e he => List.mem_append_right _ he⟩ (Z.Yd.nilc rfl rfl) ?_
                                refine Z.t 3 rfl rfl rfl (by rfl) (by kernel_rfl) ⟨_, hs, by first | (simp; done) | exact fun e he => List.mem_append_right _ he⟩ (Z.Yd.fieldA (m := 0) rfl (by kernel_rfl)) ?_
                                refine Z.t 4 rfl rfl rfl (by rfl) (by kernel_rfl) ⟨_, hs, by first | (simp; done) | exact fun e he => List.mem_append_right _ he⟩ (Z.Yd.fieldA (m := 0) rfl (by kernel_rfl)) ?_
                                refine Z.t 5 rfl rfl rfl (by rfl) (by kernel_rfl) ⟨_, hs, by first | (simp; done) | exact fun e he => List.mem_append_right _ he⟩ (by first | exact Z.Yd.load rfl Try.isAgg4 (fun _ => Z.cellB (by first | ((repeat (first | exact List.mem_cons_self | refine List.mem_cons_of_mem _ ?_ | refine List.mem_append_right _ ?_)); done) | fail) rfl) | exact Z.Yd.load rfl Try.isAgg4 (fun _ => Z.cellO (by assumption) (by simp) (by assumption)) | fail "load 10.5") ?_
                                refine Z.tb [6, 7, 8, 9, 10, 11, 12, 13] (by kernel_rfl) rfl ⟨_, hs, by first | (simp; done) | exact fun e he => List.mem_append_right _ he⟩ rfl ?_
                                refine Z.t 14 rfl rfl rfl (by rfl) (by kernel_rfl) ⟨_, hs, by first | (simp; done) | exact fun e he => List.mem_append_right _ he⟩ (Z.Yd.nilc rfl rfl) ?_
                                refine Z.t 15 rfl rfl rfl (by rfl) (by kernel_rfl) ⟨_, hs, by first | (simp; done) | exact fun e he => List.mem_append_right _ he⟩ (Z.Yd.fieldA (m := 5) rfl (by kernel_rfl)) ?_
                                refine Z.t 16 rfl rfl rfl (by rfl) (by kernel_rfl) ⟨_, hs, by first | (simp; done) | exact fun e he => List.mem_append_right _ he⟩ (Z.Yd.fieldA (m := 1) rfl (by kernel_rfl)) ?_
                                refine Z.t 17 rfl rfl rfl (by rfl) (by kernel_rfl) ⟨_, hs, by first | (simp; done) | exact fun e he => List.mem_append_right _ he⟩ (by first | exact Z.Yd.load rfl Try.isAgg3 (fun _ => Z.cellB (by first | ((repeat (first | exact List.mem_cons_self | refine List.mem_cons_of_mem _ ?_ | refine List.mem_append_right _ ?_)); done) | fail) rfl) | exact Z.Yd.load rfl Try.isAgg3 (fun _ => Z.cellO (by assumption) (by simp) (by assumption)) | fail "load 10.17") ?_
                                refine Z.tb [18] (by kernel_rfl) rfl ⟨_, hs, by first | (simp; done) | exact fun e he => List.mem_append_right _ he⟩ rfl ?_
                                refine Z.t 19 rfl rfl rfl (by rfl) (by kernel_rfl) ⟨_, hs, by first | (simp; done) | exact fun e he => List.mem_append_right _ he⟩ (Z.Yd.nilc rfl rfl) ?_
                                refine Z.t 20 rfl rfl rfl (by rfl) (by kernel_rfl) ⟨_, hs, by first | (simp; done) | exact fun e he => List.mem_append_right _ he⟩ (Z.Yd.fieldA (m := 15) rfl (by kernel_rfl)) ?_
                                refine Z.t 21 rfl rfl rfl (by rfl) (by kernel_rfl) ⟨_, hs, by first | (simp; done) | exact fun e he => List.mem_append_right _ he⟩ (by first | exact Z.Yd.load rfl Try.isAgg3 (fun _ => Z.cellB (by first | ((repeat (first | exact List.mem_cons_self | refine List.mem_cons_of_mem _ ?_ | refine List.mem_append_right _ ?_)); done) | fail) rfl) | exact Z.Yd.load rfl Try.isAgg3 (fun _ => Z.cellO (by assumption) (by simp) (by assumption)) | fail "load 10.21") ?_
                                refine Z.split (s := 68) rfl (fun hsp68 => ?_) (fun hsp68 => ?_)
                                · first
                                    | (exfalso; simp at hsp68 <;> omega)
                                    | (
                                      refine Z.yes (s := 68) (b := true) rfl hsp68 rfl ?_
                                      (try simp at hsp68)
                                      refine Z.tnS 68 false 22 rfl rfl (by kernel_rfl) rfl rfl (by simp) rfl (by rfl) (fun _ => ⟨_, hs, by first | (simp; done) | exact fun e he => List.mem_append_right _ he⟩) ?_
                                      refine Z.t 23 rfl rfl rfl (by rfl) (by kernel_rfl) ⟨_, hs, by first | (simp; done) | exact fun e he => List.mem_append_right _ he⟩ (Z.Yd.pickT rfl rfl) ?_
                                      refine Z.tn 24 rfl rfl (by kernel_rfl) rfl trivial ?_
                                      refine Z.ZO.quiet rfl (by rfl) (Z.keepS hs) (Z.Yd.nilc rfl rfl) ?_
                                      refine Z.tk (Dn := fun j => j != 27) (i := 24) (fun _ => ⟨_, hs, by first | (simp; done) | exact fun e he => List.mem_append_right _ he⟩) ?_
                                      refine Z.tn 25 rfl rfl (by kernel_rfl) rfl trivial ?_
                                      refine Z.ZO.quiet rfl (by rfl) (Z.keepS hs) (Z.Yd.fieldA (m := 0) rfl (by kernel_rfl)) ?_
                                      refine Z.tk (Dn := fun j => j != 27) (i := 25) (fun _ => ⟨_, hs, by first | (simp; done) | exact fun e he => List.mem_append_right _ he⟩) ?_
                                      refine Z.t 26 rfl rfl rfl (by rfl) (by kernel_rfl) ⟨_, hs, by first | (simp; done) | exact fun e he => List.mem_append_right _ he⟩ (Z.Yd.fieldA (m := 0) rfl (by kernel_rfl)) ?_
                                      refine Z.tn 27 rfl rfl (by kernel_rfl) rfl trivial ?_
                                      first | refine Z.ZO.store rfl rfl hs Try.sizeOf4 rfl rfl rfl (by first | exact SX.at0 | exact SX.at1 | exact SX.at2 | exact SX.at3 | exact SX.at4 | exact SX.at5 | exact Z.at6 | exact Z.at7 | exact Z.at8 | exact Z.at9 | exact Z.at10 | exact Z.at11 | exact Z.at12) (by first | (simp; done) | (simp; omega)) ?_ | refine Z.ZO.storeR rfl rfl hs Try.sizeOf4 rfl rfl rfl (by first | exact SX.at0 | exact SX.at1 | exact SX.at2 | exact SX.at3 | exact SX.at4 | exact SX.at5 | exact Z.at6 | exact Z.at7 | exact Z.at8 | exact Z.at9 | exact Z.at10 | exact Z.at11 | exact Z.at12) (by first | omega | (simp [ints_length]; done) | (simp [ints_length]; omega)) ?_
                                      clear hs; intro ws hs
                                      simp only [Nat.zero_add, Nat.add_zero, Nat.reduceAdd, Int.reduceToNat, Nat.reduceMul, List.set_cons_zero, List.set_cons_succ, List.setIfInBounds_toArray] at hs
                                      refine Z.tk (Dn := fun j => j != 27) (i := 27) (fun h => absurd h (by decide)) ?_
                                      refine Z.td (by rfl) (by kernel_rfl) ?_
                                      refine Z.only [0] rfl ?_
                                      refine Z.nthen ?_
                                      first | exact Z.meet () (by refine ⟨?_, trivial⟩ <;> (first | rfl | (refine Z.lookv rfl ?_; simp; done) | (refine Z.lookv rfl ?_; simp; omega))) (by rw [show R = true by rw [hR]; simp_all]; exact hs) | exact Z.meet () (by refine ⟨?_, trivial⟩ <;> (first | rfl | (refine Z.lookv rfl ?_; simp; done) | (refine Z.lookv rfl ?_; simp; omega))) (by rw [show R = dueV m.c1 m.last t by rw [hR]; simp_all; intro _; omega]; exact hs)
                                      )
                                · first
                                    | (exfalso; simp at hsp68 <;> omega)
                                    | (
                                      refine Z.yes (s := 68) (b := false) rfl hsp68 rfl ?_
                                      (try simp at hsp68)
                                      refine Z.tn 22 rfl rfl (by kernel_rfl) rfl (by exact ⟨rfl, trivial⟩) ?_
                                      refine Z.ZO.call rfl rfl (by rfl) rfl rfl Try.call27 rfl (rp_due g { m with now := t, b0 := a, b1 := b, b2 := c, b3 := d, head := h } m.c1 m.last _ (hs.celOf (by first | ((repeat (first | exact List.mem_cons_self | refine List.mem_cons_of_mem _ ?_ | refine List.mem_append_right _ ?_)); done) | fail)) ⟨by show 0 ≤ t; omega, u2⟩ h8) ?_
                                      rintro v10_22 w10_22 ⟨rfl, hy⟩
                                      replace hs := hs.call hy
                                      clear hy
                                      try simp only [List.cons_append, List.nil_append, List.append_nil] at hs
                                      refine Z.tk (Dn := fun j => j != 27) (i := 22) (fun _ => ⟨_, hs, by first | (simp; done) | exact fun e he => List.mem_append_right _ he⟩) ?_
                                      refine Z.t 23 rfl rfl rfl (by rfl) (by kernel_rfl) ⟨_, hs, by first | (simp; done) | exact fun e he => List.mem_append_right _ he⟩ (Z.Yd.pickF rfl rfl) ?_
                                      refine Z.tn 24 rfl rfl (by kernel_rfl) rfl trivial ?_
                                      refine Z.ZO.quiet rfl (by rfl) (Z.keepS hs) (Z.Yd.nilc rfl rfl) ?_
                                      refine Z.tk (Dn := fun j => j != 27) (i := 24) (fun _ => ⟨_, hs, by first | (simp; done) | exact fun e he => List.mem_append_right _ he⟩) ?_
                                      refine Z.tn 25 rfl rfl (by kernel_rfl) rfl trivial ?_
                                      refine Z.ZO.quiet rfl (by rfl) (Z.keepS hs) (Z.Yd.fieldA (m := 0) rfl (by kernel_rfl)) ?_
                                      refine Z.tk (Dn := fun j => j != 27) (i := 25) (fun _ => ⟨_, hs, by first | (simp; done) | exact fun e he => List.mem_append_right _ he⟩) ?_
                                      refine Z.t 26 rfl rfl rfl (by rfl) (by kernel_rfl) ⟨_, hs, by first | (simp; done) | exact fun e he => List.mem_append_right _ he⟩ (Z.Yd.fieldA (m := 0) rfl (by kernel_rfl)) ?_
                                      refine Z.tn 27 rfl rfl (by kernel_rfl) rfl trivial ?_
                                      first | refine Z.ZO.store rfl rfl hs Try.sizeOf4 rfl rfl rfl (by first | exact SX.at0 | exact SX.at1 | exact SX.at2 | exact SX.at3 | exact SX.at4 | exact SX.at5 | exact Z.at6 | exact Z.at7 | exact Z.at8 | exact Z.at9 | exact Z.at10 | exact Z.at11 | exact Z.at12) (by first | (simp; done) | (simp; omega)) ?_ | refine Z.ZO.storeR rfl rfl hs Try.sizeOf4 rfl rfl rfl (by first | exact SX.at0 | exact SX.at1 | exact SX.at2 | exact SX.at3 | exact SX.at4 | exact SX.at5 | exact Z.at6 | exact Z.at7 | exact Z.at8 | exact Z.at9 | exact Z.at10 | exact Z.at11 | exact Z.at12) (by first | omega | (simp [ints_length]; done) | (simp [ints_length]; omega)) ?_
                                      clear hs; intro ws hs
                                      simp only [Nat.zero_add, Nat.add_zero, Nat.reduceAdd, Int.reduceToNat, Nat.reduceMul, List.set_cons_zero, List.set_cons_succ, List.setIfInBounds_toArray] at hs
                                      refine Z.tk (Dn := fun j => j != 27) (i := 27) (fun h => absurd h (by decide)) ?_
                                      refine Z.td (by rfl) (by kernel_rfl) ?_
                                      refine Z.only [0] rfl ?_
                                      refine Z.nthen ?_
                                      first | exact Z.meet () (by refine ⟨?_, trivial⟩ <;> (first | rfl | (refine Z.lookv rfl ?_; simp; done) | (refine Z.lookv rfl ?_; simp; omega))) (by rw [show R = true by rw [hR]; simp_all]; exact hs) | exact Z.meet () (by refine ⟨?_, trivial⟩ <;> (first | rfl | (refine Z.lookv rfl ?_; simp; done) | (refine Z.lookv rfl ?_; simp; omega))) (by rw [show R = dueV m.c1 m.last t by rw [hR]; simp_all; intro _; omega]; exact hs)
                                      )
                              · clear hs
                                rintro _ w10 hs
                                refine Z.only [0] rfl ?_
                                replace hs : SX.St w M w10 [SX.Ent.blk g T #[.bool ({ m with reg := R, now := t, b0 := a, b1 := b, b2 := c, b3 := d, head := h }).reg, .bool ({ m with reg := R, now := t, b0 := a, b1 := b, b2 := c, b3 := d, head := h }).per, .bool ({ m with reg := R, now := t, b0 := a, b1 := b, b2 := c, b3 := d, head := h }).pow, .bool ({ m with reg := R, now := t, b0 := a, b1 := b, b2 := c, b3 := d, head := h }).fst, .bool true, .int .i64 ({ m with reg := R, now := t, b0 := a, b1 := b, b2 := c, b3 := d, head := h }).c0, .int .i64 ({ m with reg := R, now := t, b0 := a, b1 := b, b2 := c, b3 := d, head := h }).c1, .int .i64 ({ m with reg := R, now := t, b0 := a, b1 := b, b2 := c, b3 := d, head := h }).c2, .int .i64 ({ m with reg := R, now := t, b0 := a, b1 := b, b2 := c, b3 := d, head := h }).c3, .int .i64 ({ m with reg := R, now := t, b0 := a, b1 := b, b2 := c, b3 := d, head := h }).now, .int .i64 ({ m with reg := R, now := t, b0 := a, b1 := b, b2 := c, b3 := d, head := h }).b0, .int .i64 ({ m with reg := R, now := t, b0 := a, b1 := b, b2 := c, b3 := d, head := h }).b1, .int .i64 ({ m with reg := R, now := t, b0 := a, b1 := b, b2 := c, b3 := d, head := h }).b2, .int .i64 ({ m with reg := R, now := t, b0 := a, b1 := b, b2 := c, b3 := d, head := h }).b3, .int .i64 ({ m with reg := R, now := t, b0 := a, b1 := b, b2 := c, b3 := d, head := h }).head, .int .i64 ({ m with reg := R, now := t, b0 := a, b1 := b, b2 := c, b3 := d, head := h }).last, .int .i64 ({ m with reg := R, now := t, b0 := a, b1 := b, b2 := c, b3 := d, head := h }).lastP, .int .i64 ({ m with reg := R, now := t, b0 := a, b1 := b, b2 := c, b3 := d, head := h }).told]] := hs
                                refine Z.drawK (fun j => j != 22) mixed hs ?_
                                clear hs; intro wd11 hs
                                refine Z.tb [0, 1] (by kernel_rfl) rfl ⟨_, hs, by first | (simp; done) | exact fun e he => List.mem_append_right _ he⟩ rfl ?_
                                refine Z.t 2 rfl rfl rfl (by rfl) (by kernel_rfl) ⟨_, hs, by first | (simp; done) | exact fun e he => List.mem_append_right _ he⟩ (Z.Yd.nilc rfl rfl) ?_
                                refine Z.t 3 rfl rfl rfl (by rfl) (by kernel_rfl) ⟨_, hs, by first | (simp; done) | exact fun e he => List.mem_append_right _ he⟩ (Z.Yd.fieldA (m := 0) rfl (by kernel_rfl)) ?_
                                refine Z.t 4 rfl rfl rfl (by rfl) (by kernel_rfl) ⟨_, hs, by first | (simp; done) | exact fun e he => List.mem_append_right _ he⟩ (Z.Yd.fieldA (m := 1) rfl (by kernel_rfl)) ?_
                                refine Z.t 5 rfl rfl rfl (by rfl) (by kernel_rfl) ⟨_, hs, by first | (simp; done) | exact fun e he => List.mem_append_right _ he⟩ (by first | exact Z.Yd.load rfl Try.isAgg4 (fun _ => Z.cellB (by first | ((repeat (first | exact List.mem_cons_self | refine List.mem_cons_of_mem _ ?_ | refine List.mem_append_right _ ?_)); done) | fail) rfl) | exact Z.Yd.load rfl Try.isAgg4 (fun _ => Z.cellO (by assumption) (by simp) (by assumption)) | fail "load 11.5") ?_
                                refine Z.tb [6, 7, 8] (by kernel_rfl) rfl ⟨_, hs, by first | (simp; done) | exact fun e he => List.mem_append_right _ he⟩ rfl ?_
                                refine Z.t 9 rfl rfl rfl (by rfl) (by kernel_rfl) ⟨_, hs, by first | (simp; done) | exact fun e he => List.mem_append_right _ he⟩ (Z.Yd.nilc rfl rfl) ?_
                                refine Z.t 10 rfl rfl rfl (by rfl) (by kernel_rfl) ⟨_, hs, by first | (simp; done) | exact fun e he => List.mem_append_right _ he⟩ (Z.Yd.fieldA (m := 5) rfl (by kernel_rfl)) ?_
                                refine Z.t 11 rfl rfl rfl (by rfl) (by kernel_rfl) ⟨_, hs, by first | (simp; done) | exact fun e he => List.mem_append_right _ he⟩ (Z.Yd.fieldA (m := 0) rfl (by kernel_rfl)) ?_
                                refine Z.t 12 rfl rfl rfl (by rfl) (by kernel_rfl) ⟨_, hs, by first | (simp; done) | exact fun e he => List.mem_append_right _ he⟩ (by first | exact Z.Yd.load rfl Try.isAgg3 (fun _ => Z.cellB (by first | ((repeat (first | exact List.mem_cons_self | refine List.mem_cons_of_mem _ ?_ | refine List.mem_append_right _ ?_)); done) | fail) rfl) | exact Z.Yd.load rfl Try.isAgg3 (fun _ => Z.cellO (by assumption) (by simp) (by assumption)) | fail "load 11.12") ?_
                                refine Z.tb [13] (by kernel_rfl) rfl ⟨_, hs, by first | (simp; done) | exact fun e he => List.mem_append_right _ he⟩ rfl ?_
                                refine Z.t 14 rfl rfl rfl (by rfl) (by kernel_rfl) ⟨_, hs, by first | (simp; done) | exact fun e he => List.mem_append_right _ he⟩ (Z.Yd.nilc rfl rfl) ?_
                                refine Z.t 15 rfl rfl rfl (by rfl) (by kernel_rfl) ⟨_, hs, by first | (simp; done) | exact fun e he => List.mem_append_right _ he⟩ (Z.Yd.fieldA (m := 15) rfl (by kernel_rfl)) ?_
                                refine Z.t 16 rfl rfl rfl (by rfl) (by kernel_rfl) ⟨_, hs, by first | (simp; done) | exact fun e he => List.mem_append_right _ he⟩ (by first | exact Z.Yd.load rfl Try.isAgg3 (fun _ => Z.cellB (by first | ((repeat (first | exact List.mem_cons_self | refine List.mem_cons_of_mem _ ?_ | refine List.mem_append_right _ ?_)); done) | fail) rfl) | exact Z.Yd.load rfl Try.isAgg3 (fun _ => Z.cellO (by assumption) (by simp) (by assumption)) | fail "load 11.16") ?_
                                refine Z.split (s := 90) rfl (fun hsp90 => ?_) (fun hsp90 => ?_)
                                · first
                                    | (exfalso; simp at hsp90 <;> omega)
                                    | (
                                      refine Z.yes (s := 90) (b := true) rfl hsp90 rfl ?_
                                      (try simp at hsp90)
                                      refine Z.tnS 90 false 17 rfl rfl (by kernel_rfl) rfl rfl (by simp) rfl (by rfl) (fun _ => ⟨_, hs, by first | (simp; done) | exact fun e he => List.mem_append_right _ he⟩) ?_
                                      refine Z.t 18 rfl rfl rfl (by rfl) (by kernel_rfl) ⟨_, hs, by first | (simp; done) | exact fun e he => List.mem_append_right _ he⟩ (Z.Yd.pickT rfl rfl) ?_
                                      refine Z.tn 19 rfl rfl (by kernel_rfl) rfl trivial ?_
                                      refine Z.ZO.quiet rfl (by rfl) (Z.keepS hs) (Z.Yd.nilc rfl rfl) ?_
                                      refine Z.tk (Dn := fun j => j != 22) (i := 19) (fun _ => ⟨_, hs, by first | (simp; done) | exact fun e he => List.mem_append_right _ he⟩) ?_
                                      refine Z.tn 20 rfl rfl (by kernel_rfl) rfl trivial ?_
                                      refine Z.ZO.quiet rfl (by rfl) (Z.keepS hs) (Z.Yd.fieldA (m := 0) rfl (by kernel_rfl)) ?_
                                      refine Z.tk (Dn := fun j => j != 22) (i := 20) (fun _ => ⟨_, hs, by first | (simp; done) | exact fun e he => List.mem_append_right _ he⟩) ?_
                                      refine Z.t 21 rfl rfl rfl (by rfl) (by kernel_rfl) ⟨_, hs, by first | (simp; done) | exact fun e he => List.mem_append_right _ he⟩ (Z.Yd.fieldA (m := 1) rfl (by kernel_rfl)) ?_
                                      refine Z.tn 22 rfl rfl (by kernel_rfl) rfl trivial ?_
                                      first | refine Z.ZO.store rfl rfl hs Try.sizeOf4 rfl rfl rfl (by first | exact SX.at0 | exact SX.at1 | exact SX.at2 | exact SX.at3 | exact SX.at4 | exact SX.at5 | exact Z.at6 | exact Z.at7 | exact Z.at8 | exact Z.at9 | exact Z.at10 | exact Z.at11 | exact Z.at12) (by first | (simp; done) | (simp; omega)) ?_ | refine Z.ZO.storeR rfl rfl hs Try.sizeOf4 rfl rfl rfl (by first | exact SX.at0 | exact SX.at1 | exact SX.at2 | exact SX.at3 | exact SX.at4 | exact SX.at5 | exact Z.at6 | exact Z.at7 | exact Z.at8 | exact Z.at9 | exact Z.at10 | exact Z.at11 | exact Z.at12) (by first | omega | (simp [ints_length]; done) | (simp [ints_length]; omega)) ?_
                                      clear hs; intro ws hs
                                      simp only [Nat.zero_add, Nat.add_zero, Nat.reduceAdd, Int.reduceToNat, Nat.reduceMul, List.set_cons_zero, List.set_cons_succ, List.setIfInBounds_toArray] at hs
                                      refine Z.tk (Dn := fun j => j != 22) (i := 22) (fun h => absurd h (by decide)) ?_
                                      refine Z.td (by rfl) (by kernel_rfl) ?_
                                      refine Z.only [0] rfl ?_
                                      refine Z.nthen ?_
                                      first | exact Z.meet () (by refine ⟨?_, trivial⟩ <;> (first | rfl | (refine Z.lookv rfl ?_; simp; done) | (refine Z.lookv rfl ?_; simp; omega))) (by rw [hR, hQ]; exact hs) | exact Z.meet () (by refine ⟨?_, trivial⟩ <;> (first | rfl | (refine Z.lookv rfl ?_; simp; done) | (refine Z.lookv rfl ?_; simp; omega))) (by rw [show Q = true by rw [hQ]; simp_all]; exact hs) | exact Z.meet () (by refine ⟨?_, trivial⟩ <;> (first | rfl | (refine Z.lookv rfl ?_; simp; done) | (refine Z.lookv rfl ?_; simp; omega))) (by rw [show Q = dueV m.c0 m.last t by rw [hQ]; simp_all]; exact hs)
                                      )
                                · first
                                    | (exfalso; simp at hsp90 <;> omega)
                                    | (
                                      refine Z.yes (s := 90) (b := false) rfl hsp90 rfl ?_
                                      (try simp at hsp90)
                                      refine Z.tn 17 rfl rfl (by kernel_rfl) rfl (by exact ⟨rfl, trivial⟩) ?_
                                      refine Z.ZO.call rfl rfl (by rfl) rfl rfl Try.call27 rfl (rp_due g { m with reg := R, now := t, b0 := a, b1 := b, b2 := c, b3 := d, head := h } m.c0 m.last _ (hs.celOf (by first | ((repeat (first | exact List.mem_cons_self | refine List.mem_cons_of_mem _ ?_ | refine List.mem_append_right _ ?_)); done) | fail)) ⟨by show 0 ≤ t; omega, u2⟩ h8) ?_
                                      rintro v11_17 w11_17 ⟨rfl, hy⟩
                                      replace hs := hs.call hy
                                      clear hy
                                      try simp only [List.cons_append, List.nil_append, List.append_nil] at hs
                                      refine Z.tk (Dn := fun j => j != 22) (i := 17) (fun _ => ⟨_, hs, by first | (simp; done) | exact fun e he => List.mem_append_right _ he⟩) ?_
                                      refine Z.t 18 rfl rfl rfl (by rfl) (by kernel_rfl) ⟨_, hs, by first | (simp; done) | exact fun e he => List.mem_append_right _ he⟩ (Z.Yd.pickF rfl rfl) ?_
                                      refine Z.tn 19 rfl rfl (by kernel_rfl) rfl trivial ?_
                                      refine Z.ZO.quiet rfl (by rfl) (Z.keepS hs) (Z.Yd.nilc rfl rfl) ?_
                                      refine Z.tk (Dn := fun j => j != 22) (i := 19) (fun _ => ⟨_, hs, by first | (simp; done) | exact fun e he => List.mem_append_right _ he⟩) ?_
                                      refine Z.tn 20 rfl rfl (by kernel_rfl) rfl trivial ?_
                                      refine Z.ZO.quiet rfl (by rfl) (Z.keepS hs) (Z.Yd.fieldA (m := 0) rfl (by kernel_rfl)) ?_
                                      refine Z.tk (Dn := fun j => j != 22) (i := 20) (fun _ => ⟨_, hs, by first | (simp; done) | exact fun e he => List.mem_append_right _ he⟩) ?_
                                      refine Z.t 21 rfl rfl rfl (by rfl) (by kernel_rfl) ⟨_, hs, by first | (simp; done) | exact fun e he => List.mem_append_right _ he⟩ (Z.Yd.fieldA (m := 1) rfl (by kernel_rfl)) ?_
                                      refine Z.tn 22 rfl rfl (by kernel_rfl) rfl trivial ?_
                                      first | refine Z.ZO.store rfl rfl hs Try.sizeOf4 rfl rfl rfl (by first | exact SX.at0 | exact SX.at1 | exact SX.at2 | exact SX.at3 | exact SX.at4 | exact SX.at5 | exact Z.at6 | exact Z.at7 | exact Z.at8 | exact Z.at9 | exact Z.at10 | exact Z.at11 | exact Z.at12) (by first | (simp; done) | (simp; omega)) ?_ | refine Z.ZO.storeR rfl rfl hs Try.sizeOf4 rfl rfl rfl (by first | exact SX.at0 | exact SX.at1 | exact SX.at2 | exact SX.at3 | exact SX.at4 | exact SX.at5 | exact Z.at6 | exact Z.at7 | exact Z.at8 | exact Z.at9 | exact Z.at10 | exact Z.at11 | exact Z.at12) (by first | omega | (simp [ints_length]; done) | (simp [ints_length]; omega)) ?_
                                      clear hs; intro ws hs
                                      simp only [Nat.zero_add, Nat.add_zero, Nat.reduceAdd, Int.reduceToNat, Nat.reduceMul, List.set_cons_zero, List.set_cons_succ, List.setIfInBounds_toArray] at hs
                                      refine Z.tk (Dn := fun j => j != 22) (i := 22) (fun h => absurd h (by decide)) ?_
                                      refine Z.td (by rfl) (by kernel_rfl) ?_
                                      refine Z.only [0] rfl ?_
                                      refine Z.nthen ?_
                                      first | exact Z.meet () (by refine ⟨?_, trivial⟩ <;> (first | rfl | (refine Z.lookv rfl ?_; simp; done) | (refine Z.lookv rfl ?_; simp; omega))) (by rw [hR, hQ]; exact hs) | exact Z.meet () (by refine ⟨?_, trivial⟩ <;> (first | rfl | (refine Z.lookv rfl ?_; simp; done) | (refine Z.lookv rfl ?_; simp; omega))) (by rw [show Q = true by rw [hQ]; simp_all]; exact hs) | exact Z.meet () (by refine ⟨?_, trivial⟩ <;> (first | rfl | (refine Z.lookv rfl ?_; simp; done) | (refine Z.lookv rfl ?_; simp; omega))) (by rw [show Q = dueV m.c0 m.last t by rw [hQ]; simp_all]; exact hs)
                                      )
                              )
                      · clear hs
                        rintro _ w8 hs
                        refine Z.only [0] rfl ?_
                        replace hs : SX.St w M w8 [SX.Ent.blk g T #[.bool ({ m with reg := R, per := Q, now := t, b0 := a, b1 := b, b2 := c, b3 := d, head := h }).reg, .bool ({ m with reg := R, per := Q, now := t, b0 := a, b1 := b, b2 := c, b3 := d, head := h }).per, .bool ({ m with reg := R, per := Q, now := t, b0 := a, b1 := b, b2 := c, b3 := d, head := h }).pow, .bool ({ m with reg := R, per := Q, now := t, b0 := a, b1 := b, b2 := c, b3 := d, head := h }).fst, .bool true, .int .i64 ({ m with reg := R, per := Q, now := t, b0 := a, b1 := b, b2 := c, b3 := d, head := h }).c0, .int .i64 ({ m with reg := R, per := Q, now := t, b0 := a, b1 := b, b2 := c, b3 := d, head := h }).c1, .int .i64 ({ m with reg := R, per := Q, now := t, b0 := a, b1 := b, b2 := c, b3 := d, head := h }).c2, .int .i64 ({ m with reg := R, per := Q, now := t, b0 := a, b1 := b, b2 := c, b3 := d, head := h }).c3, .int .i64 ({ m with reg := R, per := Q, now := t, b0 := a, b1 := b, b2 := c, b3 := d, head := h }).now, .int .i64 ({ m with reg := R, per := Q, now := t, b0 := a, b1 := b, b2 := c, b3 := d, head := h }).b0, .int .i64 ({ m with reg := R, per := Q, now := t, b0 := a, b1 := b, b2 := c, b3 := d, head := h }).b1, .int .i64 ({ m with reg := R, per := Q, now := t, b0 := a, b1 := b, b2 := c, b3 := d, head := h }).b2, .int .i64 ({ m with reg := R, per := Q, now := t, b0 := a, b1 := b, b2 := c, b3 := d, head := h }).b3, .int .i64 ({ m with reg := R, per := Q, now := t, b0 := a, b1 := b, b2 := c, b3 := d, head := h }).head, .int .i64 ({ m with reg := R, per := Q, now := t, b0 := a, b1 := b, b2 := c, b3 := d, head := h }).last, .int .i64 ({ m with reg := R, per := Q, now := t, b0 := a, b1 := b, b2 := c, b3 := d, head := h }).lastP, .int .i64 ({ m with reg := R, per := Q, now := t, b0 := a, b1 := b, b2 := c, b3 := d, head := h }).told]] := hs
                        refine Z.seq ?_
                        refine Z.cutt (ι := Unit) [] rfl (fun _ => []) (fun _ wr => SX.St w M wr [SX.Ent.blk g T ({ m with reg := R, per := Q, pow := X, now := t, b0 := a, b1 := b, b2 := c, b3 := d, head := h } : RpV).cells.toArray]) ?_ ?_
                        · skip
                          refine Z.drawK (fun j => j != 33) mixed hs ?_
                          clear hs; intro wd12 hs
                          refine Z.tb [0, 1] (by kernel_rfl) rfl ⟨_, hs, by first | (simp; done) | exact fun e he => List.mem_append_right _ he⟩ rfl ?_
                          refine Z.t 2 rfl rfl rfl (by rfl) (by kernel_rfl) ⟨_, hs, by first | (simp; done) | exact fun e he => List.mem_append_right _ he⟩ (Z.Yd.nilc rfl rfl) ?_
                          refine Z.t 3 rfl rfl rfl (by rfl) (by kernel_rfl) ⟨_, hs, by first | (simp; done) | exact fun e he => List.mem_append_right _ he⟩ (Z.Yd.fieldA (m := 0) rfl (by kernel_rfl)) ?_
                          refine Z.t 4 rfl rfl rfl (by rfl) (by kernel_rfl) ⟨_, hs, by first | (simp; done) | exact fun e he => List.mem_append_right _ he⟩ (Z.Yd.fieldA (m := 2) rfl (by kernel_rfl)) ?_
                          refine Z.t 5 rfl rfl rfl (by rfl) (by kernel_rfl) ⟨_, hs, by first | (simp; done) | exact fun e he => List.mem_append_right _ he⟩ (by first | exact Z.Yd.load rfl Try.isAgg4 (fun _ => Z.cellB (by first | ((repeat (first | exact List.mem_cons_self | refine List.mem_cons_of_mem _ ?_ | refine List.mem_append_right _ ?_)); done) | fail) rfl) | exact Z.Yd.load rfl Try.isAgg4 (fun _ => Z.cellO (by assumption) (by simp) (by assumption)) | fail "load 12.5") ?_
                          refine Z.tb [6, 7] (by kernel_rfl) rfl ⟨_, hs, by first | (simp; done) | exact fun e he => List.mem_append_right _ he⟩ rfl ?_
                          refine Z.t 8 rfl rfl rfl (by rfl) (by kernel_rfl) ⟨_, hs, by first | (simp; done) | exact fun e he => List.mem_append_right _ he⟩ (Z.Yd.nilc rfl rfl) ?_
                          refine Z.t 9 rfl rfl rfl (by rfl) (by kernel_rfl) ⟨_, hs, by first | (simp; done) | exact fun e he => List.mem_append_right _ he⟩ (Z.Yd.fieldA (m := 0) rfl (by kernel_rfl)) ?_
                          refine Z.t 10 rfl rfl rfl (by rfl) (by kernel_rfl) ⟨_, hs, by first | (simp; done) | exact fun e he => List.mem_append_right _ he⟩ (Z.Yd.fieldA (m := 3) rfl (by kernel_rfl)) ?_
                          refine Z.t 11 rfl rfl rfl (by rfl) (by kernel_rfl) ⟨_, hs, by first | (simp; done) | exact fun e he => List.mem_append_right _ he⟩ (by first | exact Z.Yd.load rfl Try.isAgg4 (fun _ => Z.cellB (by first | ((repeat (first | exact List.mem_cons_self | refine List.mem_cons_of_mem _ ?_ | refine List.mem_append_right _ ?_)); done) | fail) rfl) | exact Z.Yd.load rfl Try.isAgg4 (fun _ => Z.cellO (by assumption) (by simp) (by assumption)) | fail "load 12.11") ?_
                          refine Z.tb [12, 13, 14, 15] (by kernel_rfl) rfl ⟨_, hs, by first | (simp; done) | exact fun e he => List.mem_append_right _ he⟩ rfl ?_
                          refine Z.t 16 rfl rfl rfl (by rfl) (by kernel_rfl) ⟨_, hs, by first | (simp; done) | exact fun e he => List.mem_append_right _ he⟩ (Z.Yd.nilc rfl rfl) ?_
                          refine Z.t 17 rfl rfl rfl (by rfl) (by kernel_rfl) ⟨_, hs, by first | (simp; done) | exact fun e he => List.mem_append_right _ he⟩ (Z.Yd.fieldA (m := 5) rfl (by kernel_rfl)) ?_
                          refine Z.t 18 rfl rfl rfl (by rfl) (by kernel_rfl) ⟨_, hs, by first | (simp; done) | exact fun e he => List.mem_append_right _ he⟩ (Z.Yd.fieldA (m := 2) rfl (by kernel_rfl)) ?_
                          refine Z.t 19 rfl rfl rfl (by rfl) (by kernel_rfl) ⟨_, hs, by first | (simp; done) | exact fun e he => List.mem_append_right _ he⟩ (by first | exact Z.Yd.load rfl Try.isAgg3 (fun _ => Z.cellB (by first | ((repeat (first | exact List.mem_cons_self | refine List.mem_cons_of_mem _ ?_ | refine List.mem_append_right _ ?_)); done) | fail) rfl) | exact Z.Yd.load rfl Try.isAgg3 (fun _ => Z.cellO (by assumption) (by simp) (by assumption)) | fail "load 12.19") ?_
                          refine Z.tb [20] (by kernel_rfl) rfl ⟨_, hs, by first | (simp; done) | exact fun e he => List.mem_append_right _ he⟩ rfl ?_
                          refine Z.t 21 rfl rfl rfl (by rfl) (by kernel_rfl) ⟨_, hs, by first | (simp; done) | exact fun e he => List.mem_append_right _ he⟩ (Z.Yd.nilc rfl rfl) ?_
                          refine Z.t 22 rfl rfl rfl (by rfl) (by kernel_rfl) ⟨_, hs, by first | (simp; done) | exact fun e he => List.mem_append_right _ he⟩ (Z.Yd.fieldA (m := 16) rfl (by kernel_rfl)) ?_
                          refine Z.t 23 rfl rfl rfl (by rfl) (by kernel_rfl) ⟨_, hs, by first | (simp; done) | exact fun e he => List.mem_append_right _ he⟩ (by first | exact Z.Yd.load rfl Try.isAgg3 (fun _ => Z.cellB (by first | ((repeat (first | exact List.mem_cons_self | refine List.mem_cons_of_mem _ ?_ | refine List.mem_append_right _ ?_)); done) | fail) rfl) | exact Z.Yd.load rfl Try.isAgg3 (fun _ => Z.cellO (by assumption) (by simp) (by assumption)) | fail "load 12.23") ?_
                          refine Z.split (s := 119) rfl (fun hsp119 => ?_) (fun hsp119 => ?_)
                          · first
                              | (exfalso; simp at hsp119 <;> omega)
                              | (
                                refine Z.yes (s := 119) (b := true) rfl hsp119 rfl ?_
                                (try simp at hsp119)
                                refine Z.tnS 119 false 24 rfl rfl (by kernel_rfl) rfl rfl (by simp) rfl (by rfl) (fun _ => ⟨_, hs, by first | (simp; done) | exact fun e he => List.mem_append_right _ he⟩) ?_
                                refine Z.t 25 rfl rfl rfl (by rfl) (by kernel_rfl) ⟨_, hs, by first | (simp; done) | exact fun e he => List.mem_append_right _ he⟩ (Z.Yd.pickT rfl rfl) ?_
                                refine Z.tb [26, 27] (by kernel_rfl) rfl ⟨_, hs, by first | (simp; done) | exact fun e he => List.mem_append_right _ he⟩ rfl ?_
                                refine Z.split (s := 132) rfl (fun hsp132 => ?_) (fun hsp132 => ?_)
                                · first
                                    | (exfalso; simp at hsp132 <;> omega)
                                    | (
                                      refine Z.yes (s := 132) (b := true) rfl hsp132 rfl ?_
                                      (try simp at hsp132)
                                      refine Z.yes (s := 119) (b := true) rfl rfl rfl ?_
                                      refine Z.tnS 132 false 28 rfl rfl (by kernel_rfl) rfl rfl (by simp) rfl (by rfl) (fun _ => ⟨_, hs, by first | (simp; done) | exact fun e he => List.mem_append_right _ he⟩) ?_
                                      refine Z.t 29 rfl rfl rfl (by rfl) (by kernel_rfl) ⟨_, hs, by first | (simp; done) | exact fun e he => List.mem_append_right _ he⟩ (Z.Yd.pickT rfl rfl) ?_
                                      refine Z.tn 30 rfl rfl (by kernel_rfl) rfl trivial ?_
                                      refine Z.ZO.quiet rfl (by rfl) (Z.keepS hs) (Z.Yd.nilc rfl rfl) ?_
                                      refine Z.tk (Dn := fun j => j != 33) (i := 30) (fun _ => ⟨_, hs, by first | (simp; done) | exact fun e he => List.mem_append_right _ he⟩) ?_
                                      refine Z.tn 31 rfl rfl (by kernel_rfl) rfl trivial ?_
                                      refine Z.ZO.quiet rfl (by rfl) (Z.keepS hs) (Z.Yd.fieldA (m := 0) rfl (by kernel_rfl)) ?_
                                      refine Z.tk (Dn := fun j => j != 33) (i := 31) (fun _ => ⟨_, hs, by first | (simp; done) | exact fun e he => List.mem_append_right _ he⟩) ?_
                                      refine Z.t 32 rfl rfl rfl (by rfl) (by kernel_rfl) ⟨_, hs, by first | (simp; done) | exact fun e he => List.mem_append_right _ he⟩ (Z.Yd.fieldA (m := 2) rfl (by kernel_rfl)) ?_
                                      refine Z.tn 33 rfl rfl (by kernel_rfl) rfl trivial ?_
                                      first | refine Z.ZO.store rfl rfl hs Try.sizeOf4 rfl rfl rfl (by first | exact SX.at0 | exact SX.at1 | exact SX.at2 | exact SX.at3 | exact SX.at4 | exact SX.at5 | exact Z.at6 | exact Z.at7 | exact Z.at8 | exact Z.at9 | exact Z.at10 | exact Z.at11 | exact Z.at12) (by first | (simp; done) | (simp; omega)) ?_ | refine Z.ZO.storeR rfl rfl hs Try.sizeOf4 rfl rfl rfl (by first | exact SX.at0 | exact SX.at1 | exact SX.at2 | exact SX.at3 | exact SX.at4 | exact SX.at5 | exact Z.at6 | exact Z.at7 | exact Z.at8 | exact Z.at9 | exact Z.at10 | exact Z.at11 | exact Z.at12) (by first | omega | (simp [ints_length]; done) | (simp [ints_length]; omega)) ?_
                                      clear hs; intro ws hs
                                      simp only [Nat.zero_add, Nat.add_zero, Nat.reduceAdd, Int.reduceToNat, Nat.reduceMul, List.set_cons_zero, List.set_cons_succ, List.setIfInBounds_toArray] at hs
                                      refine Z.tk (Dn := fun j => j != 33) (i := 33) (fun h => absurd h (by decide)) ?_
                                      refine Z.td (by rfl) (by kernel_rfl) ?_
                                      refine Z.only [] rfl ?_
                                      refine Z.nthen ?_
                                      first | exact Z.meet () trivial (by rw [show X = true by rw [hX]; simp_all]; exact hs) | exact Z.meet () trivial (by rw [show X = chgV m.c3 h m.told by rw [hX]; simp_all]; exact hs)
                                      )
                                · first
                                    | (exfalso; simp at hsp132 <;> omega)
                                    | (
                                      refine Z.yes (s := 132) (b := false) rfl hsp132 rfl ?_
                                      (try simp at hsp132)
                                      refine Z.yes (s := 119) (b := true) rfl rfl rfl ?_
                                      refine Z.tn 28 rfl rfl (by kernel_rfl) rfl (by exact ⟨rfl, trivial⟩) ?_
                                      refine Z.ZO.call rfl rfl (by rfl) rfl rfl Try.call28 rfl (rp_changed g { m with reg := R, per := Q, now := t, b0 := a, b1 := b, b2 := c, b3 := d, head := h } _ (hs.celOf (by first | ((repeat (first | exact List.mem_cons_self | refine List.mem_cons_of_mem _ ?_ | refine List.mem_append_right _ ?_)); done) | fail)) u7 h10) ?_
                                      rintro v12_28 w12_28 ⟨rfl, hy⟩
                                      replace hs := hs.call hy
                                      clear hy
                                      try simp only [List.cons_append, List.nil_append, List.append_nil] at hs
                                      refine Z.tk (Dn := fun j => j != 33) (i := 28) (fun _ => ⟨_, hs, by first | (simp; done) | exact fun e he => List.mem_append_right _ he⟩) ?_
                                      refine Z.t 29 rfl rfl rfl (by rfl) (by kernel_rfl) ⟨_, hs, by first | (simp; done) | exact fun e he => List.mem_append_right _ he⟩ (Z.Yd.pickF rfl rfl) ?_
                                      refine Z.tn 30 rfl rfl (by kernel_rfl) rfl trivial ?_
                                      refine Z.ZO.quiet rfl (by rfl) (Z.keepS hs) (Z.Yd.nilc rfl rfl) ?_
                                      refine Z.tk (Dn := fun j => j != 33) (i := 30) (fun _ => ⟨_, hs, by first | (simp; done) | exact fun e he => List.mem_append_right _ he⟩) ?_
                                      refine Z.tn 31 rfl rfl (by kernel_rfl) rfl trivial ?_
                                      refine Z.ZO.quiet rfl (by rfl) (Z.keepS hs) (Z.Yd.fieldA (m := 0) rfl (by kernel_rfl)) ?_
                                      refine Z.tk (Dn := fun j => j != 33) (i := 31) (fun _ => ⟨_, hs, by first | (simp; done) | exact fun e he => List.mem_append_right _ he⟩) ?_
                                      refine Z.t 32 rfl rfl rfl (by rfl) (by kernel_rfl) ⟨_, hs, by first | (simp; done) | exact fun e he => List.mem_append_right _ he⟩ (Z.Yd.fieldA (m := 2) rfl (by kernel_rfl)) ?_
                                      refine Z.tn 33 rfl rfl (by kernel_rfl) rfl trivial ?_
                                      first | refine Z.ZO.store rfl rfl hs Try.sizeOf4 rfl rfl rfl (by first | exact SX.at0 | exact SX.at1 | exact SX.at2 | exact SX.at3 | exact SX.at4 | exact SX.at5 | exact Z.at6 | exact Z.at7 | exact Z.at8 | exact Z.at9 | exact Z.at10 | exact Z.at11 | exact Z.at12) (by first | (simp; done) | (simp; omega)) ?_ | refine Z.ZO.storeR rfl rfl hs Try.sizeOf4 rfl rfl rfl (by first | exact SX.at0 | exact SX.at1 | exact SX.at2 | exact SX.at3 | exact SX.at4 | exact SX.at5 | exact Z.at6 | exact Z.at7 | exact Z.at8 | exact Z.at9 | exact Z.at10 | exact Z.at11 | exact Z.at12) (by first | omega | (simp [ints_length]; done) | (simp [ints_length]; omega)) ?_
                                      clear hs; intro ws hs
                                      simp only [Nat.zero_add, Nat.add_zero, Nat.reduceAdd, Int.reduceToNat, Nat.reduceMul, List.set_cons_zero, List.set_cons_succ, List.setIfInBounds_toArray] at hs
                                      refine Z.tk (Dn := fun j => j != 33) (i := 33) (fun h => absurd h (by decide)) ?_
                                      refine Z.td (by rfl) (by kernel_rfl) ?_
                                      refine Z.only [] rfl ?_
                                      refine Z.nthen ?_
                                      first | exact Z.meet () trivial (by rw [show X = true by rw [hX]; simp_all]; exact hs) | exact Z.meet () trivial (by rw [show X = chgV m.c3 h m.told by rw [hX]; simp_all]; exact hs)
                                      )
                                )
                          · first
                              | (exfalso; simp at hsp119 <;> omega)
                              | (
                                refine Z.yes (s := 119) (b := false) rfl hsp119 rfl ?_
                                (try simp at hsp119)
                                refine Z.tn 24 rfl rfl (by kernel_rfl) rfl (by exact ⟨rfl, trivial⟩) ?_
                                refine Z.ZO.call rfl rfl (by rfl) rfl rfl Try.call27 rfl (rp_due g { m with reg := R, per := Q, now := t, b0 := a, b1 := b, b2 := c, b3 := d, head := h } m.c2 m.lastP _ (hs.celOf (by first | ((repeat (first | exact List.mem_cons_self | refine List.mem_cons_of_mem _ ?_ | refine List.mem_append_right _ ?_)); done) | fail)) ⟨by show 0 ≤ t; omega, u2⟩ h9) ?_
                                rintro v12_24 w12_24 ⟨rfl, hy⟩
                                replace hs := hs.call hy
                                clear hy
                                try simp only [List.cons_append, List.nil_append, List.append_nil] at hs
                                refine Z.tk (Dn := fun j => j != 33) (i := 24) (fun _ => ⟨_, hs, by first | (simp; done) | exact fun e he => List.mem_append_right _ he⟩) ?_
                                refine Z.t 25 rfl rfl rfl (by rfl) (by kernel_rfl) ⟨_, hs, by first | (simp; done) | exact fun e he => List.mem_append_right _ he⟩ (Z.Yd.pickF rfl rfl) ?_
                                refine Z.tb [26, 27] (by kernel_rfl) rfl ⟨_, hs, by first | (simp; done) | exact fun e he => List.mem_append_right _ he⟩ rfl ?_
                                refine Z.split (s := 132) rfl (fun hsp132 => ?_) (fun hsp132 => ?_)
                                · first
                                    | (exfalso; simp at hsp132 <;> omega)
                                    | (
                                      refine Z.yes (s := 132) (b := true) rfl hsp132 rfl ?_
                                      (try simp at hsp132)
                                      refine Z.yes (s := 119) (b := false) rfl rfl rfl ?_
                                      refine Z.tnS 132 false 28 rfl rfl (by kernel_rfl) rfl rfl (by simp) rfl (by rfl) (fun _ => ⟨_, hs, by first | (simp; done) | exact fun e he => List.mem_append_right _ he⟩) ?_
                                      refine Z.t 29 rfl rfl rfl (by rfl) (by kernel_rfl) ⟨_, hs, by first | (simp; done) | exact fun e he => List.mem_append_right _ he⟩ (Z.Yd.pickT rfl rfl) ?_
                                      refine Z.tn 30 rfl rfl (by kernel_rfl) rfl trivial ?_
                                      refine Z.ZO.quiet rfl (by rfl) (Z.keepS hs) (Z.Yd.nilc rfl rfl) ?_
                                      refine Z.tk (Dn := fun j => j != 33) (i := 30) (fun _ => ⟨_, hs, by first | (simp; done) | exact fun e he => List.mem_append_right _ he⟩) ?_
                                      refine Z.tn 31 rfl rfl (by kernel_rfl) rfl trivial ?_
                                      refine Z.ZO.quiet rfl (by rfl) (Z.keepS hs) (Z.Yd.fieldA (m := 0) rfl (by kernel_rfl)) ?_
                                      refine Z.tk (Dn := fun j => j != 33) (i := 31) (fun _ => ⟨_, hs, by first | (simp; done) | exact fun e he => List.mem_append_right _ he⟩) ?_
                                      refine Z.t 32 rfl rfl rfl (by rfl) (by kernel_rfl) ⟨_, hs, by first | (simp; done) | exact fun e he => List.mem_append_right _ he⟩ (Z.Yd.fieldA (m := 2) rfl (by kernel_rfl)) ?_
                                      refine Z.tn 33 rfl rfl (by kernel_rfl) rfl trivial ?_
                                      first | refine Z.ZO.store rfl rfl hs Try.sizeOf4 rfl rfl rfl (by first | exact SX.at0 | exact SX.at1 | exact SX.at2 | exact SX.at3 | exact SX.at4 | exact SX.at5 | exact Z.at6 | exact Z.at7 | exact Z.at8 | exact Z.at9 | exact Z.at10 | exact Z.at11 | exact Z.at12) (by first | (simp; done) | (simp; omega)) ?_ | refine Z.ZO.storeR rfl rfl hs Try.sizeOf4 rfl rfl rfl (by first | exact SX.at0 | exact SX.at1 | exact SX.at2 | exact SX.at3 | exact SX.at4 | exact SX.at5 | exact Z.at6 | exact Z.at7 | exact Z.at8 | exact Z.at9 | exact Z.at10 | exact Z.at11 | exact Z.at12) (by first | omega | (simp [ints_length]; done) | (simp [ints_length]; omega)) ?_
                                      clear hs; intro ws hs
                                      simp only [Nat.zero_add, Nat.add_zero, Nat.reduceAdd, Int.reduceToNat, Nat.reduceMul, List.set_cons_zero, List.set_cons_succ, List.setIfInBounds_toArray] at hs
                                      refine Z.tk (Dn := fun j => j != 33) (i := 33) (fun h => absurd h (by decide)) ?_
                                      refine Z.td (by rfl) (by kernel_rfl) ?_
                                      refine Z.only [] rfl ?_
                                      refine Z.nthen ?_
                                      first | exact Z.meet () trivial (by rw [show X = true by rw [hX]; simp_all]; exact hs) | exact Z.meet () trivial (by rw [show X = chgV m.c3 h m.told by rw [hX]; simp_all]; exact hs)
                                      )
                                · first
                                    | (exfalso; simp at hsp132 <;> omega)
                                    | (
                                      refine Z.yes (s := 132) (b := false) rfl hsp132 rfl ?_
                                      (try simp at hsp132)
                                      refine Z.yes (s := 119) (b := false) rfl rfl rfl ?_
                                      refine Z.tn 28 rfl rfl (by kernel_rfl) rfl (by exact ⟨rfl, trivial⟩) ?_
                                      refine Z.ZO.call rfl rfl (by rfl) rfl rfl Try.call28 rfl (rp_changed g { m with reg := R, per := Q, now := t, b0 := a, b1 := b, b2 := c, b3 := d, head := h } _ (hs.celOf (by first | ((repeat (first | exact List.mem_cons_self | refine List.mem_cons_of_mem _ ?_ | refine List.mem_append_right _ ?_)); done) | fail)) u7 h10) ?_
                                      rintro v12_28 w12_28 ⟨rfl, hy⟩
                                      replace hs := hs.call hy
                                      clear hy
                                      try simp only [List.cons_append, List.nil_append, List.append_nil] at hs
                                      refine Z.tk (Dn := fun j => j != 33) (i := 28) (fun _ => ⟨_, hs, by first | (simp; done) | exact fun e he => List.mem_append_right _ he⟩) ?_
                                      refine Z.t 29 rfl rfl rfl (by rfl) (by kernel_rfl) ⟨_, hs, by first | (simp; done) | exact fun e he => List.mem_append_right _ he⟩ (Z.Yd.pickF rfl rfl) ?_
                                      refine Z.tn 30 rfl rfl (by kernel_rfl) rfl trivial ?_
                                      refine Z.ZO.quiet rfl (by rfl) (Z.keepS hs) (Z.Yd.nilc rfl rfl) ?_
                                      refine Z.tk (Dn := fun j => j != 33) (i := 30) (fun _ => ⟨_, hs, by first | (simp; done) | exact fun e he => List.mem_append_right _ he⟩) ?_
                                      refine Z.tn 31 rfl rfl (by kernel_rfl) rfl trivial ?_
                                      refine Z.ZO.quiet rfl (by rfl) (Z.keepS hs) (Z.Yd.fieldA (m := 0) rfl (by kernel_rfl)) ?_
                                      refine Z.tk (Dn := fun j => j != 33) (i := 31) (fun _ => ⟨_, hs, by first | (simp; done) | exact fun e he => List.mem_append_right _ he⟩) ?_
                                      refine Z.t 32 rfl rfl rfl (by rfl) (by kernel_rfl) ⟨_, hs, by first | (simp; done) | exact fun e he => List.mem_append_right _ he⟩ (Z.Yd.fieldA (m := 2) rfl (by kernel_rfl)) ?_
                                      refine Z.tn 33 rfl rfl (by kernel_rfl) rfl trivial ?_
                                      first | refine Z.ZO.store rfl rfl hs Try.sizeOf4 rfl rfl rfl (by first | exact SX.at0 | exact SX.at1 | exact SX.at2 | exact SX.at3 | exact SX.at4 | exact SX.at5 | exact Z.at6 | exact Z.at7 | exact Z.at8 | exact Z.at9 | exact Z.at10 | exact Z.at11 | exact Z.at12) (by first | (simp; done) | (simp; omega)) ?_ | refine Z.ZO.storeR rfl rfl hs Try.sizeOf4 rfl rfl rfl (by first | exact SX.at0 | exact SX.at1 | exact SX.at2 | exact SX.at3 | exact SX.at4 | exact SX.at5 | exact Z.at6 | exact Z.at7 | exact Z.at8 | exact Z.at9 | exact Z.at10 | exact Z.at11 | exact Z.at12) (by first | omega | (simp [ints_length]; done) | (simp [ints_length]; omega)) ?_
                                      clear hs; intro ws hs
                                      simp only [Nat.zero_add, Nat.add_zero, Nat.reduceAdd, Int.reduceToNat, Nat.reduceMul, List.set_cons_zero, List.set_cons_succ, List.setIfInBounds_toArray] at hs
                                      refine Z.tk (Dn := fun j => j != 33) (i := 33) (fun h => absurd h (by decide)) ?_
                                      refine Z.td (by rfl) (by kernel_rfl) ?_
                                      refine Z.only [] rfl ?_
                                      refine Z.nthen ?_
                                      first | exact Z.meet () trivial (by rw [show X = true by rw [hX]; simp_all]; exact hs) | exact Z.meet () trivial (by rw [show X = chgV m.c3 h m.told by rw [hX]; simp_all]; exact hs)
                                      )
                                )
                        · clear hs
                          rintro _ w12 hs
                          refine Z.only [] rfl ?_
                          refine Z.seq ?_
                          refine Z.seq ?_
                          refine Z.region ?_
                          refine Z.lb 1 rfl ?_
                          refine Z.lnil ?_
                          refine Z.only [8] rfl ?_
                          refine Z.nthen ?_
                          refine Z.ret ?_
                          repeat (first | refine Z.rthen ?_ | refine Z.rblock ?_ | refine Z.rscope ?_ | refine Z.rjump ?_)
                          -- ret#0
                          refine Z.out1 (by exact ⟨rfl, trivial⟩) ?_
                          first
                          | exact ⟨_, rfl, rfl, by rw [eA]; exact hs⟩
                          | exact ⟨_, rfl, by rw [show updV m t a b c d h = (m, 2) from if_neg hno], by rw [show updV m t a b c d h = (m, 2) from if_neg hno]; exact hs⟩
                      )
                )
          · first
              | (exfalso; simp at hsp22 <;> omega)
              | (
                refine Z.yes (s := 22) (b := false) rfl hsp22 rfl ?_
                (try simp at hsp22)
                refine Z.lb 1 rfl ?_
                refine Z.yes (s := 22) (b := false) rfl rfl rfl ?_
                refine Z.le rfl (by exact ⟨rfl, trivial⟩) ?_
                refine Z.ZO.litL (T' := 3) [(0, 1)] [.int .i64 0] rfl rfl (by rfl) rfl rfl (by intro W; kernel_rfl) hs ?_
                clear hs; intro g24 w24 hs
                refine Z.le rfl (by exact ⟨rfl, trivial⟩) ?_
                refine Z.ZO.call rfl rfl (by rfl) rfl rfl Try.call23 rfl (rp_within _ _ _ [h] 63 _ (hs.blkSl (by first | ((repeat (first | exact List.mem_cons_self | refine List.mem_cons_of_mem _ ?_ | refine List.mem_append_right _ ?_)); done) | fail)) rfl (by decide) (by decide)) ?_
                rintro v5_12 w5_12 ⟨rfl, hy⟩
                replace hs := hs.call hy
                clear hy
                try simp only [List.cons_append, List.nil_append, List.append_nil] at hs
                refine Z.lb 1 rfl ?_
                refine Z.yes (s := 22) (b := false) rfl rfl rfl ?_
                refine Z.l rfl rfl (by rfl) (Z.keepS hs) (Z.Yd.pickF rfl rfl) ?_
                refine Z.lnil ?_
                refine Z.only [0, 1, 3, 6, 8, 27] rfl ?_
                refine Z.nthen ?_
                refine Z.cond rfl (fun hc5 => ?_) (fun hc5 => ?_)
                · first
                    | (exfalso; simp at hc5 <;> omega)
                    | (
                      (try simp at hc5)
                      have hno : ¬ okU m t a b c d h := by intro ⟨hh, hh2, hh3⟩; first | omega | exact absurd hh2 (by assumption) | exact absurd hh3 (by assumption) | simp_all
                      refine Z.goto ?_
                      refine Z.gthen ?_
                      refine Z.gjump ?_
                      first | exact Z.meet () (by refine ⟨?_, trivial⟩ <;> (first | rfl | (refine Z.lookv rfl ?_; simp; done) | (refine Z.lookv rfl ?_; simp; omega))) ⟨by assumption, hs.sel [1] (by decide)⟩ | exact Z.meet () (by refine ⟨?_, trivial⟩ <;> (first | rfl | (refine Z.lookv rfl ?_; simp; done) | (refine Z.lookv rfl ?_; simp; omega))) ⟨by assumption, hs.sel [2] (by decide)⟩
                      )
                · first
                    | (exfalso; simp at hc5 <;> omega)
                    | (
                      (try simp at hc5)
                      have hok : okU m t a b c d h := by unfold okU; first | (simp_all; done) | (refine ⟨by omega, ?_, ?_⟩ <;> simp_all)
                      have eU : updV m t a b c d h = (updG m t a b c d h, 0) := if_pos hok
                      obtain ⟨⟨u1, u2⟩, ⟨u3, u4, u5, u6⟩, u7⟩ := (okU_iff m t a b c d h).1 hok
                      rw [eU]
                      refine Z.skip ?_
                      refine Z.nthen ?_
                      refine Z.seq ?_
                      refine Z.drawK (fun _ => true) mixed hs ?_
                      clear hs; intro wd6 hs
                      refine Z.tb [0] (by kernel_rfl) rfl ⟨_, hs, by first | (simp; done) | exact fun e he => List.mem_append_right _ he⟩ rfl ?_
                      refine Z.t 1 rfl rfl rfl (by rfl) (by kernel_rfl) ⟨_, hs, by first | (simp; done) | exact fun e he => List.mem_append_right _ he⟩ (Z.Yd.nilc rfl rfl) ?_
                      refine Z.t 2 rfl rfl rfl (by rfl) (by kernel_rfl) ⟨_, hs, by first | (simp; done) | exact fun e he => List.mem_append_right _ he⟩ (Z.Yd.fieldA (m := 10) rfl (by kernel_rfl)) ?_
                      refine Z.t 3 rfl rfl rfl (by rfl) (by kernel_rfl) ⟨_, hs, by first | (simp; done) | exact fun e he => List.mem_append_right _ he⟩ (Z.Yd.loadA _ rfl Try.isAgg22 (fun _ => Z.cellsBo (cs := m.cells) [.int .i64 (m).b0, .int .i64 (m).b1, .int .i64 (m).b2, .int .i64 (m).b3] (by first | ((repeat (first | exact List.mem_cons_self | refine List.mem_cons_of_mem _ ?_ | refine List.mem_append_right _ ?_)); done) | fail) ⟨[_, _, _, _], rfl⟩) (by exact Try.sizeOf22)) ?_
                      refine Z.t 5 rfl rfl rfl (by rfl) (by kernel_rfl) ⟨_, hs, by first | (simp; done) | exact fun e he => List.mem_append_right _ he⟩ (by first | exact Z.Yd.loadA _ rfl Try.isAgg22 (fun _ => Z.cellsB (by first | ((repeat (first | exact List.mem_cons_self | refine List.mem_cons_of_mem _ ?_ | refine List.mem_append_right _ ?_)); done) | fail)) (by exact Try.sizeOf22) | fail "load 6.5") ?_
                      refine Z.tn 4 rfl rfl (by kernel_rfl) rfl trivial ?_
                      refine Z.ZO.call rfl rfl (by rfl) rfl rfl Try.call26 rfl (rp_group m.b0 m.b1 m.b2 m.b3 _) ?_
                      rintro v6_4 w6_4 ⟨rfl, hy⟩
                      replace hs := hs.call hy
                      clear hy
                      try simp only [List.cons_append, List.nil_append, List.append_nil] at hs
                      refine Z.tk (Dn := fun _ => true) (i := 4) (fun _ => ⟨_, hs, by first | (simp; done) | exact fun e he => List.mem_append_right _ he⟩) ?_
                      refine Z.tn 6 rfl rfl (by kernel_rfl) rfl trivial ?_
                      refine Z.ZO.call rfl rfl (by rfl) rfl rfl Try.call26 rfl (rp_group a b c d _) ?_
                      rintro v6_6 w6_6 ⟨rfl, hy⟩
                      replace hs := hs.call hy
                      clear hy
                      try simp only [List.cons_append, List.nil_append, List.append_nil] at hs
                      refine Z.tk (Dn := fun _ => true) (i := 6) (fun _ => ⟨_, hs, by first | (simp; done) | exact fun e he => List.mem_append_right _ he⟩) ?_
                      refine Z.tb [7, 8] (by kernel_rfl) rfl ⟨_, hs, by first | (simp; done) | exact fun e he => List.mem_append_right _ he⟩ rfl ?_
                      refine Z.td (by rfl) (by kernel_rfl) ?_
                      refine Z.only [0, 1, 3, 6, 9, 10] rfl ?_
                      refine Z.nthen ?_
                      refine Z.seq ?_
                      refine Z.region ?_
                      refine Z.lb 4 rfl ?_
                      refine Z.l rfl rfl (by rfl) (Z.keepS hs) (by first | exact Z.Yd.loadA _ rfl Try.isAgg22 (fun _ => Z.cellsB (by first | ((repeat (first | exact List.mem_cons_self | refine List.mem_cons_of_mem _ ?_ | refine List.mem_append_right _ ?_)); done) | fail)) (by exact Try.sizeOf22) | fail "load 7.4") ?_
                      refine Z.lb 1 rfl ?_
                      refine Z.l rfl rfl (by rfl) (Z.keepS hs) (Z.Yd.nilc rfl rfl) ?_
                      refine Z.l rfl rfl (by rfl) (Z.keepS hs) (Z.Yd.fieldA (m := 9) rfl (by kernel_rfl)) ?_
                      refine Z.le rfl trivial ?_
                      first | refine Z.ZO.store rfl rfl hs Try.sizeOf3 rfl rfl rfl (by first | exact SX.at0 | exact SX.at1 | exact SX.at2 | exact SX.at3 | exact SX.at4 | exact SX.at5 | exact Z.at6 | exact Z.at7 | exact Z.at8 | exact Z.at9 | exact Z.at10 | exact Z.at11 | exact Z.at12) (by first | (simp; done) | (simp; omega)) ?_ | refine Z.ZO.storeR rfl rfl hs Try.sizeOf3 rfl rfl rfl (by first | exact SX.at0 | exact SX.at1 | exact SX.at2 | exact SX.at3 | exact SX.at4 | exact SX.at5 | exact Z.at6 | exact Z.at7 | exact Z.at8 | exact Z.at9 | exact Z.at10 | exact Z.at11 | exact Z.at12) (by first | omega | (simp [ints_length]; done) | (simp [ints_length]; omega)) ?_
                      clear hs; intro ws hs
                      simp only [Nat.zero_add, Nat.add_zero, Nat.reduceAdd, Int.reduceToNat, Nat.reduceMul, List.set_cons_zero, List.set_cons_succ, List.setIfInBounds_toArray] at hs
                      refine Z.l rfl rfl (by rfl) (Z.keepS hs) (Z.Yd.nilc rfl rfl) ?_
                      refine Z.l rfl rfl (by rfl) (Z.keepS hs) (Z.Yd.fieldA (m := 10) rfl (by kernel_rfl)) ?_
                      refine Z.le rfl trivial ?_
                      first | refine Z.ZO.storeA rfl rfl hs rfl rfl (by kernel_rfl) (by first | (simp [Value.oneCell']; done) | (refine Z.all_one ?_; assumption)) (by first | exact SX.at0 | exact SX.at1 | exact SX.at2 | exact SX.at3 | exact SX.at4 | exact SX.at5 | exact Z.at6 | exact Z.at7 | exact Z.at8 | exact Z.at9 | exact Z.at10 | exact Z.at11 | exact Z.at12) (by rfl) ?_ | refine Z.ZO.storeP rfl rfl hs rfl rfl (by kernel_rfl) (by first | (simp [Value.oneCell']; done) | (refine Z.all_one ?_; assumption)) (by first | exact SX.at0 | exact SX.at1 | exact SX.at2 | exact SX.at3 | exact SX.at4 | exact SX.at5 | exact Z.at6 | exact Z.at7 | exact Z.at8 | exact Z.at9 | exact Z.at10 | exact Z.at11 | exact Z.at12) (by first | decide | (simp; done) | (simp; omega)) ?_ | refine Z.ZO.storePR rfl rfl hs rfl rfl (by kernel_rfl) (by first | (simp [Value.oneCell']; done) | (refine Z.all_one ?_; assumption)) (by first | exact SX.at0 | exact SX.at1 | exact SX.at2 | exact SX.at3 | exact SX.at4 | exact SX.at5 | exact Z.at6 | exact Z.at7 | exact Z.at8 | exact Z.at9 | exact Z.at10 | exact Z.at11 | exact Z.at12) (by first | decide | (simp; done) | (simp; omega)) ?_
                      clear hs; intro ws hs
                      simp only [Nat.zero_add, Nat.add_zero, Nat.reduceAdd, Int.reduceToNat, Nat.reduceMul, List.set_cons_zero, List.set_cons_succ, List.setIfInBounds_toArray] at hs
                      try simp only [Z.putL, Nat.zero_add] at hs
                      refine Z.l rfl rfl (by rfl) (Z.keepS hs) (Z.Yd.nilc rfl rfl) ?_
                      refine Z.l rfl rfl (by rfl) (Z.keepS hs) (Z.Yd.fieldA (m := 14) rfl (by kernel_rfl)) ?_
                      refine Z.le rfl trivial ?_
                      first | refine Z.ZO.store rfl rfl hs Try.sizeOf3 rfl rfl rfl (by first | exact SX.at0 | exact SX.at1 | exact SX.at2 | exact SX.at3 | exact SX.at4 | exact SX.at5 | exact Z.at6 | exact Z.at7 | exact Z.at8 | exact Z.at9 | exact Z.at10 | exact Z.at11 | exact Z.at12) (by first | (simp; done) | (simp; omega)) ?_ | refine Z.ZO.storeR rfl rfl hs Try.sizeOf3 rfl rfl rfl (by first | exact SX.at0 | exact SX.at1 | exact SX.at2 | exact SX.at3 | exact SX.at4 | exact SX.at5 | exact Z.at6 | exact Z.at7 | exact Z.at8 | exact Z.at9 | exact Z.at10 | exact Z.at11 | exact Z.at12) (by first | omega | (simp [ints_length]; done) | (simp [ints_length]; omega)) ?_
                      clear hs; intro ws hs
                      simp only [Nat.zero_add, Nat.add_zero, Nat.reduceAdd, Int.reduceToNat, Nat.reduceMul, List.set_cons_zero, List.set_cons_succ, List.setIfInBounds_toArray] at hs
                      refine Z.lnil ?_
                      refine Z.only [0, 9, 10] rfl ?_
                      refine Z.nthen ?_
                      refine Z.seq ?_
                      refine Z.seq ?_
                      refine Z.region ?_
                      obtain ⟨R, hR⟩ : ∃ R, R = (updG m t a b c d h).reg := ⟨_, rfl⟩
                      obtain ⟨Q, hQ⟩ : ∃ R, R = (updG m t a b c d h).per := ⟨_, rfl⟩
                      obtain ⟨X, hX⟩ : ∃ R, R = (updG m t a b c d h).pow := ⟨_, rfl⟩
                      have eA : updG m t a b c d h = { m with reg := R, per := Q, pow := X, now := t, b0 := a, b1 := b, b2 := c, b3 := d, head := h } := by rw [hR, hQ, hX]; rfl
                      simp only [updG] at hR hQ hX
                      replace hs : SX.St w M _ [SX.Ent.blk g T ({ m with now := t, b0 := a, b1 := b, b2 := c, b3 := d, head := h } : RpV).cells.toArray] := hs.sel [2] (by decide)
                      refine Z.l rfl rfl (by rfl) (Z.keepS hs) (Z.Yd.pure rfl) ?_
                      refine Z.lb 1 rfl ?_
                      refine Z.lnil ?_
                      refine Z.only [0, 9, 10, 48] rfl ?_
                      refine Z.nthen ?_
                      refine Z.cutt (ι := Unit) [0] rfl (fun _ => []) (fun _ wr => SX.St w M wr [SX.Ent.blk g T ({ m with reg := R, per := Q, now := t, b0 := a, b1 := b, b2 := c, b3 := d, head := h } : RpV).cells.toArray]) ?_ ?_
                      · skip
                        refine Z.cond rfl (fun hc8 => ?_) (fun hc8 => ?_)
                        · first
                            | (exfalso; simp at hc8 <;> omega)
                            | (
                              (try simp at hc8)
                              rw [if_pos (by assumption)] at hR hQ
                              replace hs : SX.St w M _ [SX.Ent.blk g T #[.bool ({ m with now := t, b0 := a, b1 := b, b2 := c, b3 := d, head := h }).reg, .bool ({ m with now := t, b0 := a, b1 := b, b2 := c, b3 := d, head := h }).per, .bool ({ m with now := t, b0 := a, b1 := b, b2 := c, b3 := d, head := h }).pow, .bool ({ m with now := t, b0 := a, b1 := b, b2 := c, b3 := d, head := h }).fst, .bool true, .int .i64 ({ m with now := t, b0 := a, b1 := b, b2 := c, b3 := d, head := h }).c0, .int .i64 ({ m with now := t, b0 := a, b1 := b, b2 := c, b3 := d, head := h }).c1, .int .i64 ({ m with now := t, b0 := a, b1 := b, b2 := c, b3 := d, head := h }).c2, .int .i64 ({ m with now := t, b0 := a, b1 := b, b2 := c, b3 := d, head := h }).c3, .int .i64 ({ m with now := t, b0 := a, b1 := b, b2 := c, b3 := d, head := h }).now, .int .i64 ({ m with now := t, b0 := a, b1 := b, b2 := c, b3 := d, head := h }).b0, .int .i64 ({ m with now := t, b0 := a, b1 := b, b2 := c, b3 := d, head := h }).b1, .int .i64 ({ m with now := t, b0 := a, b1 := b, b2 := c, b3 := d, head := h }).b2, .int .i64 ({ m with now := t, b0 := a, b1 := b, b2 := c, b3 := d, head := h }).b3, .int .i64 ({ m with now := t, b0 := a, b1 := b, b2 := c, b3 := d, head := h }).head, .int .i64 ({ m with now := t, b0 := a, b1 := b, b2 := c, b3 := d, head := h }).last, .int .i64 ({ m with now := t, b0 := a, b1 := b, b2 := c, b3 := d, head := h }).lastP, .int .i64 ({ m with now := t, b0 := a, b1 := b, b2 := c, b3 := d, head := h }).told]] := hs
                              refine Z.region ?_
                              refine Z.lb 2 rfl ?_
                              refine Z.l rfl rfl (by rfl) (Z.keepS hs) (Z.Yd.nilc rfl rfl) ?_
                              refine Z.l rfl rfl (by rfl) (Z.keepS hs) (Z.Yd.fieldA (m := 0) rfl (by kernel_rfl)) ?_
                              refine Z.l rfl rfl (by rfl) (Z.keepS hs) (Z.Yd.fieldA (m := 0) rfl (by kernel_rfl)) ?_
                              refine Z.le rfl trivial ?_
                              first | refine Z.ZO.store rfl rfl hs Try.sizeOf4 rfl rfl rfl (by first | exact SX.at0 | exact SX.at1 | exact SX.at2 | exact SX.at3 | exact SX.at4 | exact SX.at5 | exact Z.at6 | exact Z.at7 | exact Z.at8 | exact Z.at9 | exact Z.at10 | exact Z.at11 | exact Z.at12) (by first | (simp; done) | (simp; omega)) ?_ | refine Z.ZO.storeR rfl rfl hs Try.sizeOf4 rfl rfl rfl (by first | exact SX.at0 | exact SX.at1 | exact SX.at2 | exact SX.at3 | exact SX.at4 | exact SX.at5 | exact Z.at6 | exact Z.at7 | exact Z.at8 | exact Z.at9 | exact Z.at10 | exact Z.at11 | exact Z.at12) (by first | omega | (simp [ints_length]; done) | (simp [ints_length]; omega)) ?_
                              clear hs; intro ws hs
                              simp only [Nat.zero_add, Nat.add_zero, Nat.reduceAdd, Int.reduceToNat, Nat.reduceMul, List.set_cons_zero, List.set_cons_succ, List.setIfInBounds_toArray] at hs
                              refine Z.l rfl rfl (by rfl) (Z.keepS hs) (Z.Yd.nilc rfl rfl) ?_
                              refine Z.l rfl rfl (by rfl) (Z.keepS hs) (Z.Yd.fieldA (m := 0) rfl (by kernel_rfl)) ?_
                              refine Z.l rfl rfl (by rfl) (Z.keepS hs) (Z.Yd.fieldA (m := 1) rfl (by kernel_rfl)) ?_
                              refine Z.le rfl trivial ?_
                              first | refine Z.ZO.store rfl rfl hs Try.sizeOf4 rfl rfl rfl (by first | exact SX.at0 | exact SX.at1 | exact SX.at2 | exact SX.at3 | exact SX.at4 | exact SX.at5 | exact Z.at6 | exact Z.at7 | exact Z.at8 | exact Z.at9 | exact Z.at10 | exact Z.at11 | exact Z.at12) (by first | (simp; done) | (simp; omega)) ?_ | refine Z.ZO.storeR rfl rfl hs Try.sizeOf4 rfl rfl rfl (by first | exact SX.at0 | exact SX.at1 | exact SX.at2 | exact SX.at3 | exact SX.at4 | exact SX.at5 | exact Z.at6 | exact Z.at7 | exact Z.at8 | exact Z.at9 | exact Z.at10 | exact Z.at11 | exact Z.at12) (by first | omega | (simp [ints_length]; done) | (simp [ints_length]; omega)) ?_
                              clear hs; intro ws hs
                              simp only [Nat.zero_add, Nat.add_zero, Nat.reduceAdd, Int.reduceToNat, Nat.reduceMul, List.set_cons_zero, List.set_cons_succ, List.setIfInBounds_toArray] at hs
                              refine Z.lnil ?_
                              refine Z.only [0] rfl ?_
                              refine Z.nthen ?_
                              first | exact Z.meet () (by refine ⟨?_, trivial⟩ <;> (first | rfl | (refine Z.lookv rfl ?_; simp; done) | (refine Z.lookv rfl ?_; simp; omega))) (by rw [hR, hQ]; exact hs) | exact Z.meet () (by refine ⟨?_, trivial⟩ <;> (first | rfl | (refine Z.lookv rfl ?_; simp; done) | (refine Z.lookv rfl ?_; simp; omega))) (by rw [show Q = true by rw [hQ]; simp_all]; exact hs) | exact Z.meet () (by refine ⟨?_, trivial⟩ <;> (first | rfl | (refine Z.lookv rfl ?_; simp; done) | (refine Z.lookv rfl ?_; simp; omega))) (by rw [show Q = dueV m.c0 m.last t by rw [hQ]; simp_all]; exact hs)
                              )
                        · first
                            | (exfalso; simp at hc8 <;> omega)
                            | (
                              (try simp at hc8)
                              rw [if_neg (by assumption)] at hR hQ
                              replace hs : SX.St w M _ [SX.Ent.blk g T #[.bool ({ m with now := t, b0 := a, b1 := b, b2 := c, b3 := d, head := h }).reg, .bool ({ m with now := t, b0 := a, b1 := b, b2 := c, b3 := d, head := h }).per, .bool ({ m with now := t, b0 := a, b1 := b, b2 := c, b3 := d, head := h }).pow, .bool ({ m with now := t, b0 := a, b1 := b, b2 := c, b3 := d, head := h }).fst, .bool true, .int .i64 ({ m with now := t, b0 := a, b1 := b, b2 := c, b3 := d, head := h }).c0, .int .i64 ({ m with now := t, b0 := a, b1 := b, b2 := c, b3 := d, head := h }).c1, .int .i64 ({ m with now := t, b0 := a, b1 := b, b2 := c, b3 := d, head := h }).c2, .int .i64 ({ m with now := t, b0 := a, b1 := b, b2 := c, b3 := d, head := h }).c3, .int .i64 ({ m with now := t, b0 := a, b1 := b, b2 := c, b3 := d, head := h }).now, .int .i64 ({ m with now := t, b0 := a, b1 := b, b2 := c, b3 := d, head := h }).b0, .int .i64 ({ m with now := t, b0 := a, b1 := b, b2 := c, b3 := d, head := h }).b1, .int .i64 ({ m with now := t, b0 := a, b1 := b, b2 := c, b3 := d, head := h }).b2, .int .i64 ({ m with now := t, b0 := a, b1 := b, b2 := c, b3 := d, head := h }).b3, .int .i64 ({ m with now := t, b0 := a, b1 := b, b2 := c, b3 := d, head := h }).head, .int .i64 ({ m with now := t, b0 := a, b1 := b, b2 := c, b3 := d, head := h }).last, .int .i64 ({ m with now := t, b0 := a, b1 := b, b2 := c, b3 := d, head := h }).lastP, .int .i64 ({ m with now := t, b0 := a, b1 := b, b2 := c, b3 := d, head := h }).told]] := hs
                              refine Z.seq ?_
                              refine Z.cutt (ι := Unit) [0] rfl (fun _ => []) (fun _ wr => SX.St w M wr [SX.Ent.blk g T ({ m with reg := R, now := t, b0 := a, b1 := b, b2 := c, b3 := d, head := h } : RpV).cells.toArray]) ?_ ?_
                              · skip
                                refine Z.drawK (fun j => j != 27) mixed hs ?_
                                clear hs; intro wd10 hs
                                refine Z.tb [0, 1] (by kernel_rfl) rfl ⟨_, hs, by first | (simp; done) | exact fun e he => List.mem_append_right _ he⟩ rfl ?_
                                refine Z.t 2 rfl rfl rfl (by rfl) (by kernel_rfl) ⟨_, hs, by first | (simp; done) | exact fun e he => List.mem_append_right _ he⟩ (Z.Yd.nilc rfl rfl) ?_
                                refine Z.t 3 rfl rfl rfl (by rfl) (by kernel_rfl) ⟨_, hs, by first | (simp; done) | exact fun e he => List.mem_append_right _ he⟩ (Z.Yd.fieldA (m := 0) rfl (by kernel_rfl)) ?_
                                refine Z.t 4 rfl rfl rfl (by rfl) (by kernel_rfl) ⟨_, hs, by first | (simp; done) | exact fun e he => List.mem_append_right _ he⟩ (Z.Yd.fieldA (m := 0) rfl (by kernel_rfl)) ?_
                                refine Z.t 5 rfl rfl rfl (by rfl) (by kernel_rfl) ⟨_, hs, by first | (simp; done) | exact fun e he => List.mem_append_right _ he⟩ (by first | exact Z.Yd.load rfl Try.isAgg4 (fun _ => Z.cellB (by first | ((repeat (first | exact List.mem_cons_self | refine List.mem_cons_of_mem _ ?_ | refine List.mem_append_right _ ?_)); done) | fail) rfl) | exact Z.Yd.load rfl Try.isAgg4 (fun _ => Z.cellO (by assumption) (by simp) (by assumption)) | fail "load 10.5") ?_
                                refine Z.tb [6, 7, 8, 9, 10, 11, 12, 13] (by kernel_rfl) rfl ⟨_, hs, by first | (simp; done) | exact fun e he => List.mem_append_right _ he⟩ rfl ?_
                                refine Z.t 14 rfl rfl rfl (by rfl) (by kernel_rfl) ⟨_, hs, by first | (simp; done) | exact fun e he => List.mem_append_right _ he⟩ (Z.Yd.nilc rfl rfl) ?_
                                refine Z.t 15 rfl rfl rfl (by rfl) (by kernel_rfl) ⟨_, hs, by first | (simp; done) | exact fun e he => List.mem_append_right _ he⟩ (Z.Yd.fieldA (m := 5) rfl (by kernel_rfl)) ?_
                                refine Z.t 16 rfl rfl rfl (by rfl) (by kernel_rfl) ⟨_, hs, by first | (simp; done) | exact fun e he => List.mem_append_right _ he⟩ (Z.Yd.fieldA (m := 1) rfl (by kernel_rfl)) ?_
                                refine Z.t 17 rfl rfl rfl (by rfl) (by kernel_rfl) ⟨_, hs, by first | (simp; done) | exact fun e he => List.mem_append_right _ he⟩ (by first | exact Z.Yd.load rfl Try.isAgg3 (fun _ => Z.cellB (by first | ((repeat (first | exact List.mem_cons_self | refine List.mem_cons_of_mem _ ?_ | refine List.mem_append_right _ ?_)); done) | fail) rfl) | exact Z.Yd.load rfl Try.isAgg3 (fun _ => Z.cellO (by assumption) (by simp) (by assumption)) | fail "load 10.17") ?_
                                refine Z.tb [18] (by kernel_rfl) rfl ⟨_, hs, by first | (simp; done) | exact fun e he => List.mem_append_right _ he⟩ rfl ?_
                                refine Z.t 19 rfl rfl rfl (by rfl) (by kernel_rfl) ⟨_, hs, by first | (simp; done) | exact fun e he => List.mem_append_right _ he⟩ (Z.Yd.nilc rfl rfl) ?_
                                refine Z.t 20 rfl rfl rfl (by rfl) (by kernel_rfl) ⟨_, hs, by first | (simp; done) | exact fun e he => List.mem_append_right _ he⟩ (Z.Yd.fieldA (m := 15) rfl (by kernel_rfl)) ?_
                                refine Z.t 21 rfl rfl rfl (by rfl) (by kernel_rfl) ⟨_, hs, by first | (simp; done) | exact fun e he => List.mem_append_right _ he⟩ (by first | exact Z.Yd.load rfl Try.isAgg3 (fun _ => Z.cellB (by first | ((repeat (first | exact List.mem_cons_self | refine List.mem_cons_of_mem _ ?_ | refine List.mem_append_right _ ?_)); done) | fail) rfl) | exact Z.Yd.load rfl Try.isAgg3 (fun _ => Z.cellO (by assumption) (by simp) (by assumption)) | fail "load 10.21") ?_
                                refine Z.split (s := 68) rfl (fun hsp68 => ?_) (fun hsp68 => ?_)
                                · first
                                    | (exfalso; simp at hsp68 <;> omega)
                                    | (
                                      refine Z.yes (s := 68) (b := true) rfl hsp68 rfl ?_
                                      (try simp at hsp68)
                                      refine Z.tnS 68 false 22 rfl rfl (by kernel_rfl) rfl rfl (by simp) rfl (by rfl) (fun _ => ⟨_, hs, by first | (simp; done) | exact fun e he => List.mem_append_right _ he⟩) ?_
                                      refine Z.t 23 rfl rfl rfl (by rfl) (by kernel_rfl) ⟨_, hs, by first | (simp; done) | exact fun e he => List.mem_append_right _ he⟩ (Z.Yd.pickT rfl rfl) ?_
                                      refine Z.tn 24 rfl rfl (by kernel_rfl) rfl trivial ?_
                                      refine Z.ZO.quiet rfl (by rfl) (Z.keepS hs) (Z.Yd.nilc rfl rfl) ?_
                                      refine Z.tk (Dn := fun j => j != 27) (i := 24) (fun _ => ⟨_, hs, by first | (simp; done) | exact fun e he => List.mem_append_right _ he⟩) ?_
                                      refine Z.tn 25 rfl rfl (by kernel_rfl) rfl trivial ?_
                                      refine Z.ZO.quiet rfl (by rfl) (Z.keepS hs) (Z.Yd.fieldA (m := 0) rfl (by kernel_rfl)) ?_
                                      refine Z.tk (Dn := fun j => j != 27) (i := 25) (fun _ => ⟨_, hs, by first | (simp; done) | exact fun e he => List.mem_append_right _ he⟩) ?_
                                      refine Z.t 26 rfl rfl rfl (by rfl) (by kernel_rfl) ⟨_, hs, by first | (simp; done) | exact fun e he => List.mem_append_right _ he⟩ (Z.Yd.fieldA (m := 0) rfl (by kernel_rfl)) ?_
                                      refine Z.tn 27 rfl rfl (by kernel_rfl) rfl trivial ?_
                                      first | refine Z.ZO.store rfl rfl hs Try.sizeOf4 rfl rfl rfl (by first | exact SX.at0 | exact SX.at1 | exact SX.at2 | exact SX.at3 | exact SX.at4 | exact SX.at5 | exact Z.at6 | exact Z.at7 | exact Z.at8 | exact Z.at9 | exact Z.at10 | exact Z.at11 | exact Z.at12) (by first | (simp; done) | (simp; omega)) ?_ | refine Z.ZO.storeR rfl rfl hs Try.sizeOf4 rfl rfl rfl (by first | exact SX.at0 | exact SX.at1 | exact SX.at2 | exact SX.at3 | exact SX.at4 | exact SX.at5 | exact Z.at6 | exact Z.at7 | exact Z.at8 | exact Z.at9 | exact Z.at10 | exact Z.at11 | exact Z.at12) (by first | omega | (simp [ints_length]; done) | (simp [ints_length]; omega)) ?_
                                      clear hs; intro ws hs
                                      simp only [Nat.zero_add, Nat.add_zero, Nat.reduceAdd, Int.reduceToNat, Nat.reduceMul, List.set_cons_zero, List.set_cons_succ, List.setIfInBounds_toArray] at hs
                                      refine Z.tk (Dn := fun j => j != 27) (i := 27) (fun h => absurd h (by decide)) ?_
                                      refine Z.td (by rfl) (by kernel_rfl) ?_
                                      refine Z.only [0] rfl ?_
                                      refine Z.nthen ?_
                                      first | exact Z.meet () (by refine ⟨?_, trivial⟩ <;> (first | rfl | (refine Z.lookv rfl ?_; simp; done) | (refine Z.lookv rfl ?_; simp; omega))) (by rw [show R = true by rw [hR]; simp_all]; exact hs) | exact Z.meet () (by refine ⟨?_, trivial⟩ <;> (first | rfl | (refine Z.lookv rfl ?_; simp; done) | (refine Z.lookv rfl ?_; simp; omega))) (by rw [show R = dueV m.c1 m.last t by rw [hR]; simp_all; intro _; omega]; exact hs)
                                      )
                                · first
                                    | (exfalso; simp at hsp68 <;> omega)
                                    | (
                                      refine Z.yes (s := 68) (b := false) rfl hsp68 rfl ?_
                                      (try simp at hsp68)
                                      refine Z.tn 22 rfl rfl (by kernel_rfl) rfl (by exact ⟨rfl, trivial⟩) ?_
                                      refine Z.ZO.call rfl rfl (by rfl) rfl rfl Try.call27 rfl (rp_due g { m with now := t, b0 := a, b1 := b, b2 := c, b3 := d, head := h } m.c1 m.last _ (hs.celOf (by first | ((repeat (first | exact List.mem_cons_self | refine List.mem_cons_of_mem _ ?_ | refine List.mem_append_right _ ?_)); done) | fail)) ⟨by show 0 ≤ t; omega, u2⟩ h8) ?_
                                      rintro v10_22 w10_22 ⟨rfl, hy⟩
                                      replace hs := hs.call hy
                                      clear hy
                                      try simp only [List.cons_append, List.nil_append, List.append_nil] at hs
                                      refine Z.tk (Dn := fun j => j != 27) (i := 22) (fun _ => ⟨_, hs, by first | (simp; done) | exact fun e he => List.mem_append_right _ he⟩) ?_
                                      refine Z.t 23 rfl rfl rfl (by rfl) (by kernel_rfl) ⟨_, hs, by first | (simp; done) | exact fun e he => List.mem_append_right _ he⟩ (Z.Yd.pickF rfl rfl) ?_
                                      refine Z.tn 24 rfl rfl (by kernel_rfl) rfl trivial ?_
                                      refine Z.ZO.quiet rfl (by rfl) (Z.keepS hs) (Z.Yd.nilc rfl rfl) ?_
                                      refine Z.tk (Dn := fun j => j != 27) (i := 24) (fun _ => ⟨_, hs, by first | (simp; done) | exact fun e he => List.mem_append_right _ he⟩) ?_
                                      refine Z.tn 25 rfl rfl (by kernel_rfl) rfl trivial ?_
                                      refine Z.ZO.quiet rfl (by rfl) (Z.keepS hs) (Z.Yd.fieldA (m := 0) rfl (by kernel_rfl)) ?_
                                      refine Z.tk (Dn := fun j => j != 27) (i := 25) (fun _ => ⟨_, hs, by first | (simp; done) | exact fun e he => List.mem_append_right _ he⟩) ?_
                                      refine Z.t 26 rfl rfl rfl (by rfl) (by kernel_rfl) ⟨_, hs, by first | (simp; done) | exact fun e he => List.mem_append_right _ he⟩ (Z.Yd.fieldA (m := 0) rfl (by kernel_rfl)) ?_
                                      refine Z.tn 27 rfl rfl (by kernel_rfl) rfl trivial ?_
                                      first | refine Z.ZO.store rfl rfl hs Try.sizeOf4 rfl rfl rfl (by first | exact SX.at0 | exact SX.at1 | exact SX.at2 | exact SX.at3 | exact SX.at4 | exact SX.at5 | exact Z.at6 | exact Z.at7 | exact Z.at8 | exact Z.at9 | exact Z.at10 | exact Z.at11 | exact Z.at12) (by first | (simp; done) | (simp; omega)) ?_ | refine Z.ZO.storeR rfl rfl hs Try.sizeOf4 rfl rfl rfl (by first | exact SX.at0 | exact SX.at1 | exact SX.at2 | exact SX.at3 | exact SX.at4 | exact SX.at5 | exact Z.at6 | exact Z.at7 | exact Z.at8 | exact Z.at9 | exact Z.at10 | exact Z.at11 | exact Z.at12) (by first | omega | (simp [ints_length]; done) | (simp [ints_length]; omega)) ?_
                                      clear hs; intro ws hs
                                      simp only [Nat.zero_add, Nat.add_zero, Nat.reduceAdd, Int.reduceToNat, Nat.reduceMul, List.set_cons_zero, List.set_cons_succ, List.setIfInBounds_toArray] at hs
                                      refine Z.tk (Dn := fun j => j != 27) (i := 27) (fun h => absurd h (by decide)) ?_
                                      refine Z.td (by rfl) (by kernel_rfl) ?_
                                      refine Z.only [0] rfl ?_
                                      refine Z.nthen ?_
                                      first | exact Z.meet () (by refine ⟨?_, trivial⟩ <;> (first | rfl | (refine Z.lookv rfl ?_; simp; done) | (refine Z.lookv rfl ?_; simp; omega))) (by rw [show R = true by rw [hR]; simp_all]; exact hs) | exact Z.meet () (by refine ⟨?_, trivial⟩ <;> (first | rfl | (refine Z.lookv rfl ?_; simp; done) | (refine Z.lookv rfl ?_; simp; omega))) (by rw [show R = dueV m.c1 m.last t by rw [hR]; simp_all; intro _; omega]; exact hs)
                                      )
                              · clear hs
                                rintro _ w10 hs
                                refine Z.only [0] rfl ?_
                                replace hs : SX.St w M w10 [SX.Ent.blk g T #[.bool ({ m with reg := R, now := t, b0 := a, b1 := b, b2 := c, b3 := d, head := h }).reg, .bool ({ m with reg := R, now := t, b0 := a, b1 := b, b2 := c, b3 := d, head := h }).per, .bool ({ m with reg := R, now := t, b0 := a, b1 := b, b2 := c, b3 := d, head := h }).pow, .bool ({ m with reg := R, now := t, b0 := a, b1 := b, b2 := c, b3 := d, head := h }).fst, .bool true, .int .i64 ({ m with reg := R, now := t, b0 := a, b1 := b, b2 := c, b3 := d, head := h }).c0, .int .i64 ({ m with reg := R, now := t, b0 := a, b1 := b, b2 := c, b3 := d, head := h }).c1, .int .i64 ({ m with reg := R, now := t, b0 := a, b1 := b, b2 := c, b3 := d, head := h }).c2, .int .i64 ({ m with reg := R, now := t, b0 := a, b1 := b, b2 := c, b3 := d, head := h }).c3, .int .i64 ({ m with reg := R, now := t, b0 := a, b1 := b, b2 := c, b3 := d, head := h }).now, .int .i64 ({ m with reg := R, now := t, b0 := a, b1 := b, b2 := c, b3 := d, head := h }).b0, .int .i64 ({ m with reg := R, now := t, b0 := a, b1 := b, b2 := c, b3 := d, head := h }).b1, .int .i64 ({ m with reg := R, now := t, b0 := a, b1 := b, b2 := c, b3 := d, head := h }).b2, .int .i64 ({ m with reg := R, now := t, b0 := a, b1 := b, b2 := c, b3 := d, head := h }).b3, .int .i64 ({ m with reg := R, now := t, b0 := a, b1 := b, b2 := c, b3 := d, head := h }).head, .int .i64 ({ m with reg := R, now := t, b0 := a, b1 := b, b2 := c, b3 := d, head := h }).last, .int .i64 ({ m with reg := R, now := t, b0 := a, b1 := b, b2 := c, b3 := d, head := h }).lastP, .int .i64 ({ m with reg := R, now := t, b0 := a, b1 := b, b2 := c, b3 := d, head := h }).told]] := hs
                                refine Z.drawK (fun j => j != 22) mixed hs ?_
                                clear hs; intro wd11 hs
                                refine Z.tb [0, 1] (by kernel_rfl) rfl ⟨_, hs, by first | (simp; done) | exact fun e he => List.mem_append_right _ he⟩ rfl ?_
                                refine Z.t 2 rfl rfl rfl (by rfl) (by kernel_rfl) ⟨_, hs, by first | (simp; done) | exact fun e he => List.mem_append_right _ he⟩ (Z.Yd.nilc rfl rfl) ?_
                                refine Z.t 3 rfl rfl rfl (by rfl) (by kernel_rfl) ⟨_, hs, by first | (simp; done) | exact fun e he => List.mem_append_right _ he⟩ (Z.Yd.fieldA (m := 0) rfl (by kernel_rfl)) ?_
                                refine Z.t 4 rfl rfl rfl (by rfl) (by kernel_rfl) ⟨_, hs, by first | (simp; done) | exact fun e he => List.mem_append_right _ he⟩ (Z.Yd.fieldA (m := 1) rfl (by kernel_rfl)) ?_
                                refine Z.t 5 rfl rfl rfl (by rfl) (by kernel_rfl) ⟨_, hs, by first | (simp; done) | exact fun e he => List.mem_append_right _ he⟩ (by first | exact Z.Yd.load rfl Try.isAgg4 (fun _ => Z.cellB (by first | ((repeat (first | exact List.mem_cons_self | refine List.mem_cons_of_mem _ ?_ | refine List.mem_append_right _ ?_)); done) | fail) rfl) | exact Z.Yd.load rfl Try.isAgg4 (fun _ => Z.cellO (by assumption) (by simp) (by assumption)) | fail "load 11.5") ?_
                                refine Z.tb [6, 7, 8] (by kernel_rfl) rfl ⟨_, hs, by first | (simp; done) | exact fun e he => List.mem_append_right _ he⟩ rfl ?_
                                refine Z.t 9 rfl rfl rfl (by rfl) (by kernel_rfl) ⟨_, hs, by first | (simp; done) | exact fun e he => List.mem_append_right _ he⟩ (Z.Yd.nilc rfl rfl) ?_
                                refine Z.t 10 rfl rfl rfl (by rfl) (by kernel_rfl) ⟨_, hs, by first | (simp; done) | exact fun e he => List.mem_append_right _ he⟩ (Z.Yd.fieldA (m := 5) rfl (by kernel_rfl)) ?_
                                refine Z.t 11 rfl rfl rfl (by rfl) (by kernel_rfl) ⟨_, hs, by first | (simp; done) | exact fun e he => List.mem_append_right _ he⟩ (Z.Yd.fieldA (m := 0) rfl (by kernel_rfl)) ?_
                                refine Z.t 12 rfl rfl rfl (by rfl) (by kernel_rfl) ⟨_, hs, by first | (simp; done) | exact fun e he => List.mem_append_right _ he⟩ (by first | exact Z.Yd.load rfl Try.isAgg3 (fun _ => Z.cellB (by first | ((repeat (first | exact List.mem_cons_self | refine List.mem_cons_of_mem _ ?_ | refine List.mem_append_right _ ?_)); done) | fail) rfl) | exact Z.Yd.load rfl Try.isAgg3 (fun _ => Z.cellO (by assumption) (by simp) (by assumption)) | fail "load 11.12") ?_
                                refine Z.tb [13] (by kernel_rfl) rfl ⟨_, hs, by first | (simp; done) | exact fun e he => List.mem_append_right _ he⟩ rfl ?_
                                refine Z.t 14 rfl rfl rfl (by rfl) (by kernel_rfl) ⟨_, hs, by first | (simp; done) | exact fun e he => List.mem_append_right _ he⟩ (Z.Yd.nilc rfl rfl) ?_
                                refine Z.t 15 rfl rfl rfl (by rfl) (by kernel_rfl) ⟨_, hs, by first | (simp; done) | exact fun e he => List.mem_append_right _ he⟩ (Z.Yd.fieldA (m := 15) rfl (by kernel_rfl)) ?_
                                refine Z.t 16 rfl rfl rfl (by rfl) (by kernel_rfl) ⟨_, hs, by first | (simp; done) | exact fun e he => List.mem_append_right _ he⟩ (by first | exact Z.Yd.load rfl Try.isAgg3 (fun _ => Z.cellB (by first | ((repeat (first | exact List.mem_cons_self | refine List.mem_cons_of_mem _ ?_ | refine List.mem_append_right _ ?_)); done) | fail) rfl) | exact Z.Yd.load rfl Try.isAgg3 (fun _ => Z.cellO (by assumption) (by simp) (by assumption)) | fail "load 11.16") ?_
                                refine Z.split (s := 90) rfl (fun hsp90 => ?_) (fun hsp90 => ?_)
                                · first
                                    | (exfalso; simp at hsp90 <;> omega)
                                    | (
                                      refine Z.yes (s := 90) (b := true) rfl hsp90 rfl ?_
                                      (try simp at hsp90)
                                      refine Z.tnS 90 false 17 rfl rfl (by kernel_rfl) rfl rfl (by simp) rfl (by rfl) (fun _ => ⟨_, hs, by first | (simp; done) | exact fun e he => List.mem_append_right _ he⟩) ?_
                                      refine Z.t 18 rfl rfl rfl (by rfl) (by kernel_rfl) ⟨_, hs, by first | (simp; done) | exact fun e he => List.mem_append_right _ he⟩ (Z.Yd.pickT rfl rfl) ?_
                                      refine Z.tn 19 rfl rfl (by kernel_rfl) rfl trivial ?_
                                      refine Z.ZO.quiet rfl (by rfl) (Z.keepS hs) (Z.Yd.nilc rfl rfl) ?_
                                      refine Z.tk (Dn := fun j => j != 22) (i := 19) (fun _ => ⟨_, hs, by first | (simp; done) | exact fun e he => List.mem_append_right _ he⟩) ?_
                                      refine Z.tn 20 rfl rfl (by kernel_rfl) rfl trivial ?_
                                      refine Z.ZO.quiet rfl (by rfl) (Z.keepS hs) (Z.Yd.fieldA (m := 0) rfl (by kernel_rfl)) ?_
                                      refine Z.tk (Dn := fun j => j != 22) (i := 20) (fun _ => ⟨_, hs, by first | (simp; done) | exact fun e he => List.mem_append_right _ he⟩) ?_
                                      refine Z.t 21 rfl rfl rfl (by rfl) (by kernel_rfl) ⟨_, hs, by first | (simp; done) | exact fun e he => List.mem_append_right _ he⟩ (Z.Yd.fieldA (m := 1) rfl (by kernel_rfl)) ?_
                                      refine Z.tn 22 rfl rfl (by kernel_rfl) rfl trivial ?_
                                      first | refine Z.ZO.store rfl rfl hs Try.sizeOf4 rfl rfl rfl (by first | exact SX.at0 | exact SX.at1 | exact SX.at2 | exact SX.at3 | exact SX.at4 | exact SX.at5 | exact Z.at6 | exact Z.at7 | exact Z.at8 | exact Z.at9 | exact Z.at10 | exact Z.at11 | exact Z.at12) (by first | (simp; done) | (simp; omega)) ?_ | refine Z.ZO.storeR rfl rfl hs Try.sizeOf4 rfl rfl rfl (by first | exact SX.at0 | exact SX.at1 | exact SX.at2 | exact SX.at3 | exact SX.at4 | exact SX.at5 | exact Z.at6 | exact Z.at7 | exact Z.at8 | exact Z.at9 | exact Z.at10 | exact Z.at11 | exact Z.at12) (by first | omega | (simp [ints_length]; done) | (simp [ints_length]; omega)) ?_
                                      clear hs; intro ws hs
                                      simp only [Nat.zero_add, Nat.add_zero, Nat.reduceAdd, Int.reduceToNat, Nat.reduceMul, List.set_cons_zero, List.set_cons_succ, List.setIfInBounds_toArray] at hs
                                      refine Z.tk (Dn := fun j => j != 22) (i := 22) (fun h => absurd h (by decide)) ?_
                                      refine Z.td (by rfl) (by kernel_rfl) ?_
                                      refine Z.only [0] rfl ?_
                                      refine Z.nthen ?_
                                      first | exact Z.meet () (by refine ⟨?_, trivial⟩ <;> (first | rfl | (refine Z.lookv rfl ?_; simp; done) | (refine Z.lookv rfl ?_; simp; omega))) (by rw [hR, hQ]; exact hs) | exact Z.meet () (by refine ⟨?_, trivial⟩ <;> (first | rfl | (refine Z.lookv rfl ?_; simp; done) | (refine Z.lookv rfl ?_; simp; omega))) (by rw [show Q = true by rw [hQ]; simp_all]; exact hs) | exact Z.meet () (by refine ⟨?_, trivial⟩ <;> (first | rfl | (refine Z.lookv rfl ?_; simp; done) | (refine Z.lookv rfl ?_; simp; omega))) (by rw [show Q = dueV m.c0 m.last t by rw [hQ]; simp_all]; exact hs)
                                      )
                                · first
                                    | (exfalso; simp at hsp90 <;> omega)
                                    | (
                                      refine Z.yes (s := 90) (b := false) rfl hsp90 rfl ?_
                                      (try simp at hsp90)
                                      refine Z.tn 17 rfl rfl (by kernel_rfl) rfl (by exact ⟨rfl, trivial⟩) ?_
                                      refine Z.ZO.call rfl rfl (by rfl) rfl rfl Try.call27 rfl (rp_due g { m with reg := R, now := t, b0 := a, b1 := b, b2 := c, b3 := d, head := h } m.c0 m.last _ (hs.celOf (by first | ((repeat (first | exact List.mem_cons_self | refine List.mem_cons_of_mem _ ?_ | refine List.mem_append_right _ ?_)); done) | fail)) ⟨by show 0 ≤ t; omega, u2⟩ h8) ?_
                                      rintro v11_17 w11_17 ⟨rfl, hy⟩
                                      replace hs := hs.call hy
                                      clear hy
                                      try simp only [List.cons_append, List.nil_append, List.append_nil] at hs
                                      refine Z.tk (Dn := fun j => j != 22) (i := 17) (fun _ => ⟨_, hs, by first | (simp; done) | exact fun e he => List.mem_append_right _ he⟩) ?_
                                      refine Z.t 18 rfl rfl rfl (by rfl) (by kernel_rfl) ⟨_, hs, by first | (simp; done) | exact fun e he => List.mem_append_right _ he⟩ (Z.Yd.pickF rfl rfl) ?_
                                      refine Z.tn 19 rfl rfl (by kernel_rfl) rfl trivial ?_
                                      refine Z.ZO.quiet rfl (by rfl) (Z.keepS hs) (Z.Yd.nilc rfl rfl) ?_
                                      refine Z.tk (Dn := fun j => j != 22) (i := 19) (fun _ => ⟨_, hs, by first | (simp; done) | exact fun e he => List.mem_append_right _ he⟩) ?_
                                      refine Z.tn 20 rfl rfl (by kernel_rfl) rfl trivial ?_
                                      refine Z.ZO.quiet rfl (by rfl) (Z.keepS hs) (Z.Yd.fieldA (m := 0) rfl (by kernel_rfl)) ?_
                                      refine Z.tk (Dn := fun j => j != 22) (i := 20) (fun _ => ⟨_, hs, by first | (simp; done) | exact fun e he => List.mem_append_right _ he⟩) ?_
                                      refine Z.t 21 rfl rfl rfl (by rfl) (by kernel_rfl) ⟨_, hs, by first | (simp; done) | exact fun e he => List.mem_append_right _ he⟩ (Z.Yd.fieldA (m := 1) rfl (by kernel_rfl)) ?_
                                      refine Z.tn 22 rfl rfl (by kernel_rfl) rfl trivial ?_
                                      first | refine Z.ZO.store rfl rfl hs Try.sizeOf4 rfl rfl rfl (by first | exact SX.at0 | exact SX.at1 | exact SX.at2 | exact SX.at3 | exact SX.at4 | exact SX.at5 | exact Z.at6 | exact Z.at7 | exact Z.at8 | exact Z.at9 | exact Z.at10 | exact Z.at11 | exact Z.at12) (by first | (simp; done) | (simp; omega)) ?_ | refine Z.ZO.storeR rfl rfl hs Try.sizeOf4 rfl rfl rfl (by first | exact SX.at0 | exact SX.at1 | exact SX.at2 | exact SX.at3 | exact SX.at4 | exact SX.at5 | exact Z.at6 | exact Z.at7 | exact Z.at8 | exact Z.at9 | exact Z.at10 | exact Z.at11 | exact Z.at12) (by first | omega | (simp [ints_length]; done) | (simp [ints_length]; omega)) ?_
                                      clear hs; intro ws hs
                                      simp only [Nat.zero_add, Nat.add_zero, Nat.reduceAdd, Int.reduceToNat, Nat.reduceMul, List.set_cons_zero, List.set_cons_succ, List.setIfInBounds_toArray] at hs
                                      refine Z.tk (Dn := fun j => j != 22) (i := 22) (fun h => absurd h (by decide)) ?_
                                      refine Z.td (by rfl) (by kernel_rfl) ?_
                                      refine Z.only [0] rfl ?_
                                      refine Z.nthen ?_
                                      first | exact Z.meet () (by refine ⟨?_, trivial⟩ <;> (first | rfl | (refine Z.lookv rfl ?_; simp; done) | (refine Z.lookv rfl ?_; simp; omega))) (by rw [hR, hQ]; exact hs) | exact Z.meet () (by refine ⟨?_, trivial⟩ <;> (first | rfl | (refine Z.lookv rfl ?_; simp; done) | (refine Z.lookv rfl ?_; simp; omega))) (by rw [show Q = true by rw [hQ]; simp_all]; exact hs) | exact Z.meet () (by refine ⟨?_, trivial⟩ <;> (first | rfl | (refine Z.lookv rfl ?_; simp; done) | (refine Z.lookv rfl ?_; simp; omega))) (by rw [show Q = dueV m.c0 m.last t by rw [hQ]; simp_all]; exact hs)
                                      )
                              )
                      · clear hs
                        rintro _ w8 hs
                        refine Z.only [0] rfl ?_
                        replace hs : SX.St w M w8 [SX.Ent.blk g T #[.bool ({ m with reg := R, per := Q, now := t, b0 := a, b1 := b, b2 := c, b3 := d, head := h }).reg, .bool ({ m with reg := R, per := Q, now := t, b0 := a, b1 := b, b2 := c, b3 := d, head := h }).per, .bool ({ m with reg := R, per := Q, now := t, b0 := a, b1 := b, b2 := c, b3 := d, head := h }).pow, .bool ({ m with reg := R, per := Q, now := t, b0 := a, b1 := b, b2 := c, b3 := d, head := h }).fst, .bool true, .int .i64 ({ m with reg := R, per := Q, now := t, b0 := a, b1 := b, b2 := c, b3 := d, head := h }).c0, .int .i64 ({ m with reg := R, per := Q, now := t, b0 := a, b1 := b, b2 := c, b3 := d, head := h }).c1, .int .i64 ({ m with reg := R, per := Q, now := t, b0 := a, b1 := b, b2 := c, b3 := d, head := h }).c2, .int .i64 ({ m with reg := R, per := Q, now := t, b0 := a, b1 := b, b2 := c, b3 := d, head := h }).c3, .int .i64 ({ m with reg := R, per := Q, now := t, b0 := a, b1 := b, b2 := c, b3 := d, head := h }).now, .int .i64 ({ m with reg := R, per := Q, now := t, b0 := a, b1 := b, b2 := c, b3 := d, head := h }).b0, .int .i64 ({ m with reg := R, per := Q, now := t, b0 := a, b1 := b, b2 := c, b3 := d, head := h }).b1, .int .i64 ({ m with reg := R, per := Q, now := t, b0 := a, b1 := b, b2 := c, b3 := d, head := h }).b2, .int .i64 ({ m with reg := R, per := Q, now := t, b0 := a, b1 := b, b2 := c, b3 := d, head := h }).b3, .int .i64 ({ m with reg := R, per := Q, now := t, b0 := a, b1 := b, b2 := c, b3 := d, head := h }).head, .int .i64 ({ m with reg := R, per := Q, now := t, b0 := a, b1 := b, b2 := c, b3 := d, head := h }).last, .int .i64 ({ m with reg := R, per := Q, now := t, b0 := a, b1 := b, b2 := c, b3 := d, head := h }).lastP, .int .i64 ({ m with reg := R, per := Q, now := t, b0 := a, b1 := b, b2 := c, b3 := d, head := h }).told]] := hs
                        refine Z.seq ?_
                        refine Z.cutt (ι := Unit) [] rfl (fun _ => []) (fun _ wr => SX.St w M wr [SX.Ent.blk g T ({ m with reg := R, per := Q, pow := X, now := t, b0 := a, b1 := b, b2 := c, b3 := d, head := h } : RpV).cells.toArray]) ?_ ?_
                        · skip
                          refine Z.drawK (fun j => j != 33) mixed hs ?_
                          clear hs; intro wd12 hs
                          refine Z.tb [0, 1] (by kernel_rfl) rfl ⟨_, hs, by first | (simp; done) | exact fun e he => List.mem_append_right _ he⟩ rfl ?_
                          refine Z.t 2 rfl rfl rfl (by rfl) (by kernel_rfl) ⟨_, hs, by first | (simp; done) | exact fun e he => List.mem_append_right _ he⟩ (Z.Yd.nilc rfl rfl) ?_
                          refine Z.t 3 rfl rfl rfl (by rfl) (by kernel_rfl) ⟨_, hs, by first | (simp; done) | exact fun e he => List.mem_append_right _ he⟩ (Z.Yd.fieldA (m := 0) rfl (by kernel_rfl)) ?_
                          refine Z.t 4 rfl rfl rfl (by rfl) (by kernel_rfl) ⟨_, hs, by first | (simp; done) | exact fun e he => List.mem_append_right _ he⟩ (Z.Yd.fieldA (m := 2) rfl (by kernel_rfl)) ?_
                          refine Z.t 5 rfl rfl rfl (by rfl) (by kernel_rfl) ⟨_, hs, by first | (simp; done) | exact fun e he => List.mem_append_right _ he⟩ (by first | exact Z.Yd.load rfl Try.isAgg4 (fun _ => Z.cellB (by first | ((repeat (first | exact List.mem_cons_self | refine List.mem_cons_of_mem _ ?_ | refine List.mem_append_right _ ?_)); done) | fail) rfl) | exact Z.Yd.load rfl Try.isAgg4 (fun _ => Z.cellO (by assumption) (by simp) (by assumption)) | fail "load 12.5") ?_
                          refine Z.tb [6, 7] (by kernel_rfl) rfl ⟨_, hs, by first | (simp; done) | exact fun e he => List.mem_append_right _ he⟩ rfl ?_
                          refine Z.t 8 rfl rfl rfl (by rfl) (by kernel_rfl) ⟨_, hs, by first | (simp; done) | exact fun e he => List.mem_append_right _ he⟩ (Z.Yd.nilc rfl rfl) ?_
                          refine Z.t 9 rfl rfl rfl (by rfl) (by kernel_rfl) ⟨_, hs, by first | (simp; done) | exact fun e he => List.mem_append_right _ he⟩ (Z.Yd.fieldA (m := 0) rfl (by kernel_rfl)) ?_
                          refine Z.t 10 rfl rfl rfl (by rfl) (by kernel_rfl) ⟨_, hs, by first | (simp; done) | exact fun e he => List.mem_append_right _ he⟩ (Z.Yd.fieldA (m := 3) rfl (by kernel_rfl)) ?_
                          refine Z.t 11 rfl rfl rfl (by rfl) (by kernel_rfl) ⟨_, hs, by first | (simp; done) | exact fun e he => List.mem_append_right _ he⟩ (by first | exact Z.Yd.load rfl Try.isAgg4 (fun _ => Z.cellB (by first | ((repeat (first | exact List.mem_cons_self | refine List.mem_cons_of_mem _ ?_ | refine List.mem_append_right _ ?_)); done) | fail) rfl) | exact Z.Yd.load rfl Try.isAgg4 (fun _ => Z.cellO (by assumption) (by simp) (by assumption)) | fail "load 12.11") ?_
                          refine Z.tb [12, 13, 14, 15] (by kernel_rfl) rfl ⟨_, hs, by first | (simp; done) | exact fun e he => List.mem_append_right _ he⟩ rfl ?_
                          refine Z.t 16 rfl rfl rfl (by rfl) (by kernel_rfl) ⟨_, hs, by first | (simp; done) | exact fun e he => List.mem_append_right _ he⟩ (Z.Yd.nilc rfl rfl) ?_
                          refine Z.t 17 rfl rfl rfl (by rfl) (by kernel_rfl) ⟨_, hs, by first | (simp; done) | exact fun e he => List.mem_append_right _ he⟩ (Z.Yd.fieldA (m := 5) rfl (by kernel_rfl)) ?_
                          refine Z.t 18 rfl rfl rfl (by rfl) (by kernel_rfl) ⟨_, hs, by first | (simp; done) | exact fun e he => List.mem_append_right _ he⟩ (Z.Yd.fieldA (m := 2) rfl (by kernel_rfl)) ?_
                          refine Z.t 19 rfl rfl rfl (by rfl) (by kernel_rfl) ⟨_, hs, by first | (simp; done) | exact fun e he => List.mem_append_right _ he⟩ (by first | exact Z.Yd.load rfl Try.isAgg3 (fun _ => Z.cellB (by first | ((repeat (first | exact List.mem_cons_self | refine List.mem_cons_of_mem _ ?_ | refine List.mem_append_right _ ?_)); done) | fail) rfl) | exact Z.Yd.load rfl Try.isAgg3 (fun _ => Z.cellO (by assumption) (by simp) (by assumption)) | fail "load 12.19") ?_
                          refine Z.tb [20] (by kernel_rfl) rfl ⟨_, hs, by first | (simp; done) | exact fun e he => List.mem_append_right _ he⟩ rfl ?_
                          refine Z.t 21 rfl rfl rfl (by rfl) (by kernel_rfl) ⟨_, hs, by first | (simp; done) | exact fun e he => List.mem_append_right _ he⟩ (Z.Yd.nilc rfl rfl) ?_
                          refine Z.t 22 rfl rfl rfl (by rfl) (by kernel_rfl) ⟨_, hs, by first | (simp; done) | exact fun e he => List.mem_append_right _ he⟩ (Z.Yd.fieldA (m := 16) rfl (by kernel_rfl)) ?_
                          refine Z.t 23 rfl rfl rfl (by rfl) (by kernel_rfl) ⟨_, hs, by first | (simp; done) | exact fun e he => List.mem_append_right _ he⟩ (by first | exact Z.Yd.load rfl Try.isAgg3 (fun _ => Z.cellB (by first | ((repeat (first | exact List.mem_cons_self | refine List.mem_cons_of_mem _ ?_ | refine List.mem_append_right _ ?_)); done) | fail) rfl) | exact Z.Yd.load rfl Try.isAgg3 (fun _ => Z.cellO (by assumption) (by simp) (by assumption)) | fail "load 12.23") ?_
                          refine Z.split (s := 119) rfl (fun hsp119 => ?_) (fun hsp119 => ?_)
                          · first
                              | (exfalso; simp at hsp119 <;> omega)
                              | (
                                refine Z.yes (s := 119) (b := true) rfl hsp119 rfl ?_
                                (try simp at hsp119)
                                refine Z.tnS 119 false 24 rfl rfl (by kernel_rfl) rfl rfl (by simp) rfl (by rfl) (fun _ => ⟨_, hs, by first | (simp; done) | exact fun e he => List.mem_append_right _ he⟩) ?_
                                refine Z.t 25 rfl rfl rfl (by rfl) (by kernel_rfl) ⟨_, hs, by first | (simp; done) | exact fun e he => List.mem_append_right _ he⟩ (Z.Yd.pickT rfl rfl) ?_
                                refine Z.tb [26, 27] (by kernel_rfl) rfl ⟨_, hs, by first | (simp; done) | exact fun e he => List.mem_append_right _ he⟩ rfl ?_
                                refine Z.split (s := 132) rfl (fun hsp132 => ?_) (fun hsp132 => ?_)
                                · first
                                    | (exfalso; simp at hsp132 <;> omega)
                                    | (
                                      refine Z.yes (s := 132) (b := true) rfl hsp132 rfl ?_
                                      (try simp at hsp132)
                                      refine Z.yes (s := 119) (b := true) rfl rfl rfl ?_
                                      refine Z.tnS 132 false 28 rfl rfl (by kernel_rfl) rfl rfl (by simp) rfl (by rfl) (fun _ => ⟨_, hs, by first | (simp; done) | exact fun e he => List.mem_append_right _ he⟩) ?_
                                      refine Z.t 29 rfl rfl rfl (by rfl) (by kernel_rfl) ⟨_, hs, by first | (simp; done) | exact fun e he => List.mem_append_right _ he⟩ (Z.Yd.pickT rfl rfl) ?_
                                      refine Z.tn 30 rfl rfl (by kernel_rfl) rfl trivial ?_
                                      refine Z.ZO.quiet rfl (by rfl) (Z.keepS hs) (Z.Yd.nilc rfl rfl) ?_
                                      refine Z.tk (Dn := fun j => j != 33) (i := 30) (fun _ => ⟨_, hs, by first | (simp; done) | exact fun e he => List.mem_append_right _ he⟩) ?_
                                      refine Z.tn 31 rfl rfl (by kernel_rfl) rfl trivial ?_
                                      refine Z.ZO.quiet rfl (by rfl) (Z.keepS hs) (Z.Yd.fieldA (m := 0) rfl (by kernel_rfl)) ?_
                                      refine Z.tk (Dn := fun j => j != 33) (i := 31) (fun _ => ⟨_, hs, by first | (simp; done) | exact fun e he => List.mem_append_right _ he⟩) ?_
                                      refine Z.t 32 rfl rfl rfl (by rfl) (by kernel_rfl) ⟨_, hs, by first | (simp; done) | exact fun e he => List.mem_append_right _ he⟩ (Z.Yd.fieldA (m := 2) rfl (by kernel_rfl)) ?_
                                      refine Z.tn 33 rfl rfl (by kernel_rfl) rfl trivial ?_
                                      first | refine Z.ZO.store rfl rfl hs Try.sizeOf4 rfl rfl rfl (by first | exact SX.at0 | exact SX.at1 | exact SX.at2 | exact SX.at3 | exact SX.at4 | exact SX.at5 | exact Z.at6 | exact Z.at7 | exact Z.at8 | exact Z.at9 | exact Z.at10 | exact Z.at11 | exact Z.at12) (by first | (simp; done) | (simp; omega)) ?_ | refine Z.ZO.storeR rfl rfl hs Try.sizeOf4 rfl rfl rfl (by first | exact SX.at0 | exact SX.at1 | exact SX.at2 | exact SX.at3 | exact SX.at4 | exact SX.at5 | exact Z.at6 | exact Z.at7 | exact Z.at8 | exact Z.at9 | exact Z.at10 | exact Z.at11 | exact Z.at12) (by first | omega | (simp [ints_length]; done) | (simp [ints_length]; omega)) ?_
                                      clear hs; intro ws hs
                                      simp only [Nat.zero_add, Nat.add_zero, Nat.reduceAdd, Int.reduceToNat, Nat.reduceMul, List.set_cons_zero, List.set_cons_succ, List.setIfInBounds_toArray] at hs
                                      refine Z.tk (Dn := fun j => j != 33) (i := 33) (fun h => absurd h (by decide)) ?_
                                      refine Z.td (by rfl) (by kernel_rfl) ?_
                                      refine Z.only [] rfl ?_
                                      refine Z.nthen ?_
                                      first | exact Z.meet () trivial (by rw [show X = true by rw [hX]; simp_all]; exact hs) | exact Z.meet () trivial (by rw [show X = chgV m.c3 h m.told by rw [hX]; simp_all]; exact hs)
                                      )
                                · first
                                    | (exfalso; simp at hsp132 <;> omega)
                                    | (
                                      refine Z.yes (s := 132) (b := false) rfl hsp132 rfl ?_
                                      (try simp at hsp132)
                                      refine Z.yes (s := 119) (b := true) rfl rfl rfl ?_
                                      refine Z.tn 28 rfl rfl (by kernel_rfl) rfl (by exact ⟨rfl, trivial⟩) ?_
                                      refine Z.ZO.call rfl rfl (by rfl) rfl rfl Try.call28 rfl (rp_changed g { m with reg := R, per := Q, now := t, b0 := a, b1 := b, b2 := c, b3 := d, head := h } _ (hs.celOf (by first | ((repeat (first | exact List.mem_cons_self | refine List.mem_cons_of_mem _ ?_ | refine List.mem_append_right _ ?_)); done) | fail)) u7 h10) ?_
                                      rintro v12_28 w12_28 ⟨rfl, hy⟩
                                      replace hs := hs.call hy
                                      clear hy
                                      try simp only [List.cons_append, List.nil_append, List.append_nil] at hs
                                      refine Z.tk (Dn := fun j => j != 33) (i := 28) (fun _ => ⟨_, hs, by first | (simp; done) | exact fun e he => List.mem_append_right _ he⟩) ?_
                                      refine Z.t 29 rfl rfl rfl (by rfl) (by kernel_rfl) ⟨_, hs, by first | (simp; done) | exact fun e he => List.mem_append_right _ he⟩ (Z.Yd.pickF rfl rfl) ?_
                                      refine Z.tn 30 rfl rfl (by kernel_rfl) rfl trivial ?_
                                      refine Z.ZO.quiet rfl (by rfl) (Z.keepS hs) (Z.Yd.nilc rfl rfl) ?_
                                      refine Z.tk (Dn := fun j => j != 33) (i := 30) (fun _ => ⟨_, hs, by first | (simp; done) | exact fun e he => List.mem_append_right _ he⟩) ?_
                                      refine Z.tn 31 rfl rfl (by kernel_rfl) rfl trivial ?_
                                      refine Z.ZO.quiet rfl (by rfl) (Z.keepS hs) (Z.Yd.fieldA (m := 0) rfl (by kernel_rfl)) ?_
                                      refine Z.tk (Dn := fun j => j != 33) (i := 31) (fun _ => ⟨_, hs, by first | (simp; done) | exact fun e he => List.mem_append_right _ he⟩) ?_
                                      refine Z.t 32 rfl rfl rfl (by rfl) (by kernel_rfl) ⟨_, hs, by first | (simp; done) | exact fun e he => List.mem_append_right _ he⟩ (Z.Yd.fieldA (m := 2) rfl (by kernel_rfl)) ?_
                                      refine Z.tn 33 rfl rfl (by kernel_rfl) rfl trivial ?_
                                      first | refine Z.ZO.store rfl rfl hs Try.sizeOf4 rfl rfl rfl (by first | exact SX.at0 | exact SX.at1 | exact SX.at2 | exact SX.at3 | exact SX.at4 | exact SX.at5 | exact Z.at6 | exact Z.at7 | exact Z.at8 | exact Z.at9 | exact Z.at10 | exact Z.at11 | exact Z.at12) (by first | (simp; done) | (simp; omega)) ?_ | refine Z.ZO.storeR rfl rfl hs Try.sizeOf4 rfl rfl rfl (by first | exact SX.at0 | exact SX.at1 | exact SX.at2 | exact SX.at3 | exact SX.at4 | exact SX.at5 | exact Z.at6 | exact Z.at7 | exact Z.at8 | exact Z.at9 | exact Z.at10 | exact Z.at11 | exact Z.at12) (by first | omega | (simp [ints_length]; done) | (simp [ints_length]; omega)) ?_
                                      clear hs; intro ws hs
                                      simp only [Nat.zero_add, Nat.add_zero, Nat.reduceAdd, Int.reduceToNat, Nat.reduceMul, List.set_cons_zero, List.set_cons_succ, List.setIfInBounds_toArray] at hs
                                      refine Z.tk (Dn := fun j => j != 33) (i := 33) (fun h => absurd h (by decide)) ?_
                                      refine Z.td (by rfl) (by kernel_rfl) ?_
                                      refine Z.only [] rfl ?_
                                      refine Z.nthen ?_
                                      first | exact Z.meet () trivial (by rw [show X = true by rw [hX]; simp_all]; exact hs) | exact Z.meet () trivial (by rw [show X = chgV m.c3 h m.told by rw [hX]; simp_all]; exact hs)
                                      )
                                )
                          · first
                              | (exfalso; simp at hsp119 <;> omega)
                              | (
                                refine Z.yes (s := 119) (b := false) rfl hsp119 rfl ?_
                                (try simp at hsp119)
                                refine Z.tn 24 rfl rfl (by kernel_rfl) rfl (by exact ⟨rfl, trivial⟩) ?_
                                refine Z.ZO.call rfl rfl (by rfl) rfl rfl Try.call27 rfl (rp_due g { m with reg := R, per := Q, now := t, b0 := a, b1 := b, b2 := c, b3 := d, head := h } m.c2 m.lastP _ (hs.celOf (by first | ((repeat (first | exact List.mem_cons_self | refine List.mem_cons_of_mem _ ?_ | refine List.mem_append_right _ ?_)); done) | fail)) ⟨by show 0 ≤ t; omega, u2⟩ h9) ?_
                                rintro v12_24 w12_24 ⟨rfl, hy⟩
                                replace hs := hs.call hy
                                clear hy
                                try simp only [List.cons_append, List.nil_append, List.append_nil] at hs
                                refine Z.tk (Dn := fun j => j != 33) (i := 24) (fun _ => ⟨_, hs, by first | (simp; done) | exact fun e he => List.mem_append_right _ he⟩) ?_
                                refine Z.t 25 rfl rfl rfl (by rfl) (by kernel_rfl) ⟨_, hs, by first | (simp; done) | exact fun e he => List.mem_append_right _ he⟩ (Z.Yd.pickF rfl rfl) ?_
                                refine Z.tb [26, 27] (by kernel_rfl) rfl ⟨_, hs, by first | (simp; done) | exact fun e he => List.mem_append_right _ he⟩ rfl ?_
                                refine Z.split (s := 132) rfl (fun hsp132 => ?_) (fun hsp132 => ?_)
                                · first
                                    | (exfalso; simp at hsp132 <;> omega)
                                    | (
                                      refine Z.yes (s := 132) (b := true) rfl hsp132 rfl ?_
                                      (try simp at hsp132)
                                      refine Z.yes (s := 119) (b := false) rfl rfl rfl ?_
                                      refine Z.tnS 132 false 28 rfl rfl (by kernel_rfl) rfl rfl (by simp) rfl (by rfl) (fun _ => ⟨_, hs, by first | (simp; done) | exact fun e he => List.mem_append_right _ he⟩) ?_
                                      refine Z.t 29 rfl rfl rfl (by rfl) (by kernel_rfl) ⟨_, hs, by first | (simp; done) | exact fun e he => List.mem_append_right _ he⟩ (Z.Yd.pickT rfl rfl) ?_
                                      refine Z.tn 30 rfl rfl (by kernel_rfl) rfl trivial ?_
                                      refine Z.ZO.quiet rfl (by rfl) (Z.keepS hs) (Z.Yd.nilc rfl rfl) ?_
                                      refine Z.tk (Dn := fun j => j != 33) (i := 30) (fun _ => ⟨_, hs, by first | (simp; done) | exact fun e he => List.mem_append_right _ he⟩) ?_
                                      refine Z.tn 31 rfl rfl (by kernel_rfl) rfl trivial ?_
                                      refine Z.ZO.quiet rfl (by rfl) (Z.keepS hs) (Z.Yd.fieldA (m := 0) rfl (by kernel_rfl)) ?_
                                      refine Z.tk (Dn := fun j => j != 33) (i := 31) (fun _ => ⟨_, hs, by first | (simp; done) | exact fun e he => List.mem_append_right _ he⟩) ?_
                                      refine Z.t 32 rfl rfl rfl (by rfl) (by kernel_rfl) ⟨_, hs, by first | (simp; done) | exact fun e he => List.mem_append_right _ he⟩ (Z.Yd.fieldA (m := 2) rfl (by kernel_rfl)) ?_
                                      refine Z.tn 33 rfl rfl (by kernel_rfl) rfl trivial ?_
                                      first | refine Z.ZO.store rfl rfl hs Try.sizeOf4 rfl rfl rfl (by first | exact SX.at0 | exact SX.at1 | exact SX.at2 | exact SX.at3 | exact SX.at4 | exact SX.at5 | exact Z.at6 | exact Z.at7 | exact Z.at8 | exact Z.at9 | exact Z.at10 | exact Z.at11 | exact Z.at12) (by first | (simp; done) | (simp; omega)) ?_ | refine Z.ZO.storeR rfl rfl hs Try.sizeOf4 rfl rfl rfl (by first | exact SX.at0 | exact SX.at1 | exact SX.at2 | exact SX.at3 | exact SX.at4 | exact SX.at5 | exact Z.at6 | exact Z.at7 | exact Z.at8 | exact Z.at9 | exact Z.at10 | exact Z.at11 | exact Z.at12) (by first | omega | (simp [ints_length]; done) | (simp [ints_length]; omega)) ?_
                                      clear hs; intro ws hs
                                      simp only [Nat.zero_add, Nat.add_zero, Nat.reduceAdd, Int.reduceToNat, Nat.reduceMul, List.set_cons_zero, List.set_cons_succ, List.setIfInBounds_toArray] at hs
                                      refine Z.tk (Dn := fun j => j != 33) (i := 33) (fun h => absurd h (by decide)) ?_
                                      refine Z.td (by rfl) (by kernel_rfl) ?_
                                      refine Z.only [] rfl ?_
                                      refine Z.nthen ?_
                                      first | exact Z.meet () trivial (by rw [show X = true by rw [hX]; simp_all]; exact hs) | exact Z.meet () trivial (by rw [show X = chgV m.c3 h m.told by rw [hX]; simp_all]; exact hs)
                                      )
                                · first
                                    | (exfalso; simp at hsp132 <;> omega)
                                    | (
                                      refine Z.yes (s := 132) (b := false) rfl hsp132 rfl ?_
                                      (try simp at hsp132)
                                      refine Z.yes (s := 119) (b := false) rfl rfl rfl ?_
                                      refine Z.tn 28 rfl rfl (by kernel_rfl) rfl (by exact ⟨rfl, trivial⟩) ?_
                                      refine Z.ZO.call rfl rfl (by rfl) rfl rfl Try.call28 rfl (rp_changed g { m with reg := R, per := Q, now := t, b0 := a, b1 := b, b2 := c, b3 := d, head := h } _ (hs.celOf (by first | ((repeat (first | exact List.mem_cons_self | refine List.mem_cons_of_mem _ ?_ | refine List.mem_append_right _ ?_)); done) | fail)) u7 h10) ?_
                                      rintro v12_28 w12_28 ⟨rfl, hy⟩
                                      replace hs := hs.call hy
                                      clear hy
                                      try simp only [List.cons_append, List.nil_append, List.append_nil] at hs
                                      refine Z.tk (Dn := fun j => j != 33) (i := 28) (fun _ => ⟨_, hs, by first | (simp; done) | exact fun e he => List.mem_append_right _ he⟩) ?_
                                      refine Z.t 29 rfl rfl rfl (by rfl) (by kernel_rfl) ⟨_, hs, by first | (simp; done) | exact fun e he => List.mem_append_right _ he⟩ (Z.Yd.pickF rfl rfl) ?_
                                      refine Z.tn 30 rfl rfl (by kernel_rfl) rfl trivial ?_
                                      refine Z.ZO.quiet rfl (by rfl) (Z.keepS hs) (Z.Yd.nilc rfl rfl) ?_
                                      refine Z.tk (Dn := fun j => j != 33) (i := 30) (fun _ => ⟨_, hs, by first | (simp; done) | exact fun e he => List.mem_append_right _ he⟩) ?_
                                      refine Z.tn 31 rfl rfl (by kernel_rfl) rfl trivial ?_
                                      refine Z.ZO.quiet rfl (by rfl) (Z.keepS hs) (Z.Yd.fieldA (m := 0) rfl (by kernel_rfl)) ?_
                                      refine Z.tk (Dn := fun j => j != 33) (i := 31) (fun _ => ⟨_, hs, by first | (simp; done) | exact fun e he => List.mem_append_right _ he⟩) ?_
                                      refine Z.t 32 rfl rfl rfl (by rfl) (by kernel_rfl) ⟨_, hs, by first | (simp; done) | exact fun e he => List.mem_append_right _ he⟩ (Z.Yd.fieldA (m := 2) rfl (by kernel_rfl)) ?_
                                      refine Z.tn 33 rfl rfl (by kernel_rfl) rfl trivial ?_
                                      first | refine Z.ZO.store rfl rfl hs Try.sizeOf4 rfl rfl rfl (by first | exact SX.at0 | exact SX.at1 | exact SX.at2 | exact SX.at3 | exact SX.at4 | exact SX.at5 | exact Z.at6 | exact Z.at7 | exact Z.at8 | exact Z.at9 | exact Z.at10 | exact Z.at11 | exact Z.at12) (by first | (simp; done) | (simp; omega)) ?_ | refine Z.ZO.storeR rfl rfl hs Try.sizeOf4 rfl rfl rfl (by first | exact SX.at0 | exact SX.at1 | exact SX.at2 | exact SX.at3 | exact SX.at4 | exact SX.at5 | exact Z.at6 | exact Z.at7 | exact Z.at8 | exact Z.at9 | exact Z.at10 | exact Z.at11 | exact Z.at12) (by first | omega | (simp [ints_length]; done) | (simp [ints_length]; omega)) ?_
                                      clear hs; intro ws hs
                                      simp only [Nat.zero_add, Nat.add_zero, Nat.reduceAdd, Int.reduceToNat, Nat.reduceMul, List.set_cons_zero, List.set_cons_succ, List.setIfInBounds_toArray] at hs
                                      refine Z.tk (Dn := fun j => j != 33) (i := 33) (fun h => absurd h (by decide)) ?_
                                      refine Z.td (by rfl) (by kernel_rfl) ?_
                                      refine Z.only [] rfl ?_
                                      refine Z.nthen ?_
                                      first | exact Z.meet () trivial (by rw [show X = true by rw [hX]; simp_all]; exact hs) | exact Z.meet () trivial (by rw [show X = chgV m.c3 h m.told by rw [hX]; simp_all]; exact hs)
                                      )
                                )
                        · clear hs
                          rintro _ w12 hs
                          refine Z.only [] rfl ?_
                          refine Z.seq ?_
                          refine Z.seq ?_
                          refine Z.region ?_
                          refine Z.lb 1 rfl ?_
                          refine Z.lnil ?_
                          refine Z.only [8] rfl ?_
                          refine Z.nthen ?_
                          refine Z.ret ?_
                          repeat (first | refine Z.rthen ?_ | refine Z.rblock ?_ | refine Z.rscope ?_ | refine Z.rjump ?_)
                          -- ret#1
                          refine Z.out1 (by exact ⟨rfl, trivial⟩) ?_
                          first
                          | exact ⟨_, rfl, rfl, by rw [eA]; exact hs⟩
                          | exact ⟨_, rfl, by rw [show updV m t a b c d h = (m, 2) from if_neg hno], by rw [show updV m t a b c d h = (m, 2) from if_neg hno]; exact hs⟩
                      )
                )
          )
    · first
        | (exfalso; simp at hsp17 <;> omega)
        | (
          refine Z.yes (s := 17) (b := false) rfl hsp17 rfl ?_
          (try simp at hsp17)
          refine Z.l rfl rfl (by rfl) (Z.keepS hs) (Z.Yd.cutA rfl Try.underlying22 Try.sizeOf3) ?_
          refine Z.yes (s := 17) (b := false) rfl rfl rfl ?_
          refine Z.le rfl (by exact ⟨rfl, trivial⟩) ?_
          refine Z.ZO.call rfl rfl (by rfl) rfl rfl Try.call23 rfl (rp_within (some ⟨g6, 0, none⟩) 4 4 [a, b, c, d] 1099511627776 _ (hs.blkSl (by first | ((repeat (first | exact List.mem_cons_self | refine List.mem_cons_of_mem _ ?_ | refine List.mem_append_right _ ?_)); done) | fail)) rfl (by omega) (by omega)) ?_
          rintro v5_6 w5_6 ⟨rfl, hy⟩
          replace hs := hs.call hy
          clear hy
          try simp only [List.cons_append, List.nil_append, List.append_nil] at hs
          refine Z.lb 1 rfl ?_
          refine Z.yes (s := 17) (b := false) rfl rfl rfl ?_
          refine Z.l rfl rfl (by rfl) (Z.keepS hs) (Z.Yd.pickF rfl rfl) ?_
          refine Z.lb 1 rfl ?_
          refine Z.split (s := 22) rfl (fun hsp22 => ?_) (fun hsp22 => ?_)
          · first
              | (exfalso; simp at hsp22 <;> omega)
              | (
                refine Z.yes (s := 22) (b := true) rfl hsp22 rfl ?_
                (try simp at hsp22)
                refine Z.ls rfl rfl rfl (by rfl) ?_
                refine Z.ls rfl rfl rfl (by rfl) ?_
                refine Z.ls rfl rfl rfl (by rfl) ?_
                refine Z.ls rfl rfl rfl (by rfl) ?_
                refine Z.l rfl rfl (by rfl) (Z.keepS hs) (Z.Yd.pickT rfl rfl) ?_
                refine Z.lnil ?_
                refine Z.only [0, 1, 3, 6, 8, 27] rfl ?_
                refine Z.nthen ?_
                refine Z.cond rfl (fun hc5 => ?_) (fun hc5 => ?_)
                · first
                    | (exfalso; simp at hc5 <;> omega)
                    | (
                      (try simp at hc5)
                      have hno : ¬ okU m t a b c d h := by intro ⟨hh, hh2, hh3⟩; first | omega | exact absurd hh2 (by assumption) | exact absurd hh3 (by assumption) | simp_all
                      refine Z.goto ?_
                      refine Z.gthen ?_
                      refine Z.gjump ?_
                      first | exact Z.meet () (by refine ⟨?_, trivial⟩ <;> (first | rfl | (refine Z.lookv rfl ?_; simp; done) | (refine Z.lookv rfl ?_; simp; omega))) ⟨by assumption, hs.sel [1] (by decide)⟩ | exact Z.meet () (by refine ⟨?_, trivial⟩ <;> (first | rfl | (refine Z.lookv rfl ?_; simp; done) | (refine Z.lookv rfl ?_; simp; omega))) ⟨by assumption, hs.sel [2] (by decide)⟩
                      )
                · first
                    | (exfalso; simp at hc5 <;> omega)
                    | (
                      (try simp at hc5)
                      have hok : okU m t a b c d h := by unfold okU; first | (simp_all; done) | (refine ⟨by omega, ?_, ?_⟩ <;> simp_all)
                      have eU : updV m t a b c d h = (updG m t a b c d h, 0) := if_pos hok
                      obtain ⟨⟨u1, u2⟩, ⟨u3, u4, u5, u6⟩, u7⟩ := (okU_iff m t a b c d h).1 hok
                      rw [eU]
                      refine Z.skip ?_
                      refine Z.nthen ?_
                      refine Z.seq ?_
                      refine Z.drawK (fun _ => true) mixed hs ?_
                      clear hs; intro wd6 hs
                      refine Z.tb [0] (by kernel_rfl) rfl ⟨_, hs, by first | (simp; done) | exact fun e he => List.mem_append_right _ he⟩ rfl ?_
                      refine Z.t 1 rfl rfl rfl (by rfl) (by kernel_rfl) ⟨_, hs, by first | (simp; done) | exact fun e he => List.mem_append_right _ he⟩ (Z.Yd.nilc rfl rfl) ?_
                      refine Z.t 2 rfl rfl rfl (by rfl) (by kernel_rfl) ⟨_, hs, by first | (simp; done) | exact fun e he => List.mem_append_right _ he⟩ (Z.Yd.fieldA (m := 10) rfl (by kernel_rfl)) ?_
                      refine Z.t 3 rfl rfl rfl (by rfl) (by kernel_rfl) ⟨_, hs, by first | (simp; done) | exact fun e he => List.mem_append_right _ he⟩ (Z.Yd.loadA _ rfl Try.isAgg22 (fun _ => Z.cellsBo (cs := m.cells) [.int .i64 (m).b0, .int .i64 (m).b1, .int .i64 (m).b2, .int .i64 (m).b3] (by first | ((repeat (first | exact List.mem_cons_self | refine List.mem_cons_of_mem _ ?_ | refine List.mem_append_right _ ?_)); done) | fail) ⟨[_, _, _, _], rfl⟩) (by exact Try.sizeOf22)) ?_
                      refine Z.t 5 rfl rfl rfl (by rfl) (by kernel_rfl) ⟨_, hs, by first | (simp; done) | exact fun e he => List.mem_append_right _ he⟩ (by first | exact Z.Yd.loadA _ rfl Try.isAgg22 (fun _ => Z.cellsB (by first | ((repeat (first | exact List.mem_cons_self | refine List.mem_cons_of_mem _ ?_ | refine List.mem_append_right _ ?_)); done) | fail)) (by exact Try.sizeOf22) | fail "load 6.5") ?_
                      refine Z.tn 4 rfl rfl (by kernel_rfl) rfl trivial ?_
                      refine Z.ZO.call rfl rfl (by rfl) rfl rfl Try.call26 rfl (rp_group m.b0 m.b1 m.b2 m.b3 _) ?_
                      rintro v6_4 w6_4 ⟨rfl, hy⟩
                      replace hs := hs.call hy
                      clear hy
                      try simp only [List.cons_append, List.nil_append, List.append_nil] at hs
                      refine Z.tk (Dn := fun _ => true) (i := 4) (fun _ => ⟨_, hs, by first | (simp; done) | exact fun e he => List.mem_append_right _ he⟩) ?_
                      refine Z.tn 6 rfl rfl (by kernel_rfl) rfl trivial ?_
                      refine Z.ZO.call rfl rfl (by rfl) rfl rfl Try.call26 rfl (rp_group a b c d _) ?_
                      rintro v6_6 w6_6 ⟨rfl, hy⟩
                      replace hs := hs.call hy
                      clear hy
                      try simp only [List.cons_append, List.nil_append, List.append_nil] at hs
                      refine Z.tk (Dn := fun _ => true) (i := 6) (fun _ => ⟨_, hs, by first | (simp; done) | exact fun e he => List.mem_append_right _ he⟩) ?_
                      refine Z.tb [7, 8] (by kernel_rfl) rfl ⟨_, hs, by first | (simp; done) | exact fun e he => List.mem_append_right _ he⟩ rfl ?_
                      refine Z.td (by rfl) (by kernel_rfl) ?_
                      refine Z.only [0, 1, 3, 6, 9, 10] rfl ?_
                      refine Z.nthen ?_
                      refine Z.seq ?_
                      refine Z.region ?_
                      refine Z.lb 4 rfl ?_
                      refine Z.l rfl rfl (by rfl) (Z.keepS hs) (by first | exact Z.Yd.loadA _ rfl Try.isAgg22 (fun _ => Z.cellsB (by first | ((repeat (first | exact List.mem_cons_self | refine List.mem_cons_of_mem _ ?_ | refine List.mem_append_right _ ?_)); done) | fail)) (by exact Try.sizeOf22) | fail "load 7.4") ?_
                      refine Z.lb 1 rfl ?_
                      refine Z.l rfl rfl (by rfl) (Z.keepS hs) (Z.Yd.nilc rfl rfl) ?_
                      refine Z.l rfl rfl (by rfl) (Z.keepS hs) (Z.Yd.fieldA (m := 9) rfl (by kernel_rfl)) ?_
                      refine Z.le rfl trivial ?_
                      first | refine Z.ZO.store rfl rfl hs Try.sizeOf3 rfl rfl rfl (by first | exact SX.at0 | exact SX.at1 | exact SX.at2 | exact SX.at3 | exact SX.at4 | exact SX.at5 | exact Z.at6 | exact Z.at7 | exact Z.at8 | exact Z.at9 | exact Z.at10 | exact Z.at11 | exact Z.at12) (by first | (simp; done) | (simp; omega)) ?_ | refine Z.ZO.storeR rfl rfl hs Try.sizeOf3 rfl rfl rfl (by first | exact SX.at0 | exact SX.at1 | exact SX.at2 | exact SX.at3 | exact SX.at4 | exact SX.at5 | exact Z.at6 | exact Z.at7 | exact Z.at8 | exact Z.at9 | exact Z.at10 | exact Z.at11 | exact Z.at12) (by first | omega | (simp [ints_length]; done) | (simp [ints_length]; omega)) ?_
                      clear hs; intro ws hs
                      simp only [Nat.zero_add, Nat.add_zero, Nat.reduceAdd, Int.reduceToNat, Nat.reduceMul, List.set_cons_zero, List.set_cons_succ, List.setIfInBounds_toArray] at hs
                      refine Z.l rfl rfl (by rfl) (Z.keepS hs) (Z.Yd.nilc rfl rfl) ?_
                      refine Z.l rfl rfl (by rfl) (Z.keepS hs) (Z.Yd.fieldA (m := 10) rfl (by kernel_rfl)) ?_
                      refine Z.le rfl trivial ?_
                      first | refine Z.ZO.storeA rfl rfl hs rfl rfl (by kernel_rfl) (by first | (simp [Value.oneCell']; done) | (refine Z.all_one ?_; assumption)) (by first | exact SX.at0 | exact SX.at1 | exact SX.at2 | exact SX.at3 | exact SX.at4 | exact SX.at5 | exact Z.at6 | exact Z.at7 | exact Z.at8 | exact Z.at9 | exact Z.at10 | exact Z.at11 | exact Z.at12) (by rfl) ?_ | refine Z.ZO.storeP rfl rfl hs rfl rfl (by kernel_rfl) (by first | (simp [Value.oneCell']; done) | (refine Z.all_one ?_; assumption)) (by first | exact SX.at0 | exact SX.at1 | exact SX.at2 | exact SX.at3 | exact SX.at4 | exact SX.at5 | exact Z.at6 | exact Z.at7 | exact Z.at8 | exact Z.at9 | exact Z.at10 | exact Z.at11 | exact Z.at12) (by first | decide | (simp; done) | (simp; omega)) ?_ | refine Z.ZO.storePR rfl rfl hs rfl rfl (by kernel_rfl) (by first | (simp [Value.oneCell']; done) | (refine Z.all_one ?_; assumption)) (by first | exact SX.at0 | exact SX.at1 | exact SX.at2 | exact SX.at3 | exact SX.at4 | exact SX.at5 | exact Z.at6 | exact Z.at7 | exact Z.at8 | exact Z.at9 | exact Z.at10 | exact Z.at11 | exact Z.at12) (by first | decide | (simp; done) | (simp; omega)) ?_
                      clear hs; intro ws hs
                      simp only [Nat.zero_add, Nat.add_zero, Nat.reduceAdd, Int.reduceToNat, Nat.reduceMul, List.set_cons_zero, List.set_cons_succ, List.setIfInBounds_toArray] at hs
                      try simp only [Z.putL, Nat.zero_add] at hs
                      refine Z.l rfl rfl (by rfl) (Z.keepS hs) (Z.Yd.nilc rfl rfl) ?_
                      refine Z.l rfl rfl (by rfl) (Z.keepS hs) (Z.Yd.fieldA (m := 14) rfl (by kernel_rfl)) ?_
                      refine Z.le rfl trivial ?_
                      first | refine Z.ZO.store rfl rfl hs Try.sizeOf3 rfl rfl rfl (by first | exact SX.at0 | exact SX.at1 | exact SX.at2 | exact SX.at3 | exact SX.at4 | exact SX.at5 | exact Z.at6 | exact Z.at7 | exact Z.at8 | exact Z.at9 | exact Z.at10 | exact Z.at11 | exact Z.at12) (by first | (simp; done) | (simp; omega)) ?_ | refine Z.ZO.storeR rfl rfl hs Try.sizeOf3 rfl rfl rfl (by first | exact SX.at0 | exact SX.at1 | exact SX.at2 | exact SX.at3 | exact SX.at4 | exact SX.at5 | exact Z.at6 | exact Z.at7 | exact Z.at8 | exact Z.at9 | exact Z.at10 | exact Z.at11 | exact Z.at12) (by first | omega | (simp [ints_length]; done) | (simp [ints_length]; omega)) ?_
                      clear hs; intro ws hs
                      simp only [Nat.zero_add, Nat.add_zero, Nat.reduceAdd, Int.reduceToNat, Nat.reduceMul, List.set_cons_zero, List.set_cons_succ, List.setIfInBounds_toArray] at hs
                      refine Z.lnil ?_
                      refine Z.only [0, 9, 10] rfl ?_
                      refine Z.nthen ?_
                      refine Z.seq ?_
                      refine Z.seq ?_
                      refine Z.region ?_
                      obtain ⟨R, hR⟩ : ∃ R, R = (updG m t a b c d h).reg := ⟨_, rfl⟩
                      obtain ⟨Q, hQ⟩ : ∃ R, R = (updG m t a b c d h).per := ⟨_, rfl⟩
                      obtain ⟨X, hX⟩ : ∃ R, R = (updG m t a b c d h).pow := ⟨_, rfl⟩
                      have eA : updG m t a b c d h = { m with reg := R, per := Q, pow := X, now := t, b0 := a, b1 := b, b2 := c, b3 := d, head := h } := by rw [hR, hQ, hX]; rfl
                      simp only [updG] at hR hQ hX
                      replace hs : SX.St w M _ [SX.Ent.blk g T ({ m with now := t, b0 := a, b1 := b, b2 := c, b3 := d, head := h } : RpV).cells.toArray] := hs.sel [2] (by decide)
                      refine Z.l rfl rfl (by rfl) (Z.keepS hs) (Z.Yd.pure rfl) ?_
                      refine Z.lb 1 rfl ?_
                      refine Z.lnil ?_
                      refine Z.only [0, 9, 10, 48] rfl ?_
                      refine Z.nthen ?_
                      refine Z.cutt (ι := Unit) [0] rfl (fun _ => []) (fun _ wr => SX.St w M wr [SX.Ent.blk g T ({ m with reg := R, per := Q, now := t, b0 := a, b1 := b, b2 := c, b3 := d, head := h } : RpV).cells.toArray]) ?_ ?_
                      · skip
                        refine Z.cond rfl (fun hc8 => ?_) (fun hc8 => ?_)
                        · first
                            | (exfalso; simp at hc8 <;> omega)
                            | (
                              (try simp at hc8)
                              rw [if_pos (by assumption)] at hR hQ
                              replace hs : SX.St w M _ [SX.Ent.blk g T #[.bool ({ m with now := t, b0 := a, b1 := b, b2 := c, b3 := d, head := h }).reg, .bool ({ m with now := t, b0 := a, b1 := b, b2 := c, b3 := d, head := h }).per, .bool ({ m with now := t, b0 := a, b1 := b, b2 := c, b3 := d, head := h }).pow, .bool ({ m with now := t, b0 := a, b1 := b, b2 := c, b3 := d, head := h }).fst, .bool true, .int .i64 ({ m with now := t, b0 := a, b1 := b, b2 := c, b3 := d, head := h }).c0, .int .i64 ({ m with now := t, b0 := a, b1 := b, b2 := c, b3 := d, head := h }).c1, .int .i64 ({ m with now := t, b0 := a, b1 := b, b2 := c, b3 := d, head := h }).c2, .int .i64 ({ m with now := t, b0 := a, b1 := b, b2 := c, b3 := d, head := h }).c3, .int .i64 ({ m with now := t, b0 := a, b1 := b, b2 := c, b3 := d, head := h }).now, .int .i64 ({ m with now := t, b0 := a, b1 := b, b2 := c, b3 := d, head := h }).b0, .int .i64 ({ m with now := t, b0 := a, b1 := b, b2 := c, b3 := d, head := h }).b1, .int .i64 ({ m with now := t, b0 := a, b1 := b, b2 := c, b3 := d, head := h }).b2, .int .i64 ({ m with now := t, b0 := a, b1 := b, b2 := c, b3 := d, head := h }).b3, .int .i64 ({ m with now := t, b0 := a, b1 := b, b2 := c, b3 := d, head := h }).head, .int .i64 ({ m with now := t, b0 := a, b1 := b, b2 := c, b3 := d, head := h }).last, .int .i64 ({ m with now := t, b0 := a, b1 := b, b2 := c, b3 := d, head := h }).lastP, .int .i64 ({ m with now := t, b0 := a, b1 := b, b2 := c, b3 := d, head := h }).told]] := hs
                              refine Z.region ?_
                              refine Z.lb 2 rfl ?_
                              refine Z.l rfl rfl (by rfl) (Z.keepS hs) (Z.Yd.nilc rfl rfl) ?_
                              refine Z.l rfl rfl (by rfl) (Z.keepS hs) (Z.Yd.fieldA (m := 0) rfl (by kernel_rfl)) ?_
                              refine Z.l rfl rfl (by rfl) (Z.keepS hs) (Z.Yd.fieldA (m := 0) rfl (by kernel_rfl)) ?_
                              refine Z.le rfl trivial ?_
                              first | refine Z.ZO.store rfl rfl hs Try.sizeOf4 rfl rfl rfl (by first | exact SX.at0 | exact SX.at1 | exact SX.at2 | exact SX.at3 | exact SX.at4 | exact SX.at5 | exact Z.at6 | exact Z.at7 | exact Z.at8 | exact Z.at9 | exact Z.at10 | exact Z.at11 | exact Z.at12) (by first | (simp; done) | (simp; omega)) ?_ | refine Z.ZO.storeR rfl rfl hs Try.sizeOf4 rfl rfl rfl (by first | exact SX.at0 | exact SX.at1 | exact SX.at2 | exact SX.at3 | exact SX.at4 | exact SX.at5 | exact Z.at6 | exact Z.at7 | exact Z.at8 | exact Z.at9 | exact Z.at10 | exact Z.at11 | exact Z.at12) (by first | omega | (simp [ints_length]; done) | (simp [ints_length]; omega)) ?_
                              clear hs; intro ws hs
                              simp only [Nat.zero_add, Nat.add_zero, Nat.reduceAdd, Int.reduceToNat, Nat.reduceMul, List.set_cons_zero, List.set_cons_succ, List.setIfInBounds_toArray] at hs
                              refine Z.l rfl rfl (by rfl) (Z.keepS hs) (Z.Yd.nilc rfl rfl) ?_
                              refine Z.l rfl rfl (by rfl) (Z.keepS hs) (Z.Yd.fieldA (m := 0) rfl (by kernel_rfl)) ?_
                              refine Z.l rfl rfl (by rfl) (Z.keepS hs) (Z.Yd.fieldA (m := 1) rfl (by kernel_rfl)) ?_
                              refine Z.le rfl trivial ?_
                              first | refine Z.ZO.store rfl rfl hs Try.sizeOf4 rfl rfl rfl (by first | exact SX.at0 | exact SX.at1 | exact SX.at2 | exact SX.at3 | exact SX.at4 | exact SX.at5 | exact Z.at6 | exact Z.at7 | exact Z.at8 | exact Z.at9 | exact Z.at10 | exact Z.at11 | exact Z.at12) (by first | (simp; done) | (simp; omega)) ?_ | refine Z.ZO.storeR rfl rfl hs Try.sizeOf4 rfl rfl rfl (by first | exact SX.at0 | exact SX.at1 | exact SX.at2 | exact SX.at3 | exact SX.at4 | exact SX.at5 | exact Z.at6 | exact Z.at7 | exact Z.at8 | exact Z.at9 | exact Z.at10 | exact Z.at11 | exact Z.at12) (by first | omega | (simp [ints_length]; done) | (simp [ints_length]; omega)) ?_
                              clear hs; intro ws hs
                              simp only [Nat.zero_add, Nat.add_zero, Nat.reduceAdd, Int.reduceToNat, Nat.reduceMul, List.set_cons_zero, List.set_cons_succ, List.setIfInBounds_toArray] at hs
                              refine Z.lnil ?_
                              refine Z.only [0] rfl ?_
                              refine Z.nthen ?_
                              first | exact Z.meet () (by refine ⟨?_, trivial⟩ <;> (first | rfl | (refine Z.lookv rfl ?_; simp; done) | (refine Z.lookv rfl ?_; simp; omega))) (by rw [hR, hQ]; exact hs) | exact Z.meet () (by refine ⟨?_, trivial⟩ <;> (first | rfl | (refine Z.lookv rfl ?_; simp; done) | (refine Z.lookv rfl ?_; simp; omega))) (by rw [show Q = true by rw [hQ]; simp_all]; exact hs) | exact Z.meet () (by refine ⟨?_, trivial⟩ <;> (first | rfl | (refine Z.lookv rfl ?_; simp; done) | (refine Z.lookv rfl ?_; simp; omega))) (by rw [show Q = dueV m.c0 m.last t by rw [hQ]; simp_all]; exact hs)
                              )
                        · first
                            | (exfalso; simp at hc8 <;> omega)
                            | (
                              (try simp at hc8)
                              rw [if_neg (by assumption)] at hR hQ
                              replace hs : SX.St w M _ [SX.Ent.blk g T #[.bool ({ m with now := t, b0 := a, b1 := b, b2 := c, b3 := d, head := h }).reg, .bool ({ m with now := t, b0 := a, b1 := b, b2 := c, b3 := d, head := h }).per, .bool ({ m with now := t, b0 := a, b1 := b, b2 := c, b3 := d, head := h }).pow, .bool ({ m with now := t, b0 := a, b1 := b, b2 := c, b3 := d, head := h }).fst, .bool true, .int .i64 ({ m with now := t, b0 := a, b1 := b, b2 := c, b3 := d, head := h }).c0, .int .i64 ({ m with now := t, b0 := a, b1 := b, b2 := c, b3 := d, head := h }).c1, .int .i64 ({ m with now := t, b0 := a, b1 := b, b2 := c, b3 := d, head := h }).c2, .int .i64 ({ m with now := t, b0 := a, b1 := b, b2 := c, b3 := d, head := h }).c3, .int .i64 ({ m with now := t, b0 := a, b1 := b, b2 := c, b3 := d, head := h }).now, .int .i64 ({ m with now := t, b0 := a, b1 := b, b2 := c, b3 := d, head := h }).b0, .int .i64 ({ m with now := t, b0 := a, b1 := b, b2 := c, b3 := d, head := h }).b1, .int .i64 ({ m with now := t, b0 := a, b1 := b, b2 := c, b3 := d, head := h }).b2, .int .i64 ({ m with now := t, b0 := a, b1 := b, b2 := c, b3 := d, head := h }).b3, .int .i64 ({ m with now := t, b0 := a, b1 := b, b2 := c, b3 := d, head := h }).head, .int .i64 ({ m with now := t, b0 := a, b1 := b, b2 := c, b3 := d, head := h }).last, .int .i64 ({ m with now := t, b0 := a, b1 := b, b2 := c, b3 := d, head := h }).lastP, .int .i64 ({ m with now := t, b0 := a, b1 := b, b2 := c, b3 := d, head := h }).told]] := hs
                              refine Z.seq ?_
                              refine Z.cutt (ι := Unit) [0] rfl (fun _ => []) (fun _ wr => SX.St w M wr [SX.Ent.blk g T ({ m with reg := R, now := t, b0 := a, b1 := b, b2 := c, b3 := d, head := h } : RpV).cells.toArray]) ?_ ?_
                              · skip
                                refine Z.drawK (fun j => j != 27) mixed hs ?_
                                clear hs; intro wd10 hs
                                refine Z.tb [0, 1] (by kernel_rfl) rfl ⟨_, hs, by first | (simp; done) | exact fun e he => List.mem_append_right _ he⟩ rfl ?_
                                refine Z.t 2 rfl rfl rfl (by rfl) (by kernel_rfl) ⟨_, hs, by first | (simp; done) | exact fun e he => List.mem_append_right _ he⟩ (Z.Yd.nilc rfl rfl) ?_
                                refine Z.t 3 rfl rfl rfl (by rfl) (by kernel_rfl) ⟨_, hs, by first | (simp; done) | exact fun e he => List.mem_append_right _ he⟩ (Z.Yd.fieldA (m := 0) rfl (by kernel_rfl)) ?_
                                refine Z.t 4 rfl rfl rfl (by rfl) (by kernel_rfl) ⟨_, hs, by first | (simp; done) | exact fun e he => List.mem_append_right _ he⟩ (Z.Yd.fieldA (m := 0) rfl (by kernel_rfl)) ?_
                                refine Z.t 5 rfl rfl rfl (by rfl) (by kernel_rfl) ⟨_, hs, by first | (simp; done) | exact fun e he => List.mem_append_right _ he⟩ (by first | exact Z.Yd.load rfl Try.isAgg4 (fun _ => Z.cellB (by first | ((repeat (first | exact List.mem_cons_self | refine List.mem_cons_of_mem _ ?_ | refine List.mem_append_right _ ?_)); done) | fail) rfl) | exact Z.Yd.load rfl Try.isAgg4 (fun _ => Z.cellO (by assumption) (by simp) (by assumption)) | fail "load 10.5") ?_
                                refine Z.tb [6, 7, 8, 9, 10, 11, 12, 13] (by kernel_rfl) rfl ⟨_, hs, by first | (simp; done) | exact fun e he => List.mem_append_right _ he⟩ rfl ?_
                                refine Z.t 14 rfl rfl rfl (by rfl) (by kernel_rfl) ⟨_, hs, by first | (simp; done) | exact fun e he => List.mem_append_right _ he⟩ (Z.Yd.nilc rfl rfl) ?_
                                refine Z.t 15 rfl rfl rfl (by rfl) (by kernel_rfl) ⟨_, hs, by first | (simp; done) | exact fun e he => List.mem_append_right _ he⟩ (Z.Yd.fieldA (m := 5) rfl (by kernel_rfl)) ?_
                                refine Z.t 16 rfl rfl rfl (by rfl) (by kernel_rfl) ⟨_, hs, by first | (simp; done) | exact fun e he => List.mem_append_right _ he⟩ (Z.Yd.fieldA (m := 1) rfl (by kernel_rfl)) ?_
                                refine Z.t 17 rfl rfl rfl (by rfl) (by kernel_rfl) ⟨_, hs, by first | (simp; done) | exact fun e he => List.mem_append_right _ he⟩ (by first | exact Z.Yd.load rfl Try.isAgg3 (fun _ => Z.cellB (by first | ((repeat (first | exact List.mem_cons_self | refine List.mem_cons_of_mem _ ?_ | refine List.mem_append_right _ ?_)); done) | fail) rfl) | exact Z.Yd.load rfl Try.isAgg3 (fun _ => Z.cellO (by assumption) (by simp) (by assumption)) | fail "load 10.17") ?_
                                refine Z.tb [18] (by kernel_rfl) rfl ⟨_, hs, by first | (simp; done) | exact fun e he => List.mem_append_right _ he⟩ rfl ?_
                                refine Z.t 19 rfl rfl rfl (by rfl) (by kernel_rfl) ⟨_, hs, by first | (simp; done) | exact fun e he => List.mem_append_right _ he⟩ (Z.Yd.nilc rfl rfl) ?_
                                refine Z.t 20 rfl rfl rfl (by rfl) (by kernel_rfl) ⟨_, hs, by first | (simp; done) | exact fun e he => List.mem_append_right _ he⟩ (Z.Yd.fieldA (m := 15) rfl (by kernel_rfl)) ?_
                                refine Z.t 21 rfl rfl rfl (by rfl) (by kernel_rfl) ⟨_, hs, by first | (simp; done) | exact fun e he => List.mem_append_right _ he⟩ (by first | exact Z.Yd.load rfl Try.isAgg3 (fun _ => Z.cellB (by first | ((repeat (first | exact List.mem_cons_self | refine List.mem_cons_of_mem _ ?_ | refine List.mem_append_right _ ?_)); done) | fail) rfl) | exact Z.Yd.load rfl Try.isAgg3 (fun _ => Z.cellO (by assumption) (by simp) (by assumption)) | fail "load 10.21") ?_
                                refine Z.split (s := 68) rfl (fun hsp68 => ?_) (fun hsp68 => ?_)
                                · first
                                    | (exfalso; simp at hsp68 <;> omega)
                                    | (
                                      refine Z.yes (s := 68) (b := true) rfl hsp68 rfl ?_
                                      (try simp at hsp68)
                                      refine Z.tnS 68 false 22 rfl rfl (by kernel_rfl) rfl rfl (by simp) rfl (by rfl) (fun _ => ⟨_, hs, by first | (simp; done) | exact fun e he => List.mem_append_right _ he⟩) ?_
                                      refine Z.t 23 rfl rfl rfl (by rfl) (by kernel_rfl) ⟨_, hs, by first | (simp; done) | exact fun e he => List.mem_append_right _ he⟩ (Z.Yd.pickT rfl rfl) ?_
                                      refine Z.tn 24 rfl rfl (by kernel_rfl) rfl trivial ?_
                                      refine Z.ZO.quiet rfl (by rfl) (Z.keepS hs) (Z.Yd.nilc rfl rfl) ?_
                                      refine Z.tk (Dn := fun j => j != 27) (i := 24) (fun _ => ⟨_, hs, by first | (simp; done) | exact fun e he => List.mem_append_right _ he⟩) ?_
                                      refine Z.tn 25 rfl rfl (by kernel_rfl) rfl trivial ?_
                                      refine Z.ZO.quiet rfl (by rfl) (Z.keepS hs) (Z.Yd.fieldA (m := 0) rfl (by kernel_rfl)) ?_
                                      refine Z.tk (Dn := fun j => j != 27) (i := 25) (fun _ => ⟨_, hs, by first | (simp; done) | exact fun e he => List.mem_append_right _ he⟩) ?_
                                      refine Z.t 26 rfl rfl rfl (by rfl) (by kernel_rfl) ⟨_, hs, by first | (simp; done) | exact fun e he => List.mem_append_right _ he⟩ (Z.Yd.fieldA (m := 0) rfl (by kernel_rfl)) ?_
                                      refine Z.tn 27 rfl rfl (by kernel_rfl) rfl trivial ?_
                                      first | refine Z.ZO.store rfl rfl hs Try.sizeOf4 rfl rfl rfl (by first | exact SX.at0 | exact SX.at1 | exact SX.at2 | exact SX.at3 | exact SX.at4 | exact SX.at5 | exact Z.at6 | exact Z.at7 | exact Z.at8 | exact Z.at9 | exact Z.at10 | exact Z.at11 | exact Z.at12) (by first | (simp; done) | (simp; omega)) ?_ | refine Z.ZO.storeR rfl rfl hs Try.sizeOf4 rfl rfl rfl (by first | exact SX.at0 | exact SX.at1 | exact SX.at2 | exact SX.at3 | exact SX.at4 | exact SX.at5 | exact Z.at6 | exact Z.at7 | exact Z.at8 | exact Z.at9 | exact Z.at10 | exact Z.at11 | exact Z.at12) (by first | omega | (simp [ints_length]; done) | (simp [ints_length]; omega)) ?_
                                      clear hs; intro ws hs
                                      simp only [Nat.zero_add, Nat.add_zero, Nat.reduceAdd, Int.reduceToNat, Nat.reduceMul, List.set_cons_zero, List.set_cons_succ, List.setIfInBounds_toArray] at hs
                                      refine Z.tk (Dn := fun j => j != 27) (i := 27) (fun h => absurd h (by decide)) ?_
                                      refine Z.td (by rfl) (by kernel_rfl) ?_
                                      refine Z.only [0] rfl ?_
                                      refine Z.nthen ?_
                                      first | exact Z.meet () (by refine ⟨?_, trivial⟩ <;> (first | rfl | (refine Z.lookv rfl ?_; simp; done) | (refine Z.lookv rfl ?_; simp; omega))) (by rw [show R = true by rw [hR]; simp_all]; exact hs) | exact Z.meet () (by refine ⟨?_, trivial⟩ <;> (first | rfl | (refine Z.lookv rfl ?_; simp; done) | (refine Z.lookv rfl ?_; simp; omega))) (by rw [show R = dueV m.c1 m.last t by rw [hR]; simp_all; intro _; omega]; exact hs)
                                      )
                                · first
                                    | (exfalso; simp at hsp68 <;> omega)
                                    | (
                                      refine Z.yes (s := 68) (b := false) rfl hsp68 rfl ?_
                                      (try simp at hsp68)
                                      refine Z.tn 22 rfl rfl (by kernel_rfl) rfl (by exact ⟨rfl, trivial⟩) ?_
                                      refine Z.ZO.call rfl rfl (by rfl) rfl rfl Try.call27 rfl (rp_due g { m with now := t, b0 := a, b1 := b, b2 := c, b3 := d, head := h } m.c1 m.last _ (hs.celOf (by first | ((repeat (first | exact List.mem_cons_self | refine List.mem_cons_of_mem _ ?_ | refine List.mem_append_right _ ?_)); done) | fail)) ⟨by show 0 ≤ t; omega, u2⟩ h8) ?_
                                      rintro v10_22 w10_22 ⟨rfl, hy⟩
                                      replace hs := hs.call hy
                                      clear hy
                                      try simp only [List.cons_append, List.nil_append, List.append_nil] at hs
                                      refine Z.tk (Dn := fun j => j != 27) (i := 22) (fun _ => ⟨_, hs, by first | (simp; done) | exact fun e he => List.mem_append_right _ he⟩) ?_
                                      refine Z.t 23 rfl rfl rfl (by rfl) (by kernel_rfl) ⟨_, hs, by first | (simp; done) | exact fun e he => List.mem_append_right _ he⟩ (Z.Yd.pickF rfl rfl) ?_
                                      refine Z.tn 24 rfl rfl (by kernel_rfl) rfl trivial ?_
                                      refine Z.ZO.quiet rfl (by rfl) (Z.keepS hs) (Z.Yd.nilc rfl rfl) ?_
                                      refine Z.tk (Dn := fun j => j != 27) (i := 24) (fun _ => ⟨_, hs, by first | (simp; done) | exact fun e he => List.mem_append_right _ he⟩) ?_
                                      refine Z.tn 25 rfl rfl (by kernel_rfl) rfl trivial ?_
                                      refine Z.ZO.quiet rfl (by rfl) (Z.keepS hs) (Z.Yd.fieldA (m := 0) rfl (by kernel_rfl)) ?_
                                      refine Z.tk (Dn := fun j => j != 27) (i := 25) (fun _ => ⟨_, hs, by first | (simp; done) | exact fun e he => List.mem_append_right _ he⟩) ?_
                                      refine Z.t 26 rfl rfl rfl (by rfl) (by kernel_rfl) ⟨_, hs, by first | (simp; done) | exact fun e he => List.mem_append_right _ he⟩ (Z.Yd.fieldA (m := 0) rfl (by kernel_rfl)) ?_
                                      refine Z.tn 27 rfl rfl (by kernel_rfl) rfl trivial ?_
                                      first | refine Z.ZO.store rfl rfl hs Try.sizeOf4 rfl rfl rfl (by first | exact SX.at0 | exact SX.at1 | exact SX.at2 | exact SX.at3 | exact SX.at4 | exact SX.at5 | exact Z.at6 | exact Z.at7 | exact Z.at8 | exact Z.at9 | exact Z.at10 | exact Z.at11 | exact Z.at12) (by first | (simp; done) | (simp; omega)) ?_ | refine Z.ZO.storeR rfl rfl hs Try.sizeOf4 rfl rfl rfl (by first | exact SX.at0 | exact SX.at1 | exact SX.at2 | exact SX.at3 | exact SX.at4 | exact SX.at5 | exact Z.at6 | exact Z.at7 | exact Z.at8 | exact Z.at9 | exact Z.at10 | exact Z.at11 | exact Z.at12) (by first | omega | (simp [ints_length]; done) | (simp [ints_length]; omega)) ?_
                                      clear hs; intro ws hs
                                      simp only [Nat.zero_add, Nat.add_zero, Nat.reduceAdd, Int.reduceToNat, Nat.reduceMul, List.set_cons_zero, List.set_cons_succ, List.setIfInBounds_toArray] at hs
                                      refine Z.tk (Dn := fun j => j != 27) (i := 27) (fun h => absurd h (by decide)) ?_
                                      refine Z.td (by rfl) (by kernel_rfl) ?_
                                      refine Z.only [0] rfl ?_
                                      refine Z.nthen ?_
                                      first | exact Z.meet () (by refine ⟨?_, trivial⟩ <;> (first | rfl | (refine Z.lookv rfl ?_; simp; done) | (refine Z.lookv rfl ?_; simp; omega))) (by rw [show R = true by rw [hR]; simp_all]; exact hs) | exact Z.meet () (by refine ⟨?_, trivial⟩ <;> (first | rfl | (refine Z.lookv rfl ?_; simp; done) | (refine Z.lookv rfl ?_; simp; omega))) (by rw [show R = dueV m.c1 m.last t by rw [hR]; simp_all; intro _; omega]; exact hs)
                                      )
                              · clear hs
                                rintro _ w10 hs
                                refine Z.only [0] rfl ?_
                                replace hs : SX.St w M w10 [SX.Ent.blk g T #[.bool ({ m with reg := R, now := t, b0 := a, b1 := b, b2 := c, b3 := d, head := h }).reg, .bool ({ m with reg := R, now := t, b0 := a, b1 := b, b2 := c, b3 := d, head := h }).per, .bool ({ m with reg := R, now := t, b0 := a, b1 := b, b2 := c, b3 := d, head := h }).pow, .bool ({ m with reg := R, now := t, b0 := a, b1 := b, b2 := c, b3 := d, head := h }).fst, .bool true, .int .i64 ({ m with reg := R, now := t, b0 := a, b1 := b, b2 := c, b3 := d, head := h }).c0, .int .i64 ({ m with reg := R, now := t, b0 := a, b1 := b, b2 := c, b3 := d, head := h }).c1, .int .i64 ({ m with reg := R, now := t, b0 := a, b1 := b, b2 := c, b3 := d, head := h }).c2, .int .i64 ({ m with reg := R, now := t, b0 := a, b1 := b, b2 := c, b3 := d, head := h }).c3, .int .i64 ({ m with reg := R, now := t, b0 := a, b1 := b, b2 := c, b3 := d, head := h }).now, .int .i64 ({ m with reg := R, now := t, b0 := a, b1 := b, b2 := c, b3 := d, head := h }).b0, .int .i64 ({ m with reg := R, now := t, b0 := a, b1 := b, b2 := c, b3 := d, head := h }).b1, .int .i64 ({ m with reg := R, now := t, b0 := a, b1 := b, b2 := c, b3 := d, head := h }).b2, .int .i64 ({ m with reg := R, now := t, b0 := a, b1 := b, b2 := c, b3 := d, head := h }).b3, .int .i64 ({ m with reg := R, now := t, b0 := a, b1 := b, b2 := c, b3 := d, head := h }).head, .int .i64 ({ m with reg := R, now := t, b0 := a, b1 := b, b2 := c, b3 := d, head := h }).last, .int .i64 ({ m with reg := R, now := t, b0 := a, b1 := b, b2 := c, b3 := d, head := h }).lastP, .int .i64 ({ m with reg := R, now := t, b0 := a, b1 := b, b2 := c, b3 := d, head := h }).told]] := hs
                                refine Z.drawK (fun j => j != 22) mixed hs ?_
                                clear hs; intro wd11 hs
                                refine Z.tb [0, 1] (by kernel_rfl) rfl ⟨_, hs, by first | (simp; done) | exact fun e he => List.mem_append_right _ he⟩ rfl ?_
                                refine Z.t 2 rfl rfl rfl (by rfl) (by kernel_rfl) ⟨_, hs, by first | (simp; done) | exact fun e he => List.mem_append_right _ he⟩ (Z.Yd.nilc rfl rfl) ?_
                                refine Z.t 3 rfl rfl rfl (by rfl) (by kernel_rfl) ⟨_, hs, by first | (simp; done) | exact fun e he => List.mem_append_right _ he⟩ (Z.Yd.fieldA (m := 0) rfl (by kernel_rfl)) ?_
                                refine Z.t 4 rfl rfl rfl (by rfl) (by kernel_rfl) ⟨_, hs, by first | (simp; done) | exact fun e he => List.mem_append_right _ he⟩ (Z.Yd.fieldA (m := 1) rfl (by kernel_rfl)) ?_
                                refine Z.t 5 rfl rfl rfl (by rfl) (by kernel_rfl) ⟨_, hs, by first | (simp; done) | exact fun e he => List.mem_append_right _ he⟩ (by first | exact Z.Yd.load rfl Try.isAgg4 (fun _ => Z.cellB (by first | ((repeat (first | exact List.mem_cons_self | refine List.mem_cons_of_mem _ ?_ | refine List.mem_append_right _ ?_)); done) | fail) rfl) | exact Z.Yd.load rfl Try.isAgg4 (fun _ => Z.cellO (by assumption) (by simp) (by assumption)) | fail "load 11.5") ?_
                                refine Z.tb [6, 7, 8] (by kernel_rfl) rfl ⟨_, hs, by first | (simp; done) | exact fun e he => List.mem_append_right _ he⟩ rfl ?_
                                refine Z.t 9 rfl rfl rfl (by rfl) (by kernel_rfl) ⟨_, hs, by first | (simp; done) | exact fun e he => List.mem_append_right _ he⟩ (Z.Yd.nilc rfl rfl) ?_
                                refine Z.t 10 rfl rfl rfl (by rfl) (by kernel_rfl) ⟨_, hs, by first | (simp; done) | exact fun e he => List.mem_append_right _ he⟩ (Z.Yd.fieldA (m := 5) rfl (by kernel_rfl)) ?_
                                refine Z.t 11 rfl rfl rfl (by rfl) (by kernel_rfl) ⟨_, hs, by first | (simp; done) | exact fun e he => List.mem_append_right _ he⟩ (Z.Yd.fieldA (m := 0) rfl (by kernel_rfl)) ?_
                                refine Z.t 12 rfl rfl rfl (by rfl) (by kernel_rfl) ⟨_, hs, by first | (simp; done) | exact fun e he => List.mem_append_right _ he⟩ (by first | exact Z.Yd.load rfl Try.isAgg3 (fun _ => Z.cellB (by first | ((repeat (first | exact List.mem_cons_self | refine List.mem_cons_of_mem _ ?_ | refine List.mem_append_right _ ?_)); done) | fail) rfl) | exact Z.Yd.load rfl Try.isAgg3 (fun _ => Z.cellO (by assumption) (by simp) (by assumption)) | fail "load 11.12") ?_
                                refine Z.tb [13] (by kernel_rfl) rfl ⟨_, hs, by first | (simp; done) | exact fun e he => List.mem_append_right _ he⟩ rfl ?_
                                refine Z.t 14 rfl rfl rfl (by rfl) (by kernel_rfl) ⟨_, hs, by first | (simp; done) | exact fun e he => List.mem_append_right _ he⟩ (Z.Yd.nilc rfl rfl) ?_
                                refine Z.t 15 rfl rfl rfl (by rfl) (by kernel_rfl) ⟨_, hs, by first | (simp; done) | exact fun e he => List.mem_append_right _ he⟩ (Z.Yd.fieldA (m := 15) rfl (by kernel_rfl)) ?_
                                refine Z.t 16 rfl rfl rfl (by rfl) (by kernel_rfl) ⟨_, hs, by first | (simp; done) | exact fun e he => List.mem_append_right _ he⟩ (by first | exact Z.Yd.load rfl Try.isAgg3 (fun _ => Z.cellB (by first | ((repeat (first | exact List.mem_cons_self | refine List.mem_cons_of_mem _ ?_ | refine List.mem_append_right _ ?_)); done) | fail) rfl) | exact Z.Yd.load rfl Try.isAgg3 (fun _ => Z.cellO (by assumption) (by simp) (by assumption)) | fail "load 11.16") ?_
                                refine Z.split (s := 90) rfl (fun hsp90 => ?_) (fun hsp90 => ?_)
                                · first
                                    | (exfalso; simp at hsp90 <;> omega)
                                    | (
                                      refine Z.yes (s := 90) (b := true) rfl hsp90 rfl ?_
                                      (try simp at hsp90)
                                      refine Z.tnS 90 false 17 rfl rfl (by kernel_rfl) rfl rfl (by simp) rfl (by rfl) (fun _ => ⟨_, hs, by first | (simp; done) | exact fun e he => List.mem_append_right _ he⟩) ?_
                                      refine Z.t 18 rfl rfl rfl (by rfl) (by kernel_rfl) ⟨_, hs, by first | (simp; done) | exact fun e he => List.mem_append_right _ he⟩ (Z.Yd.pickT rfl rfl) ?_
                                      refine Z.tn 19 rfl rfl (by kernel_rfl) rfl trivial ?_
                                      refine Z.ZO.quiet rfl (by rfl) (Z.keepS hs) (Z.Yd.nilc rfl rfl) ?_
                                      refine Z.tk (Dn := fun j => j != 22) (i := 19) (fun _ => ⟨_, hs, by first | (simp; done) | exact fun e he => List.mem_append_right _ he⟩) ?_
                                      refine Z.tn 20 rfl rfl (by kernel_rfl) rfl trivial ?_
                                      refine Z.ZO.quiet rfl (by rfl) (Z.keepS hs) (Z.Yd.fieldA (m := 0) rfl (by kernel_rfl)) ?_
                                      refine Z.tk (Dn := fun j => j != 22) (i := 20) (fun _ => ⟨_, hs, by first | (simp; done) | exact fun e he => List.mem_append_right _ he⟩) ?_
                                      refine Z.t 21 rfl rfl rfl (by rfl) (by kernel_rfl) ⟨_, hs, by first | (simp; done) | exact fun e he => List.mem_append_right _ he⟩ (Z.Yd.fieldA (m := 1) rfl (by kernel_rfl)) ?_
                                      refine Z.tn 22 rfl rfl (by kernel_rfl) rfl trivial ?_
                                      first | refine Z.ZO.store rfl rfl hs Try.sizeOf4 rfl rfl rfl (by first | exact SX.at0 | exact SX.at1 | exact SX.at2 | exact SX.at3 | exact SX.at4 | exact SX.at5 | exact Z.at6 | exact Z.at7 | exact Z.at8 | exact Z.at9 | exact Z.at10 | exact Z.at11 | exact Z.at12) (by first | (simp; done) | (simp; omega)) ?_ | refine Z.ZO.storeR rfl rfl hs Try.sizeOf4 rfl rfl rfl (by first | exact SX.at0 | exact SX.at1 | exact SX.at2 | exact SX.at3 | exact SX.at4 | exact SX.at5 | exact Z.at6 | exact Z.at7 | exact Z.at8 | exact Z.at9 | exact Z.at10 | exact Z.at11 | exact Z.at12) (by first | omega | (simp [ints_length]; done) | (simp [ints_length]; omega)) ?_
                                      clear hs; intro ws hs
                                      simp only [Nat.zero_add, Nat.add_zero, Nat.reduceAdd, Int.reduceToNat, Nat.reduceMul, List.set_cons_zero, List.set_cons_succ, List.setIfInBounds_toArray] at hs
                                      refine Z.tk (Dn := fun j => j != 22) (i := 22) (fun h => absurd h (by decide)) ?_
                                      refine Z.td (by rfl) (by kernel_rfl) ?_
                                      refine Z.only [0] rfl ?_
                                      refine Z.nthen ?_
                                      first | exact Z.meet () (by refine ⟨?_, trivial⟩ <;> (first | rfl | (refine Z.lookv rfl ?_; simp; done) | (refine Z.lookv rfl ?_; simp; omega))) (by rw [hR, hQ]; exact hs) | exact Z.meet () (by refine ⟨?_, trivial⟩ <;> (first | rfl | (refine Z.lookv rfl ?_; simp; done) | (refine Z.lookv rfl ?_; simp; omega))) (by rw [show Q = true by rw [hQ]; simp_all]; exact hs) | exact Z.meet () (by refine ⟨?_, trivial⟩ <;> (first | rfl | (refine Z.lookv rfl ?_; simp; done) | (refine Z.lookv rfl ?_; simp; omega))) (by rw [show Q = dueV m.c0 m.last t by rw [hQ]; simp_all]; exact hs)
                                      )
                                · first
                                    | (exfalso; simp at hsp90 <;> omega)
                                    | (
                                      refine Z.yes (s := 90) (b := false) rfl hsp90 rfl ?_
                                      (try simp at hsp90)
                                      refine Z.tn 17 rfl rfl (by kernel_rfl) rfl (by exact ⟨rfl, trivial⟩) ?_
                                      refine Z.ZO.call rfl rfl (by rfl) rfl rfl Try.call27 rfl (rp_due g { m with reg := R, now := t, b0 := a, b1 := b, b2 := c, b3 := d, head := h } m.c0 m.last _ (hs.celOf (by first | ((repeat (first | exact List.mem_cons_self | refine List.mem_cons_of_mem _ ?_ | refine List.mem_append_right _ ?_)); done) | fail)) ⟨by show 0 ≤ t; omega, u2⟩ h8) ?_
                                      rintro v11_17 w11_17 ⟨rfl, hy⟩
                                      replace hs := hs.call hy
                                      clear hy
                                      try simp only [List.cons_append, List.nil_append, List.append_nil] at hs
                                      refine Z.tk (Dn := fun j => j != 22) (i := 17) (fun _ => ⟨_, hs, by first | (simp; done) | exact fun e he => List.mem_append_right _ he⟩) ?_
                                      refine Z.t 18 rfl rfl rfl (by rfl) (by kernel_rfl) ⟨_, hs, by first | (simp; done) | exact fun e he => List.mem_append_right _ he⟩ (Z.Yd.pickF rfl rfl) ?_
                                      refine Z.tn 19 rfl rfl (by kernel_rfl) rfl trivial ?_
                                      refine Z.ZO.quiet rfl (by rfl) (Z.keepS hs) (Z.Yd.nilc rfl rfl) ?_
                                      refine Z.tk (Dn := fun j => j != 22) (i := 19) (fun _ => ⟨_, hs, by first | (simp; done) | exact fun e he => List.mem_append_right _ he⟩) ?_
                                      refine Z.tn 20 rfl rfl (by kernel_rfl) rfl trivial ?_
                                      refine Z.ZO.quiet rfl (by rfl) (Z.keepS hs) (Z.Yd.fieldA (m := 0) rfl (by kernel_rfl)) ?_
                                      refine Z.tk (Dn := fun j => j != 22) (i := 20) (fun _ => ⟨_, hs, by first | (simp; done) | exact fun e he => List.mem_append_right _ he⟩) ?_
                                      refine Z.t 21 rfl rfl rfl (by rfl) (by kernel_rfl) ⟨_, hs, by first | (simp; done) | exact fun e he => List.mem_append_right _ he⟩ (Z.Yd.fieldA (m := 1) rfl (by kernel_rfl)) ?_
                                      refine Z.tn 22 rfl rfl (by kernel_rfl) rfl trivial ?_
                                      first | refine Z.ZO.store rfl rfl hs Try.sizeOf4 rfl rfl rfl (by first | exact SX.at0 | exact SX.at1 | exact SX.at2 | exact SX.at3 | exact SX.at4 | exact SX.at5 | exact Z.at6 | exact Z.at7 | exact Z.at8 | exact Z.at9 | exact Z.at10 | exact Z.at11 | exact Z.at12) (by first | (simp; done) | (simp; omega)) ?_ | refine Z.ZO.storeR rfl rfl hs Try.sizeOf4 rfl rfl rfl (by first | exact SX.at0 | exact SX.at1 | exact SX.at2 | exact SX.at3 | exact SX.at4 | exact SX.at5 | exact Z.at6 | exact Z.at7 | exact Z.at8 | exact Z.at9 | exact Z.at10 | exact Z.at11 | exact Z.at12) (by first | omega | (simp [ints_length]; done) | (simp [ints_length]; omega)) ?_
                                      clear hs; intro ws hs
                                      simp only [Nat.zero_add, Nat.add_zero, Nat.reduceAdd, Int.reduceToNat, Nat.reduceMul, List.set_cons_zero, List.set_cons_succ, List.setIfInBounds_toArray] at hs
                                      refine Z.tk (Dn := fun j => j != 22) (i := 22) (fun h => absurd h (by decide)) ?_
                                      refine Z.td (by rfl) (by kernel_rfl) ?_
                                      refine Z.only [0] rfl ?_
                                      refine Z.nthen ?_
                                      first | exact Z.meet () (by refine ⟨?_, trivial⟩ <;> (first | rfl | (refine Z.lookv rfl ?_; simp; done) | (refine Z.lookv rfl ?_; simp; omega))) (by rw [hR, hQ]; exact hs) | exact Z.meet () (by refine ⟨?_, trivial⟩ <;> (first | rfl | (refine Z.lookv rfl ?_; simp; done) | (refine Z.lookv rfl ?_; simp; omega))) (by rw [show Q = true by rw [hQ]; simp_all]; exact hs) | exact Z.meet () (by refine ⟨?_, trivial⟩ <;> (first | rfl | (refine Z.lookv rfl ?_; simp; done) | (refine Z.lookv rfl ?_; simp; omega))) (by rw [show Q = dueV m.c0 m.last t by rw [hQ]; simp_all]; exact hs)
                                      )
                              )
                      · clear hs
                        rintro _ w8 hs
                        refine Z.only [0] rfl ?_
                        replace hs : SX.St w M w8 [SX.Ent.blk g T #[.bool ({ m with reg := R, per := Q, now := t, b0 := a, b1 := b, b2 := c, b3 := d, head := h }).reg, .bool ({ m with reg := R, per := Q, now := t, b0 := a, b1 := b, b2 := c, b3 := d, head := h }).per, .bool ({ m with reg := R, per := Q, now := t, b0 := a, b1 := b, b2 := c, b3 := d, head := h }).pow, .bool ({ m with reg := R, per := Q, now := t, b0 := a, b1 := b, b2 := c, b3 := d, head := h }).fst, .bool true, .int .i64 ({ m with reg := R, per := Q, now := t, b0 := a, b1 := b, b2 := c, b3 := d, head := h }).c0, .int .i64 ({ m with reg := R, per := Q, now := t, b0 := a, b1 := b, b2 := c, b3 := d, head := h }).c1, .int .i64 ({ m with reg := R, per := Q, now := t, b0 := a, b1 := b, b2 := c, b3 := d, head := h }).c2, .int .i64 ({ m with reg := R, per := Q, now := t, b0 := a, b1 := b, b2 := c, b3 := d, head := h }).c3, .int .i64 ({ m with reg := R, per := Q, now := t, b0 := a, b1 := b, b2 := c, b3 := d, head := h }).now, .int .i64 ({ m with reg := R, per := Q, now := t, b0 := a, b1 := b, b2 := c, b3 := d, head := h }).b0, .int .i64 ({ m with reg := R, per := Q, now := t, b0 := a, b1 := b, b2 := c, b3 := d, head := h }).b1, .int .i64 ({ m with reg := R, per := Q, now := t, b0 := a, b1 := b, b2 := c, b3 := d, head := h }).b2, .int .i64 ({ m with reg := R, per := Q, now := t, b0 := a, b1 := b, b2 := c, b3 := d, head := h }).b3, .int .i64 ({ m with reg := R, per := Q, now := t, b0 := a, b1 := b, b2 := c, b3 := d, head := h }).head, .int .i64 ({ m with reg := R, per := Q, now := t, b0 := a, b1 := b, b2 := c, b3 := d, head := h }).last, .int .i64 ({ m with reg := R, per := Q, now := t, b0 := a, b1 := b, b2 := c, b3 := d, head := h }).lastP, .int .i64 ({ m with reg := R, per := Q, now := t, b0 := a, b1 := b, b2 := c, b3 := d, head := h }).told]] := hs
                        refine Z.seq ?_
                        refine Z.cutt (ι := Unit) [] rfl (fun _ => []) (fun _ wr => SX.St w M wr [SX.Ent.blk g T ({ m with reg := R, per := Q, pow := X, now := t, b0 := a, b1 := b, b2 := c, b3 := d, head := h } : RpV).cells.toArray]) ?_ ?_
                        · skip
                          refine Z.drawK (fun j => j != 33) mixed hs ?_
                          clear hs; intro wd12 hs
                          refine Z.tb [0, 1] (by kernel_rfl) rfl ⟨_, hs, by first | (simp; done) | exact fun e he => List.mem_append_right _ he⟩ rfl ?_
                          refine Z.t 2 rfl rfl rfl (by rfl) (by kernel_rfl) ⟨_, hs, by first | (simp; done) | exact fun e he => List.mem_append_right _ he⟩ (Z.Yd.nilc rfl rfl) ?_
                          refine Z.t 3 rfl rfl rfl (by rfl) (by kernel_rfl) ⟨_, hs, by first | (simp; done) | exact fun e he => List.mem_append_right _ he⟩ (Z.Yd.fieldA (m := 0) rfl (by kernel_rfl)) ?_
                          refine Z.t 4 rfl rfl rfl (by rfl) (by kernel_rfl) ⟨_, hs, by first | (simp; done) | exact fun e he => List.mem_append_right _ he⟩ (Z.Yd.fieldA (m := 2) rfl (by kernel_rfl)) ?_
                          refine Z.t 5 rfl rfl rfl (by rfl) (by kernel_rfl) ⟨_, hs, by first | (simp; done) | exact fun e he => List.mem_append_right _ he⟩ (by first | exact Z.Yd.load rfl Try.isAgg4 (fun _ => Z.cellB (by first | ((repeat (first | exact List.mem_cons_self | refine List.mem_cons_of_mem _ ?_ | refine List.mem_append_right _ ?_)); done) | fail) rfl) | exact Z.Yd.load rfl Try.isAgg4 (fun _ => Z.cellO (by assumption) (by simp) (by assumption)) | fail "load 12.5") ?_
                          refine Z.tb [6, 7] (by kernel_rfl) rfl ⟨_, hs, by first | (simp; done) | exact fun e he => List.mem_append_right _ he⟩ rfl ?_
                          refine Z.t 8 rfl rfl rfl (by rfl) (by kernel_rfl) ⟨_, hs, by first | (simp; done) | exact fun e he => List.mem_append_right _ he⟩ (Z.Yd.nilc rfl rfl) ?_
                          refine Z.t 9 rfl rfl rfl (by rfl) (by kernel_rfl) ⟨_, hs, by first | (simp; done) | exact fun e he => List.mem_append_right _ he⟩ (Z.Yd.fieldA (m := 0) rfl (by kernel_rfl)) ?_
                          refine Z.t 10 rfl rfl rfl (by rfl) (by kernel_rfl) ⟨_, hs, by first | (simp; done) | exact fun e he => List.mem_append_right _ he⟩ (Z.Yd.fieldA (m := 3) rfl (by kernel_rfl)) ?_
                          refine Z.t 11 rfl rfl rfl (by rfl) (by kernel_rfl) ⟨_, hs, by first | (simp; done) | exact fun e he => List.mem_append_right _ he⟩ (by first | exact Z.Yd.load rfl Try.isAgg4 (fun _ => Z.cellB (by first | ((repeat (first | exact List.mem_cons_self | refine List.mem_cons_of_mem _ ?_ | refine List.mem_append_right _ ?_)); done) | fail) rfl) | exact Z.Yd.load rfl Try.isAgg4 (fun _ => Z.cellO (by assumption) (by simp) (by assumption)) | fail "load 12.11") ?_
                          refine Z.tb [12, 13, 14, 15] (by kernel_rfl) rfl ⟨_, hs, by first | (simp; done) | exact fun e he => List.mem_append_right _ he⟩ rfl ?_
                          refine Z.t 16 rfl rfl rfl (by rfl) (by kernel_rfl) ⟨_, hs, by first | (simp; done) | exact fun e he => List.mem_append_right _ he⟩ (Z.Yd.nilc rfl rfl) ?_
                          refine Z.t 17 rfl rfl rfl (by rfl) (by kernel_rfl) ⟨_, hs, by first | (simp; done) | exact fun e he => List.mem_append_right _ he⟩ (Z.Yd.fieldA (m := 5) rfl (by kernel_rfl)) ?_
                          refine Z.t 18 rfl rfl rfl (by rfl) (by kernel_rfl) ⟨_, hs, by first | (simp; done) | exact fun e he => List.mem_append_right _ he⟩ (Z.Yd.fieldA (m := 2) rfl (by kernel_rfl)) ?_
                          refine Z.t 19 rfl rfl rfl (by rfl) (by kernel_rfl) ⟨_, hs, by first | (simp; done) | exact fun e he => List.mem_append_right _ he⟩ (by first | exact Z.Yd.load rfl Try.isAgg3 (fun _ => Z.cellB (by first | ((repeat (first | exact List.mem_cons_self | refine List.mem_cons_of_mem _ ?_ | refine List.mem_append_right _ ?_)); done) | fail) rfl) | exact Z.Yd.load rfl Try.isAgg3 (fun _ => Z.cellO (by assumption) (by simp) (by assumption)) | fail "load 12.19") ?_
                          refine Z.tb [20] (by kernel_rfl) rfl ⟨_, hs, by first | (simp; done) | exact fun e he => List.mem_append_right _ he⟩ rfl ?_
                          refine Z.t 21 rfl rfl rfl (by rfl) (by kernel_rfl) ⟨_, hs, by first | (simp; done) | exact fun e he => List.mem_append_right _ he⟩ (Z.Yd.nilc rfl rfl) ?_
                          refine Z.t 22 rfl rfl rfl (by rfl) (by kernel_rfl) ⟨_, hs, by first | (simp; done) | exact fun e he => List.mem_append_right _ he⟩ (Z.Yd.fieldA (m := 16) rfl (by kernel_rfl)) ?_
                          refine Z.t 23 rfl rfl rfl (by rfl) (by kernel_rfl) ⟨_, hs, by first | (simp; done) | exact fun e he => List.mem_append_right _ he⟩ (by first | exact Z.Yd.load rfl Try.isAgg3 (fun _ => Z.cellB (by first | ((repeat (first | exact List.mem_cons_self | refine List.mem_cons_of_mem _ ?_ | refine List.mem_append_right _ ?_)); done) | fail) rfl) | exact Z.Yd.load rfl Try.isAgg3 (fun _ => Z.cellO (by assumption) (by simp) (by assumption)) | fail "load 12.23") ?_
                          refine Z.split (s := 119) rfl (fun hsp119 => ?_) (fun hsp119 => ?_)
                          · first
                              | (exfalso; simp at hsp119 <;> omega)
                              | (
                                refine Z.yes (s := 119) (b := true) rfl hsp119 rfl ?_
                                (try simp at hsp119)
                                refine Z.tnS 119 false 24 rfl rfl (by kernel_rfl) rfl rfl (by simp) rfl (by rfl) (fun _ => ⟨_, hs, by first | (simp; done) | exact fun e he => List.mem_append_right _ he⟩) ?_
                                refine Z.t 25 rfl rfl rfl (by rfl) (by kernel_rfl) ⟨_, hs, by first | (simp; done) | exact fun e he => List.mem_append_right _ he⟩ (Z.Yd.pickT rfl rfl) ?_
                                refine Z.tb [26, 27] (by kernel_rfl) rfl ⟨_, hs, by first | (simp; done) | exact fun e he => List.mem_append_right _ he⟩ rfl ?_
                                refine Z.split (s := 132) rfl (fun hsp132 => ?_) (fun hsp132 => ?_)
                                · first
                                    | (exfalso; simp at hsp132 <;> omega)
                                    | (
                                      refine Z.yes (s := 132) (b := true) rfl hsp132 rfl ?_
                                      (try simp at hsp132)
                                      refine Z.yes (s := 119) (b := true) rfl rfl rfl ?_
                                      refine Z.tnS 132 false 28 rfl rfl (by kernel_rfl) rfl rfl (by simp) rfl (by rfl) (fun _ => ⟨_, hs, by first | (simp; done) | exact fun e he => List.mem_append_right _ he⟩) ?_
                                      refine Z.t 29 rfl rfl rfl (by rfl) (by kernel_rfl) ⟨_, hs, by first | (simp; done) | exact fun e he => List.mem_append_right _ he⟩ (Z.Yd.pickT rfl rfl) ?_
                                      refine Z.tn 30 rfl rfl (by kernel_rfl) rfl trivial ?_
                                      refine Z.ZO.quiet rfl (by rfl) (Z.keepS hs) (Z.Yd.nilc rfl rfl) ?_
                                      refine Z.tk (Dn := fun j => j != 33) (i := 30) (fun _ => ⟨_, hs, by first | (simp; done) | exact fun e he => List.mem_append_right _ he⟩) ?_
                                      refine Z.tn 31 rfl rfl (by kernel_rfl) rfl trivial ?_
                                      refine Z.ZO.quiet rfl (by rfl) (Z.keepS hs) (Z.Yd.fieldA (m := 0) rfl (by kernel_rfl)) ?_
                                      refine Z.tk (Dn := fun j => j != 33) (i := 31) (fun _ => ⟨_, hs, by first | (simp; done) | exact fun e he => List.mem_append_right _ he⟩) ?_
                                      refine Z.t 32 rfl rfl rfl (by rfl) (by kernel_rfl) ⟨_, hs, by first | (simp; done) | exact fun e he => List.mem_append_right _ he⟩ (Z.Yd.fieldA (m := 2) rfl (by kernel_rfl)) ?_
                                      refine Z.tn 33 rfl rfl (by kernel_rfl) rfl trivial ?_
                                      first | refine Z.ZO.store rfl rfl hs Try.sizeOf4 rfl rfl rfl (by first | exact SX.at0 | exact SX.at1 | exact SX.at2 | exact SX.at3 | exact SX.at4 | exact SX.at5 | exact Z.at6 | exact Z.at7 | exact Z.at8 | exact Z.at9 | exact Z.at10 | exact Z.at11 | exact Z.at12) (by first | (simp; done) | (simp; omega)) ?_ | refine Z.ZO.storeR rfl rfl hs Try.sizeOf4 rfl rfl rfl (by first | exact SX.at0 | exact SX.at1 | exact SX.at2 | exact SX.at3 | exact SX.at4 | exact SX.at5 | exact Z.at6 | exact Z.at7 | exact Z.at8 | exact Z.at9 | exact Z.at10 | exact Z.at11 | exact Z.at12) (by first | omega | (simp [ints_length]; done) | (simp [ints_length]; omega)) ?_
                                      clear hs; intro ws hs
                                      simp only [Nat.zero_add, Nat.add_zero, Nat.reduceAdd, Int.reduceToNat, Nat.reduceMul, List.set_cons_zero, List.set_cons_succ, List.setIfInBounds_toArray] at hs
                                      refine Z.tk (Dn := fun j => j != 33) (i := 33) (fun h => absurd h (by decide)) ?_
                                      refine Z.td (by rfl) (by kernel_rfl) ?_
                                      refine Z.only [] rfl ?_
                                      refine Z.nthen ?_
                                      first | exact Z.meet () trivial (by rw [show X = true by rw [hX]; simp_all]; exact hs) | exact Z.meet () trivial (by rw [show X = chgV m.c3 h m.told by rw [hX]; simp_all]; exact hs)
                                      )
                                · first
                                    | (exfalso; simp at hsp132 <;> omega)
                                    | (
                                      refine Z.yes (s := 132) (b := false) rfl hsp132 rfl ?_
                                      (try simp at hsp132)
                                      refine Z.yes (s := 119) (b := true) rfl rfl rfl ?_
                                      refine Z.tn 28 rfl rfl (by kernel_rfl) rfl (by exact ⟨rfl, trivial⟩) ?_
                                      refine Z.ZO.call rfl rfl (by rfl) rfl rfl Try.call28 rfl (rp_changed g { m with reg := R, per := Q, now := t, b0 := a, b1 := b, b2 := c, b3 := d, head := h } _ (hs.celOf (by first | ((repeat (first | exact List.mem_cons_self | refine List.mem_cons_of_mem _ ?_ | refine List.mem_append_right _ ?_)); done) | fail)) u7 h10) ?_
                                      rintro v12_28 w12_28 ⟨rfl, hy⟩
                                      replace hs := hs.call hy
                                      clear hy
                                      try simp only [List.cons_append, List.nil_append, List.append_nil] at hs
                                      refine Z.tk (Dn := fun j => j != 33) (i := 28) (fun _ => ⟨_, hs, by first | (simp; done) | exact fun e he => List.mem_append_right _ he⟩) ?_
                                      refine Z.t 29 rfl rfl rfl (by rfl) (by kernel_rfl) ⟨_, hs, by first | (simp; done) | exact fun e he => List.mem_append_right _ he⟩ (Z.Yd.pickF rfl rfl) ?_
                                      refine Z.tn 30 rfl rfl (by kernel_rfl) rfl trivial ?_
                                      refine Z.ZO.quiet rfl (by rfl) (Z.keepS hs) (Z.Yd.nilc rfl rfl) ?_
                                      refine Z.tk (Dn := fun j => j != 33) (i := 30) (fun _ => ⟨_, hs, by first | (simp; done) | exact fun e he => List.mem_append_right _ he⟩) ?_
                                      refine Z.tn 31 rfl rfl (by kernel_rfl) rfl trivial ?_
                                      refine Z.ZO.quiet rfl (by rfl) (Z.keepS hs) (Z.Yd.fieldA (m := 0) rfl (by kernel_rfl)) ?_
                                      refine Z.tk (Dn := fun j => j != 33) (i := 31) (fun _ => ⟨_, hs, by first | (simp; done) | exact fun e he => List.mem_append_right _ he⟩) ?_
                                      refine Z.t 32 rfl rfl rfl (by rfl) (by kernel_rfl) ⟨_, hs, by first | (simp; done) | exact fun e he => List.mem_append_right _ he⟩ (Z.Yd.fieldA (m := 2) rfl (by kernel_rfl)) ?_
                                      refine Z.tn 33 rfl rfl (by kernel_rfl) rfl trivial ?_
                                      first | refine Z.ZO.store rfl rfl hs Try.sizeOf4 rfl rfl rfl (by first | exact SX.at0 | exact SX.at1 | exact SX.at2 | exact SX.at3 | exact SX.at4 | exact SX.at5 | exact Z.at6 | exact Z.at7 | exact Z.at8 | exact Z.at9 | exact Z.at10 | exact Z.at11 | exact Z.at12) (by first | (simp; done) | (simp; omega)) ?_ | refine Z.ZO.storeR rfl rfl hs Try.sizeOf4 rfl rfl rfl (by first | exact SX.at0 | exact SX.at1 | exact SX.at2 | exact SX.at3 | exact SX.at4 | exact SX.at5 | exact Z.at6 | exact Z.at7 | exact Z.at8 | exact Z.at9 | exact Z.at10 | exact Z.at11 | exact Z.at12) (by first | omega | (simp [ints_length]; done) | (simp [ints_length]; omega)) ?_
                                      clear hs; intro ws hs
                                      simp only [Nat.zero_add, Nat.add_zero, Nat.reduceAdd, Int.reduceToNat, Nat.reduceMul, List.set_cons_zero, List.set_cons_succ, List.setIfInBounds_toArray] at hs
                                      refine Z.tk (Dn := fun j => j != 33) (i := 33) (fun h => absurd h (by decide)) ?_
                                      refine Z.td (by rfl) (by kernel_rfl) ?_
                                      refine Z.only [] rfl ?_
                                      refine Z.nthen ?_
                                      first | exact Z.meet () trivial (by rw [show X = true by rw [hX]; simp_all]; exact hs) | exact Z.meet () trivial (by rw [show X = chgV m.c3 h m.told by rw [hX]; simp_all]; exact hs)
                                      )
                                )
                          · first
                              | (exfalso; simp at hsp119 <;> omega)
                              | (
                                refine Z.yes (s := 119) (b := false) rfl hsp119 rfl ?_
                                (try simp at hsp119)
                                refine Z.tn 24 rfl rfl (by kernel_rfl) rfl (by exact ⟨rfl, trivial⟩) ?_
                                refine Z.ZO.call rfl rfl (by rfl) rfl rfl Try.call27 rfl (rp_due g { m with reg := R, per := Q, now := t, b0 := a, b1 := b, b2 := c, b3 := d, head := h } m.c2 m.lastP _ (hs.celOf (by first | ((repeat (first | exact List.mem_cons_self | refine List.mem_cons_of_mem _ ?_ | refine List.mem_append_right _ ?_)); done) | fail)) ⟨by show 0 ≤ t; omega, u2⟩ h9) ?_
                                rintro v12_24 w12_24 ⟨rfl, hy⟩
                                replace hs := hs.call hy
                                clear hy
                                try simp only [List.cons_append, List.nil_append, List.append_nil] at hs
                                refine Z.tk (Dn := fun j => j != 33) (i := 24) (fun _ => ⟨_, hs, by first | (simp; done) | exact fun e he => List.mem_append_right _ he⟩) ?_
                                refine Z.t 25 rfl rfl rfl (by rfl) (by kernel_rfl) ⟨_, hs, by first | (simp; done) | exact fun e he => List.mem_append_right _ he⟩ (Z.Yd.pickF rfl rfl) ?_
                                refine Z.tb [26, 27] (by kernel_rfl) rfl ⟨_, hs, by first | (simp; done) | exact fun e he => List.mem_append_right _ he⟩ rfl ?_
                                refine Z.split (s := 132) rfl (fun hsp132 => ?_) (fun hsp132 => ?_)
                                · first
                                    | (exfalso; simp at hsp132 <;> omega)
                                    | (
                                      refine Z.yes (s := 132) (b := true) rfl hsp132 rfl ?_
                                      (try simp at hsp132)
                                      refine Z.yes (s := 119) (b := false) rfl rfl rfl ?_
                                      refine Z.tnS 132 false 28 rfl rfl (by kernel_rfl) rfl rfl (by simp) rfl (by rfl) (fun _ => ⟨_, hs, by first | (simp; done) | exact fun e he => List.mem_append_right _ he⟩) ?_
                                      refine Z.t 29 rfl rfl rfl (by rfl) (by kernel_rfl) ⟨_, hs, by first | (simp; done) | exact fun e he => List.mem_append_right _ he⟩ (Z.Yd.pickT rfl rfl) ?_
                                      refine Z.tn 30 rfl rfl (by kernel_rfl) rfl trivial ?_
                                      refine Z.ZO.quiet rfl (by rfl) (Z.keepS hs) (Z.Yd.nilc rfl rfl) ?_
                                      refine Z.tk (Dn := fun j => j != 33) (i := 30) (fun _ => ⟨_, hs, by first | (simp; done) | exact fun e he => List.mem_append_right _ he⟩) ?_
                                      refine Z.tn 31 rfl rfl (by kernel_rfl) rfl trivial ?_
                                      refine Z.ZO.quiet rfl (by rfl) (Z.keepS hs) (Z.Yd.fieldA (m := 0) rfl (by kernel_rfl)) ?_
                                      refine Z.tk (Dn := fun j => j != 33) (i := 31) (fun _ => ⟨_, hs, by first | (simp; done) | exact fun e he => List.mem_append_right _ he⟩) ?_
                                      refine Z.t 32 rfl rfl rfl (by rfl) (by kernel_rfl) ⟨_, hs, by first | (simp; done) | exact fun e he => List.mem_append_right _ he⟩ (Z.Yd.fieldA (m := 2) rfl (by kernel_rfl)) ?_
                                      refine Z.tn 33 rfl rfl (by kernel_rfl) rfl trivial ?_
                                      first | refine Z.ZO.store rfl rfl hs Try.sizeOf4 rfl rfl rfl (by first | exact SX.at0 | exact SX.at1 | exact SX.at2 | exact SX.at3 | exact SX.at4 | exact SX.at5 | exact Z.at6 | exact Z.at7 | exact Z.at8 | exact Z.at9 | exact Z.at10 | exact Z.at11 | exact Z.at12) (by first | (simp; done) | (simp; omega)) ?_ | refine Z.ZO.storeR rfl rfl hs Try.sizeOf4 rfl rfl rfl (by first | exact SX.at0 | exact SX.at1 | exact SX.at2 | exact SX.at3 | exact SX.at4 | exact SX.at5 | exact Z.at6 | exact Z.at7 | exact Z.at8 | exact Z.at9 | exact Z.at10 | exact Z.at11 | exact Z.at12) (by first | omega | (simp [ints_length]; done) | (simp [ints_length]; omega)) ?_
                                      clear hs; intro ws hs
                                      simp only [Nat.zero_add, Nat.add_zero, Nat.reduceAdd, Int.reduceToNat, Nat.reduceMul, List.set_cons_zero, List.set_cons_succ, List.setIfInBounds_toArray] at hs
                                      refine Z.tk (Dn := fun j => j != 33) (i := 33) (fun h => absurd h (by decide)) ?_
                                      refine Z.td (by rfl) (by kernel_rfl) ?_
                                      refine Z.only [] rfl ?_
                                      refine Z.nthen ?_
                                      first | exact Z.meet () trivial (by rw [show X = true by rw [hX]; simp_all]; exact hs) | exact Z.meet () trivial (by rw [show X = chgV m.c3 h m.told by rw [hX]; simp_all]; exact hs)
                                      )
                                · first
                                    | (exfalso; simp at hsp132 <;> omega)
                                    | (
                                      refine Z.yes (s := 132) (b := false) rfl hsp132 rfl ?_
                                      (try simp at hsp132)
                                      refine Z.yes (s := 119) (b := false) rfl rfl rfl ?_
                                      refine Z.tn 28 rfl rfl (by kernel_rfl) rfl (by exact ⟨rfl, trivial⟩) ?_
                                      refine Z.ZO.call rfl rfl (by rfl) rfl rfl Try.call28 rfl (rp_changed g { m with reg := R, per := Q, now := t, b0 := a, b1 := b, b2 := c, b3 := d, head := h } _ (hs.celOf (by first | ((repeat (first | exact List.mem_cons_self | refine List.mem_cons_of_mem _ ?_ | refine List.mem_append_right _ ?_)); done) | fail)) u7 h10) ?_
                                      rintro v12_28 w12_28 ⟨rfl, hy⟩
                                      replace hs := hs.call hy
                                      clear hy
                                      try simp only [List.cons_append, List.nil_append, List.append_nil] at hs
                                      refine Z.tk (Dn := fun j => j != 33) (i := 28) (fun _ => ⟨_, hs, by first | (simp; done) | exact fun e he => List.mem_append_right _ he⟩) ?_
                                      refine Z.t 29 rfl rfl rfl (by rfl) (by kernel_rfl) ⟨_, hs, by first | (simp; done) | exact fun e he => List.mem_append_right _ he⟩ (Z.Yd.pickF rfl rfl) ?_
                                      refine Z.tn 30 rfl rfl (by kernel_rfl) rfl trivial ?_
                                      refine Z.ZO.quiet rfl (by rfl) (Z.keepS hs) (Z.Yd.nilc rfl rfl) ?_
                                      refine Z.tk (Dn := fun j => j != 33) (i := 30) (fun _ => ⟨_, hs, by first | (simp; done) | exact fun e he => List.mem_append_right _ he⟩) ?_
                                      refine Z.tn 31 rfl rfl (by kernel_rfl) rfl trivial ?_
                                      refine Z.ZO.quiet rfl (by rfl) (Z.keepS hs) (Z.Yd.fieldA (m := 0) rfl (by kernel_rfl)) ?_
                                      refine Z.tk (Dn := fun j => j != 33) (i := 31) (fun _ => ⟨_, hs, by first | (simp; done) | exact fun e he => List.mem_append_right _ he⟩) ?_
                                      refine Z.t 32 rfl rfl rfl (by rfl) (by kernel_rfl) ⟨_, hs, by first | (simp; done) | exact fun e he => List.mem_append_right _ he⟩ (Z.Yd.fieldA (m := 2) rfl (by kernel_rfl)) ?_
                                      refine Z.tn 33 rfl rfl (by kernel_rfl) rfl trivial ?_
                                      first | refine Z.ZO.store rfl rfl hs Try.sizeOf4 rfl rfl rfl (by first | exact SX.at0 | exact SX.at1 | exact SX.at2 | exact SX.at3 | exact SX.at4 | exact SX.at5 | exact Z.at6 | exact Z.at7 | exact Z.at8 | exact Z.at9 | exact Z.at10 | exact Z.at11 | exact Z.at12) (by first | (simp; done) | (simp; omega)) ?_ | refine Z.ZO.storeR rfl rfl hs Try.sizeOf4 rfl rfl rfl (by first | exact SX.at0 | exact SX.at1 | exact SX.at2 | exact SX.at3 | exact SX.at4 | exact SX.at5 | exact Z.at6 | exact Z.at7 | exact Z.at8 | exact Z.at9 | exact Z.at10 | exact Z.at11 | exact Z.at12) (by first | omega | (simp [ints_length]; done) | (simp [ints_length]; omega)) ?_
                                      clear hs; intro ws hs
                                      simp only [Nat.zero_add, Nat.add_zero, Nat.reduceAdd, Int.reduceToNat, Nat.reduceMul, List.set_cons_zero, List.set_cons_succ, List.setIfInBounds_toArray] at hs
                                      refine Z.tk (Dn := fun j => j != 33) (i := 33) (fun h => absurd h (by decide)) ?_
                                      refine Z.td (by rfl) (by kernel_rfl) ?_
                                      refine Z.only [] rfl ?_
                                      refine Z.nthen ?_
                                      first | exact Z.meet () trivial (by rw [show X = true by rw [hX]; simp_all]; exact hs) | exact Z.meet () trivial (by rw [show X = chgV m.c3 h m.told by rw [hX]; simp_all]; exact hs)
                                      )
                                )
                        · clear hs
                          rintro _ w12 hs
                          refine Z.only [] rfl ?_
                          refine Z.seq ?_
                          refine Z.seq ?_
                          refine Z.region ?_
                          refine Z.lb 1 rfl ?_
                          refine Z.lnil ?_
                          refine Z.only [8] rfl ?_
                          refine Z.nthen ?_
                          refine Z.ret ?_
                          repeat (first | refine Z.rthen ?_ | refine Z.rblock ?_ | refine Z.rscope ?_ | refine Z.rjump ?_)
                          -- ret#2
                          refine Z.out1 (by exact ⟨rfl, trivial⟩) ?_
                          first
                          | exact ⟨_, rfl, rfl, by rw [eA]; exact hs⟩
                          | exact ⟨_, rfl, by rw [show updV m t a b c d h = (m, 2) from if_neg hno], by rw [show updV m t a b c d h = (m, 2) from if_neg hno]; exact hs⟩
                      )
                )
          · first
              | (exfalso; simp at hsp22 <;> omega)
              | (
                refine Z.yes (s := 22) (b := false) rfl hsp22 rfl ?_
                (try simp at hsp22)
                refine Z.lb 1 rfl ?_
                refine Z.yes (s := 22) (b := false) rfl rfl rfl ?_
                refine Z.le rfl (by exact ⟨rfl, trivial⟩) ?_
                refine Z.ZO.litL (T' := 3) [(0, 1)] [.int .i64 0] rfl rfl (by rfl) rfl rfl (by intro W; kernel_rfl) hs ?_
                clear hs; intro g24 w24 hs
                refine Z.le rfl (by exact ⟨rfl, trivial⟩) ?_
                refine Z.ZO.call rfl rfl (by rfl) rfl rfl Try.call23 rfl (rp_within _ _ _ [h] 63 _ (hs.blkSl (by first | ((repeat (first | exact List.mem_cons_self | refine List.mem_cons_of_mem _ ?_ | refine List.mem_append_right _ ?_)); done) | fail)) rfl (by decide) (by decide)) ?_
                rintro v5_12 w5_12 ⟨rfl, hy⟩
                replace hs := hs.call hy
                clear hy
                try simp only [List.cons_append, List.nil_append, List.append_nil] at hs
                refine Z.lb 1 rfl ?_
                refine Z.yes (s := 22) (b := false) rfl rfl rfl ?_
                refine Z.l rfl rfl (by rfl) (Z.keepS hs) (Z.Yd.pickF rfl rfl) ?_
                refine Z.lnil ?_
                refine Z.only [0, 1, 3, 6, 8, 27] rfl ?_
                refine Z.nthen ?_
                refine Z.cond rfl (fun hc5 => ?_) (fun hc5 => ?_)
                · first
                    | (exfalso; simp at hc5 <;> omega)
                    | (
                      (try simp at hc5)
                      have hno : ¬ okU m t a b c d h := by intro ⟨hh, hh2, hh3⟩; first | omega | exact absurd hh2 (by assumption) | exact absurd hh3 (by assumption) | simp_all
                      refine Z.goto ?_
                      refine Z.gthen ?_
                      refine Z.gjump ?_
                      first | exact Z.meet () (by refine ⟨?_, trivial⟩ <;> (first | rfl | (refine Z.lookv rfl ?_; simp; done) | (refine Z.lookv rfl ?_; simp; omega))) ⟨by assumption, hs.sel [1] (by decide)⟩ | exact Z.meet () (by refine ⟨?_, trivial⟩ <;> (first | rfl | (refine Z.lookv rfl ?_; simp; done) | (refine Z.lookv rfl ?_; simp; omega))) ⟨by assumption, hs.sel [2] (by decide)⟩
                      )
                · first
                    | (exfalso; simp at hc5 <;> omega)
                    | (
                      (try simp at hc5)
                      have hok : okU m t a b c d h := by unfold okU; first | (simp_all; done) | (refine ⟨by omega, ?_, ?_⟩ <;> simp_all)
                      have eU : updV m t a b c d h = (updG m t a b c d h, 0) := if_pos hok
                      obtain ⟨⟨u1, u2⟩, ⟨u3, u4, u5, u6⟩, u7⟩ := (okU_iff m t a b c d h).1 hok
                      rw [eU]
                      refine Z.skip ?_
                      refine Z.nthen ?_
                      refine Z.seq ?_
                      refine Z.drawK (fun _ => true) mixed hs ?_
                      clear hs; intro wd6 hs
                      refine Z.tb [0] (by kernel_rfl) rfl ⟨_, hs, by first | (simp; done) | exact fun e he => List.mem_append_right _ he⟩ rfl ?_
                      refine Z.t 1 rfl rfl rfl (by rfl) (by kernel_rfl) ⟨_, hs, by first | (simp; done) | exact fun e he => List.mem_append_right _ he⟩ (Z.Yd.nilc rfl rfl) ?_
                      refine Z.t 2 rfl rfl rfl (by rfl) (by kernel_rfl) ⟨_, hs, by first | (simp; done) | exact fun e he => List.mem_append_right _ he⟩ (Z.Yd.fieldA (m := 10) rfl (by kernel_rfl)) ?_
                      refine Z.t 3 rfl rfl rfl (by rfl) (by kernel_rfl) ⟨_, hs, by first | (simp; done) | exact fun e he => List.mem_append_right _ he⟩ (Z.Yd.loadA _ rfl Try.isAgg22 (fun _ => Z.cellsBo (cs := m.cells) [.int .i64 (m).b0, .int .i64 (m).b1, .int .i64 (m).b2, .int .i64 (m).b3] (by first | ((repeat (first | exact List.mem_cons_self | refine List.mem_cons_of_mem _ ?_ | refine List.mem_append_right _ ?_)); done) | fail) ⟨[_, _, _, _], rfl⟩) (by exact Try.sizeOf22)) ?_
                      refine Z.t 5 rfl rfl rfl (by rfl) (by kernel_rfl) ⟨_, hs, by first | (simp; done) | exact fun e he => List.mem_append_right _ he⟩ (by first | exact Z.Yd.loadA _ rfl Try.isAgg22 (fun _ => Z.cellsB (by first | ((repeat (first | exact List.mem_cons_self | refine List.mem_cons_of_mem _ ?_ | refine List.mem_append_right _ ?_)); done) | fail)) (by exact Try.sizeOf22) | fail "load 6.5") ?_
                      refine Z.tn 4 rfl rfl (by kernel_rfl) rfl trivial ?_
                      refine Z.ZO.call rfl rfl (by rfl) rfl rfl Try.call26 rfl (rp_group m.b0 m.b1 m.b2 m.b3 _) ?_
                      rintro v6_4 w6_4 ⟨rfl, hy⟩
                      replace hs := hs.call hy
                      clear hy
                      try simp only [List.cons_append, List.nil_append, List.append_nil] at hs
                      refine Z.tk (Dn := fun _ => true) (i := 4) (fun _ => ⟨_, hs, by first | (simp; done) | exact fun e he => List.mem_append_right _ he⟩) ?_
                      refine Z.tn 6 rfl rfl (by kernel_rfl) rfl trivial ?_
                      refine Z.ZO.call rfl rfl (by rfl) rfl rfl Try.call26 rfl (rp_group a b c d _) ?_
                      rintro v6_6 w6_6 ⟨rfl, hy⟩
                      replace hs := hs.call hy
                      clear hy
                      try simp only [List.cons_append, List.nil_append, List.append_nil] at hs
                      refine Z.tk (Dn := fun _ => true) (i := 6) (fun _ => ⟨_, hs, by first | (simp; done) | exact fun e he => List.mem_append_right _ he⟩) ?_
                      refine Z.tb [7, 8] (by kernel_rfl) rfl ⟨_, hs, by first | (simp; done) | exact fun e he => List.mem_append_right _ he⟩ rfl ?_
                      refine Z.td (by rfl) (by kernel_rfl) ?_
                      refine Z.only [0, 1, 3, 6, 9, 10] rfl ?_
                      refine Z.nthen ?_
                      refine Z.seq ?_
                      refine Z.region ?_
                      refine Z.lb 4 rfl ?_
                      refine Z.l rfl rfl (by rfl) (Z.keepS hs) (by first | exact Z.Yd.loadA _ rfl Try.isAgg22 (fun _ => Z.cellsB (by first | ((repeat (first | exact List.mem_cons_self | refine List.mem_cons_of_mem _ ?_ | refine List.mem_append_right _ ?_)); done) | fail)) (by exact Try.sizeOf22) | fail "load 7.4") ?_
                      refine Z.lb 1 rfl ?_
                      refine Z.l rfl rfl (by rfl) (Z.keepS hs) (Z.Yd.nilc rfl rfl) ?_
                      refine Z.l rfl rfl (by rfl) (Z.keepS hs) (Z.Yd.fieldA (m := 9) rfl (by kernel_rfl)) ?_
                      refine Z.le rfl trivial ?_
                      first | refine Z.ZO.store rfl rfl hs Try.sizeOf3 rfl rfl rfl (by first | exact SX.at0 | exact SX.at1 | exact SX.at2 | exact SX.at3 | exact SX.at4 | exact SX.at5 | exact Z.at6 | exact Z.at7 | exact Z.at8 | exact Z.at9 | exact Z.at10 | exact Z.at11 | exact Z.at12) (by first | (simp; done) | (simp; omega)) ?_ | refine Z.ZO.storeR rfl rfl hs Try.sizeOf3 rfl rfl rfl (by first | exact SX.at0 | exact SX.at1 | exact SX.at2 | exact SX.at3 | exact SX.at4 | exact SX.at5 | exact Z.at6 | exact Z.at7 | exact Z.at8 | exact Z.at9 | exact Z.at10 | exact Z.at11 | exact Z.at12) (by first | omega | (simp [ints_length]; done) | (simp [ints_length]; omega)) ?_
                      clear hs; intro ws hs
                      simp only [Nat.zero_add, Nat.add_zero, Nat.reduceAdd, Int.reduceToNat, Nat.reduceMul, List.set_cons_zero, List.set_cons_succ, List.setIfInBounds_toArray] at hs
                      refine Z.l rfl rfl (by rfl) (Z.keepS hs) (Z.Yd.nilc rfl rfl) ?_
                      refine Z.l rfl rfl (by rfl) (Z.keepS hs) (Z.Yd.fieldA (m := 10) rfl (by kernel_rfl)) ?_
                      refine Z.le rfl trivial ?_
                      first | refine Z.ZO.storeA rfl rfl hs rfl rfl (by kernel_rfl) (by first | (simp [Value.oneCell']; done) | (refine Z.all_one ?_; assumption)) (by first | exact SX.at0 | exact SX.at1 | exact SX.at2 | exact SX.at3 | exact SX.at4 | exact SX.at5 | exact Z.at6 | exact Z.at7 | exact Z.at8 | exact Z.at9 | exact Z.at10 | exact Z.at11 | exact Z.at12) (by rfl) ?_ | refine Z.ZO.storeP rfl rfl hs rfl rfl (by kernel_rfl) (by first | (simp [Value.oneCell']; done) | (refine Z.all_one ?_; assumption)) (by first | exact SX.at0 | exact SX.at1 | exact SX.at2 | exact SX.at3 | exact SX.at4 | exact SX.at5 | exact Z.at6 | exact Z.at7 | exact Z.at8 | exact Z.at9 | exact Z.at10 | exact Z.at11 | exact Z.at12) (by first | decide | (simp; done) | (simp; omega)) ?_ | refine Z.ZO.storePR rfl rfl hs rfl rfl (by kernel_rfl) (by first | (simp [Value.oneCell']; done) | (refine Z.all_one ?_; assumption)) (by first | exact SX.at0 | exact SX.at1 | exact SX.at2 | exact SX.at3 | exact SX.at4 | exact SX.at5 | exact Z.at6 | exact Z.at7 | exact Z.at8 | exact Z.at9 | exact Z.at10 | exact Z.at11 | exact Z.at12) (by first | decide | (simp; done) | (simp; omega)) ?_
                      clear hs; intro ws hs
                      simp only [Nat.zero_add, Nat.add_zero, Nat.reduceAdd, Int.reduceToNat, Nat.reduceMul, List.set_cons_zero, List.set_cons_succ, List.setIfInBounds_toArray] at hs
                      try simp only [Z.putL, Nat.zero_add] at hs
                      refine Z.l rfl rfl (by rfl) (Z.keepS hs) (Z.Yd.nilc rfl rfl) ?_
                      refine Z.l rfl rfl (by rfl) (Z.keepS hs) (Z.Yd.fieldA (m := 14) rfl (by kernel_rfl)) ?_
                      refine Z.le rfl trivial ?_
                      first | refine Z.ZO.store rfl rfl hs Try.sizeOf3 rfl rfl rfl (by first | exact SX.at0 | exact SX.at1 | exact SX.at2 | exact SX.at3 | exact SX.at4 | exact SX.at5 | exact Z.at6 | exact Z.at7 | exact Z.at8 | exact Z.at9 | exact Z.at10 | exact Z.at11 | exact Z.at12) (by first | (simp; done) | (simp; omega)) ?_ | refine Z.ZO.storeR rfl rfl hs Try.sizeOf3 rfl rfl rfl (by first | exact SX.at0 | exact SX.at1 | exact SX.at2 | exact SX.at3 | exact SX.at4 | exact SX.at5 | exact Z.at6 | exact Z.at7 | exact Z.at8 | exact Z.at9 | exact Z.at10 | exact Z.at11 | exact Z.at12) (by first | omega | (simp [ints_length]; done) | (simp [ints_length]; omega)) ?_
                      clear hs; intro ws hs
                      simp only [Nat.zero_add, Nat.add_zero, Nat.reduceAdd, Int.reduceToNat, Nat.reduceMul, List.set_cons_zero, List.set_cons_succ, List.setIfInBounds_toArray] at hs
                      refine Z.lnil ?_
                      refine Z.only [0, 9, 10] rfl ?_
                      refine Z.nthen ?_
                      refine Z.seq ?_
                      refine Z.seq ?_
                      refine Z.region ?_
                      obtain ⟨R, hR⟩ : ∃ R, R = (updG m t a b c d h).reg := ⟨_, rfl⟩
                      obtain ⟨Q, hQ⟩ : ∃ R, R = (updG m t a b c d h).per := ⟨_, rfl⟩
                      obtain ⟨X, hX⟩ : ∃ R, R = (updG m t a b c d h).pow := ⟨_, rfl⟩
                      have eA : updG m t a b c d h = { m with reg := R, per := Q, pow := X, now := t, b0 := a, b1 := b, b2 := c, b3 := d, head := h } := by rw [hR, hQ, hX]; rfl
                      simp only [updG] at hR hQ hX
                      replace hs : SX.St w M _ [SX.Ent.blk g T ({ m with now := t, b0 := a, b1 := b, b2 := c, b3 := d, head := h } : RpV).cells.toArray] := hs.sel [2] (by decide)
                      refine Z.l rfl rfl (by rfl) (Z.keepS hs) (Z.Yd.pure rfl) ?_
                      refine Z.lb 1 rfl ?_
                      refine Z.lnil ?_
                      refine Z.only [0, 9, 10, 48] rfl ?_
                      refine Z.nthen ?_
                      refine Z.cutt (ι := Unit) [0] rfl (fun _ => []) (fun _ wr => SX.St w M wr [SX.Ent.blk g T ({ m with reg := R, per := Q, now := t, b0 := a, b1 := b, b2 := c, b3 := d, head := h } : RpV).cells.toArray]) ?_ ?_
                      · skip
                        refine Z.cond rfl (fun hc8 => ?_) (fun hc8 => ?_)
                        · first
                            | (exfalso; simp at hc8 <;> omega)
                            | (
                              (try simp at hc8)
                              rw [if_pos (by assumption)] at hR hQ
                              replace hs : SX.St w M _ [SX.Ent.blk g T #[.bool ({ m with now := t, b0 := a, b1 := b, b2 := c, b3 := d, head := h }).reg, .bool ({ m with now := t, b0 := a, b1 := b, b2 := c, b3 := d, head := h }).per, .bool ({ m with now := t, b0 := a, b1 := b, b2 := c, b3 := d, head := h }).pow, .bool ({ m with now := t, b0 := a, b1 := b, b2 := c, b3 := d, head := h }).fst, .bool true, .int .i64 ({ m with now := t, b0 := a, b1 := b, b2 := c, b3 := d, head := h }).c0, .int .i64 ({ m with now := t, b0 := a, b1 := b, b2 := c, b3 := d, head := h }).c1, .int .i64 ({ m with now := t, b0 := a, b1 := b, b2 := c, b3 := d, head := h }).c2, .int .i64 ({ m with now := t, b0 := a, b1 := b, b2 := c, b3 := d, head := h }).c3, .int .i64 ({ m with now := t, b0 := a, b1 := b, b2 := c, b3 := d, head := h }).now, .int .i64 ({ m with now := t, b0 := a, b1 := b, b2 := c, b3 := d, head := h }).b0, .int .i64 ({ m with now := t, b0 := a, b1 := b, b2 := c, b3 := d, head := h }).b1, .int .i64 ({ m with now := t, b0 := a, b1 := b, b2 := c, b3 := d, head := h }).b2, .int .i64 ({ m with now := t, b0 := a, b1 := b, b2 := c, b3 := d, head := h }).b3, .int .i64 ({ m with now := t, b0 := a, b1 := b, b2 := c, b3 := d, head := h }).head, .int .i64 ({ m with now := t, b0 := a, b1 := b, b2 := c, b3 := d, head := h }).last, .int .i64 ({ m with now := t, b0 := a, b1 := b, b2 := c, b3 := d, head := h }).lastP, .int .i64 ({ m with now := t, b0 := a, b1 := b, b2 := c, b3 := d, head := h }).told]] := hs
                              refine Z.region ?_
                              refine Z.lb 2 rfl ?_
                              refine Z.l rfl rfl (by rfl) (Z.keepS hs) (Z.Yd.nilc rfl rfl) ?_
                              refine Z.l rfl rfl (by rfl) (Z.keepS hs) (Z.Yd.fieldA (m := 0) rfl (by kernel_rfl)) ?_
                              refine Z.l rfl rfl (by rfl) (Z.keepS hs) (Z.Yd.fieldA (m := 0) rfl (by kernel_rfl)) ?_
                              refine Z.le rfl trivial ?_
                              first | refine Z.ZO.store rfl rfl hs Try.sizeOf4 rfl rfl rfl (by first | exact SX.at0 | exact SX.at1 | exact SX.at2 | exact SX.at3 | exact SX.at4 | exact SX.at5 | exact Z.at6 | exact Z.at7 | exact Z.at8 | exact Z.at9 | exact Z.at10 | exact Z.at11 | exact Z.at12) (by first | (simp; done) | (simp; omega)) ?_ | refine Z.ZO.storeR rfl rfl hs Try.sizeOf4 rfl rfl rfl (by first | exact SX.at0 | exact SX.at1 | exact SX.at2 | exact SX.at3 | exact SX.at4 | exact SX.at5 | exact Z.at6 | exact Z.at7 | exact Z.at8 | exact Z.at9 | exact Z.at10 | exact Z.at11 | exact Z.at12) (by first | omega | (simp [ints_length]; done) | (simp [ints_length]; omega)) ?_
                              clear hs; intro ws hs
                              simp only [Nat.zero_add, Nat.add_zero, Nat.reduceAdd, Int.reduceToNat, Nat.reduceMul, List.set_cons_zero, List.set_cons_succ, List.setIfInBounds_toArray] at hs
                              refine Z.l rfl rfl (by rfl) (Z.keepS hs) (Z.Yd.nilc rfl rfl) ?_
                              refine Z.l rfl rfl (by rfl) (Z.keepS hs) (Z.Yd.fieldA (m := 0) rfl (by kernel_rfl)) ?_
                              refine Z.l rfl rfl (by rfl) (Z.keepS hs) (Z.Yd.fieldA (m := 1) rfl (by kernel_rfl)) ?_
                              refine Z.le rfl trivial ?_
                              first | refine Z.ZO.store rfl rfl hs Try.sizeOf4 rfl rfl rfl (by first | exact SX.at0 | exact SX.at1 | exact SX.at2 | exact SX.at3 | exact SX.at4 | exact SX.at5 | exact Z.at6 | exact Z.at7 | exact Z.at8 | exact Z.at9 | exact Z.at10 | exact Z.at11 | exact Z.at12) (by first | (simp; done) | (simp; omega)) ?_ | refine Z.ZO.storeR rfl rfl hs Try.sizeOf4 rfl rfl rfl (by first | exact SX.at0 | exact SX.at1 | exact SX.at2 | exact SX.at3 | exact SX.at4 | exact SX.at5 | exact Z.at6 | exact Z.at7 | exact Z.at8 | exact Z.at9 | exact Z.at10 | exact Z.at11 | exact Z.at12) (by first | omega | (simp [ints_length]; done) | (simp [ints_length]; omega)) ?_
                              clear hs; intro ws hs
                              simp only [Nat.zero_add, Nat.add_zero, Nat.reduceAdd, Int.reduceToNat, Nat.reduceMul, List.set_cons_zero, List.set_cons_succ, List.setIfInBounds_toArray] at hs
                              refine Z.lnil ?_
                              refine Z.only [0] rfl ?_
                              refine Z.nthen ?_
                              first | exact Z.meet () (by refine ⟨?_, trivial⟩ <;> (first | rfl | (refine Z.lookv rfl ?_; simp; done) | (refine Z.lookv rfl ?_; simp; omega))) (by rw [hR, hQ]; exact hs) | exact Z.meet () (by refine ⟨?_, trivial⟩ <;> (first | rfl | (refine Z.lookv rfl ?_; simp; done) | (refine Z.lookv rfl ?_; simp; omega))) (by rw [show Q = true by rw [hQ]; simp_all]; exact hs) | exact Z.meet () (by refine ⟨?_, trivial⟩ <;> (first | rfl | (refine Z.lookv rfl ?_; simp; done) | (refine Z.lookv rfl ?_; simp; omega))) (by rw [show Q = dueV m.c0 m.last t by rw [hQ]; simp_all]; exact hs)
                              )
                        · first
                            | (exfalso; simp at hc8 <;> omega)
                            | (
                              (try simp at hc8)
                              rw [if_neg (by assumption)] at hR hQ
                              replace hs : SX.St w M _ [SX.Ent.blk g T #[.bool ({ m with now := t, b0 := a, b1 := b, b2 := c, b3 := d, head := h }).reg, .bool ({ m with now := t, b0 := a, b1 := b, b2 := c, b3 := d, head := h }).per, .bool ({ m with now := t, b0 := a, b1 := b, b2 := c, b3 := d, head := h }).pow, .bool ({ m with now := t, b0 := a, b1 := b, b2 := c, b3 := d, head := h }).fst, .bool true, .int .i64 ({ m with now := t, b0 := a, b1 := b, b2 := c, b3 := d, head := h }).c0, .int .i64 ({ m with now := t, b0 := a, b1 := b, b2 := c, b3 := d, head := h }).c1, .int .i64 ({ m with now := t, b0 := a, b1 := b, b2 := c, b3 := d, head := h }).c2, .int .i64 ({ m with now := t, b0 := a, b1 := b, b2 := c, b3 := d, head := h }).c3, .int .i64 ({ m with now := t, b0 := a, b1 := b, b2 := c, b3 := d, head := h }).now, .int .i64 ({ m with now := t, b0 := a, b1 := b, b2 := c, b3 := d, head := h }).b0, .int .i64 ({ m with now := t, b0 := a, b1 := b, b2 := c, b3 := d, head := h }).b1, .int .i64 ({ m with now := t, b0 := a, b1 := b, b2 := c, b3 := d, head := h }).b2, .int .i64 ({ m with now := t, b0 := a, b1 := b, b2 := c, b3 := d, head := h }).b3, .int .i64 ({ m with now := t, b0 := a, b1 := b, b2 := c, b3 := d, head := h }).head, .int .i64 ({ m with now := t, b0 := a, b1 := b, b2 := c, b3 := d, head := h }).last, .int .i64 ({ m with now := t, b0 := a, b1 := b, b2 := c, b3 := d, head := h }).lastP, .int .i64 ({ m with now := t, b0 := a, b1 := b, b2 := c, b3 := d, head := h }).told]] := hs
                              refine Z.seq ?_
                              refine Z.cutt (ι := Unit) [0] rfl (fun _ => []) (fun _ wr => SX.St w M wr [SX.Ent.blk g T ({ m with reg := R, now := t, b0 := a, b1 := b, b2 := c, b3 := d, head := h } : RpV).cells.toArray]) ?_ ?_
                              · skip
                                refine Z.drawK (fun j => j != 27) mixed hs ?_
                                clear hs; intro wd10 hs
                                refine Z.tb [0, 1] (by kernel_rfl) rfl ⟨_, hs, by first | (simp; done) | exact fun e he => List.mem_append_right _ he⟩ rfl ?_
                                refine Z.t 2 rfl rfl rfl (by rfl) (by kernel_rfl) ⟨_, hs, by first | (simp; done) | exact fun e he => List.mem_append_right _ he⟩ (Z.Yd.nilc rfl rfl) ?_
                                refine Z.t 3 rfl rfl rfl (by rfl) (by kernel_rfl) ⟨_, hs, by first | (simp; done) | exact fun e he => List.mem_append_right _ he⟩ (Z.Yd.fieldA (m := 0) rfl (by kernel_rfl)) ?_
                                refine Z.t 4 rfl rfl rfl (by rfl) (by kernel_rfl) ⟨_, hs, by first | (simp; done) | exact fun e he => List.mem_append_right _ he⟩ (Z.Yd.fieldA (m := 0) rfl (by kernel_rfl)) ?_
                                refine Z.t 5 rfl rfl rfl (by rfl) (by kernel_rfl) ⟨_, hs, by first | (simp; done) | exact fun e he => List.mem_append_right _ he⟩ (by first | exact Z.Yd.load rfl Try.isAgg4 (fun _ => Z.cellB (by first | ((repeat (first | exact List.mem_cons_self | refine List.mem_cons_of_mem _ ?_ | refine List.mem_append_right _ ?_)); done) | fail) rfl) | exact Z.Yd.load rfl Try.isAgg4 (fun _ => Z.cellO (by assumption) (by simp) (by assumption)) | fail "load 10.5") ?_
                                refine Z.tb [6, 7, 8, 9, 10, 11, 12, 13] (by kernel_rfl) rfl ⟨_, hs, by first | (simp; done) | exact fun e he => List.mem_append_right _ he⟩ rfl ?_
                                refine Z.t 14 rfl rfl rfl (by rfl) (by kernel_rfl) ⟨_, hs, by first | (simp; done) | exact fun e he => List.mem_append_right _ he⟩ (Z.Yd.nilc rfl rfl) ?_
                                refine Z.t 15 rfl rfl rfl (by rfl) (by kernel_rfl) ⟨_, hs, by first | (simp; done) | exact fun e he => List.mem_append_right _ he⟩ (Z.Yd.fieldA (m := 5) rfl (by kernel_rfl)) ?_
                                refine Z.t 16 rfl rfl rfl (by rfl) (by kernel_rfl) ⟨_, hs, by first | (simp; done) | exact fun e he => List.mem_append_right _ he⟩ (Z.Yd.fieldA (m := 1) rfl (by kernel_rfl)) ?_
                                refine Z.t 17 rfl rfl rfl (by rfl) (by kernel_rfl) ⟨_, hs, by first | (simp; done) | exact fun e he => List.mem_append_right _ he⟩ (by first | exact Z.Yd.load rfl Try.isAgg3 (fun _ => Z.cellB (by first | ((repeat (first | exact List.mem_cons_self | refine List.mem_cons_of_mem _ ?_ | refine List.mem_append_right _ ?_)); done) | fail) rfl) | exact Z.Yd.load rfl Try.isAgg3 (fun _ => Z.cellO (by assumption) (by simp) (by assumption)) | fail "load 10.17") ?_
                                refine Z.tb [18] (by kernel_rfl) rfl ⟨_, hs, by first | (simp; done) | exact fun e he => List.mem_append_right _ he⟩ rfl ?_
                                refine Z.t 19 rfl rfl rfl (by rfl) (by kernel_rfl) ⟨_, hs, by first | (simp; done) | exact fun e he => List.mem_append_right _ he⟩ (Z.Yd.nilc rfl rfl) ?_
                                refine Z.t 20 rfl rfl rfl (by rfl) (by kernel_rfl) ⟨_, hs, by first | (simp; done) | exact fun e he => List.mem_append_right _ he⟩ (Z.Yd.fieldA (m := 15) rfl (by kernel_rfl)) ?_
                                refine Z.t 21 rfl rfl rfl (by rfl) (by kernel_rfl) ⟨_, hs, by first | (simp; done) | exact fun e he => List.mem_append_right _ he⟩ (by first | exact Z.Yd.load rfl Try.isAgg3 (fun _ => Z.cellB (by first | ((repeat (first | exact List.mem_cons_self | refine List.mem_cons_of_mem _ ?_ | refine List.mem_append_right _ ?_)); done) | fail) rfl) | exact Z.Yd.load rfl Try.isAgg3 (fun _ => Z.cellO (by assumption) (by simp) (by assumption)) | fail "load 10.21") ?_
                                refine Z.split (s := 68) rfl (fun hsp68 => ?_) (fun hsp68 => ?_)
                                · first
                                    | (exfalso; simp at hsp68 <;> omega)
                                    | (
                                      refine Z.yes (s := 68) (b := true) rfl hsp68 rfl ?_
                                      (try simp at hsp68)
                                      refine Z.tnS 68 false 22 rfl rfl (by kernel_rfl) rfl rfl (by simp) rfl (by rfl) (fun _ => ⟨_, hs, by first | (simp; done) | exact fun e he => List.mem_append_right _ he⟩) ?_
                                      refine Z.t 23 rfl rfl rfl (by rfl) (by kernel_rfl) ⟨_, hs, by first | (simp; done) | exact fun e he => List.mem_append_right _ he⟩ (Z.Yd.pickT rfl rfl) ?_
                                      refine Z.tn 24 rfl rfl (by kernel_rfl) rfl trivial ?_
                                      refine Z.ZO.quiet rfl (by rfl) (Z.keepS hs) (Z.Yd.nilc rfl rfl) ?_
                                      refine Z.tk (Dn := fun j => j != 27) (i := 24) (fun _ => ⟨_, hs, by first | (simp; done) | exact fun e he => List.mem_append_right _ he⟩) ?_
                                      refine Z.tn 25 rfl rfl (by kernel_rfl) rfl trivial ?_
                                      refine Z.ZO.quiet rfl (by rfl) (Z.keepS hs) (Z.Yd.fieldA (m := 0) rfl (by kernel_rfl)) ?_
                                      refine Z.tk (Dn := fun j => j != 27) (i := 25) (fun _ => ⟨_, hs, by first | (simp; done) | exact fun e he => List.mem_append_right _ he⟩) ?_
                                      refine Z.t 26 rfl rfl rfl (by rfl) (by kernel_rfl) ⟨_, hs, by first | (simp; done) | exact fun e he => List.mem_append_right _ he⟩ (Z.Yd.fieldA (m := 0) rfl (by kernel_rfl)) ?_
                                      refine Z.tn 27 rfl rfl (by kernel_rfl) rfl trivial ?_
                                      first | refine Z.ZO.store rfl rfl hs Try.sizeOf4 rfl rfl rfl (by first | exact SX.at0 | exact SX.at1 | exact SX.at2 | exact SX.at3 | exact SX.at4 | exact SX.at5 | exact Z.at6 | exact Z.at7 | exact Z.at8 | exact Z.at9 | exact Z.at10 | exact Z.at11 | exact Z.at12) (by first | (simp; done) | (simp; omega)) ?_ | refine Z.ZO.storeR rfl rfl hs Try.sizeOf4 rfl rfl rfl (by first | exact SX.at0 | exact SX.at1 | exact SX.at2 | exact SX.at3 | exact SX.at4 | exact SX.at5 | exact Z.at6 | exact Z.at7 | exact Z.at8 | exact Z.at9 | exact Z.at10 | exact Z.at11 | exact Z.at12) (by first | omega | (simp [ints_length]; done) | (simp [ints_length]; omega)) ?_
                                      clear hs; intro ws hs
                                      simp only [Nat.zero_add, Nat.add_zero, Nat.reduceAdd, Int.reduceToNat, Nat.reduceMul, List.set_cons_zero, List.set_cons_succ, List.setIfInBounds_toArray] at hs
                                      refine Z.tk (Dn := fun j => j != 27) (i := 27) (fun h => absurd h (by decide)) ?_
                                      refine Z.td (by rfl) (by kernel_rfl) ?_
                                      refine Z.only [0] rfl ?_
                                      refine Z.nthen ?_
                                      first | exact Z.meet () (by refine ⟨?_, trivial⟩ <;> (first | rfl | (refine Z.lookv rfl ?_; simp; done) | (refine Z.lookv rfl ?_; simp; omega))) (by rw [show R = true by rw [hR]; simp_all]; exact hs) | exact Z.meet () (by refine ⟨?_, trivial⟩ <;> (first | rfl | (refine Z.lookv rfl ?_; simp; done) | (refine Z.lookv rfl ?_; simp; omega))) (by rw [show R = dueV m.c1 m.last t by rw [hR]; simp_all; intro _; omega]; exact hs)
                                      )
                                · first
                                    | (exfalso; simp at hsp68 <;> omega)
                                    | (
                                      refine Z.yes (s := 68) (b := false) rfl hsp68 rfl ?_
                                      (try simp at hsp68)
                                      refine Z.tn 22 rfl rfl (by kernel_rfl) rfl (by exact ⟨rfl, trivial⟩) ?_
                                      refine Z.ZO.call rfl rfl (by rfl) rfl rfl Try.call27 rfl (rp_due g { m with now := t, b0 := a, b1 := b, b2 := c, b3 := d, head := h } m.c1 m.last _ (hs.celOf (by first | ((repeat (first | exact List.mem_cons_self | refine List.mem_cons_of_mem _ ?_ | refine List.mem_append_right _ ?_)); done) | fail)) ⟨by show 0 ≤ t; omega, u2⟩ h8) ?_
                                      rintro v10_22 w10_22 ⟨rfl, hy⟩
                                      replace hs := hs.call hy
                                      clear hy
                                      try simp only [List.cons_append, List.nil_append, List.append_nil] at hs
                                      refine Z.tk (Dn := fun j => j != 27) (i := 22) (fun _ => ⟨_, hs, by first | (simp; done) | exact fun e he => List.mem_append_right _ he⟩) ?_
                                      refine Z.t 23 rfl rfl rfl (by rfl) (by kernel_rfl) ⟨_, hs, by first | (simp; done) | exact fun e he => List.mem_append_right _ he⟩ (Z.Yd.pickF rfl rfl) ?_
                                      refine Z.tn 24 rfl rfl (by kernel_rfl) rfl trivial ?_
                                      refine Z.ZO.quiet rfl (by rfl) (Z.keepS hs) (Z.Yd.nilc rfl rfl) ?_
                                      refine Z.tk (Dn := fun j => j != 27) (i := 24) (fun _ => ⟨_, hs, by first | (simp; done) | exact fun e he => List.mem_append_right _ he⟩) ?_
                                      refine Z.tn 25 rfl rfl (by kernel_rfl) rfl trivial ?_
                                      refine Z.ZO.quiet rfl (by rfl) (Z.keepS hs) (Z.Yd.fieldA (m := 0) rfl (by kernel_rfl)) ?_
                                      refine Z.tk (Dn := fun j => j != 27) (i := 25) (fun _ => ⟨_, hs, by first | (simp; done) | exact fun e he => List.mem_append_right _ he⟩) ?_
                                      refine Z.t 26 rfl rfl rfl (by rfl) (by kernel_rfl) ⟨_, hs, by first | (simp; done) | exact fun e he => List.mem_append_right _ he⟩ (Z.Yd.fieldA (m := 0) rfl (by kernel_rfl)) ?_
                                      refine Z.tn 27 rfl rfl (by kernel_rfl) rfl trivial ?_
                                      first | refine Z.ZO.store rfl rfl hs Try.sizeOf4 rfl rfl rfl (by first | exact SX.at0 | exact SX.at1 | exact SX.at2 | exact SX.at3 | exact SX.at4 | exact SX.at5 | exact Z.at6 | exact Z.at7 | exact Z.at8 | exact Z.at9 | exact Z.at10 | exact Z.at11 | exact Z.at12) (by first | (simp; done) | (simp; omega)) ?_ | refine Z.ZO.storeR rfl rfl hs Try.sizeOf4 rfl rfl rfl (by first | exact SX.at0 | exact SX.at1 | exact SX.at2 | exact SX.at3 | exact SX.at4 | exact SX.at5 | exact Z.at6 | exact Z.at7 | exact Z.at8 | exact Z.at9 | exact Z.at10 | exact Z.at11 | exact Z.at12) (by first | omega | (simp [ints_length]; done) | (simp [ints_length]; omega)) ?_
                                      clear hs; intro ws hs
                                      simp only [Nat.zero_add, Nat.add_zero, Nat.reduceAdd, Int.reduceToNat, Nat.reduceMul, List.set_cons_zero, List.set_cons_succ, List.setIfInBounds_toArray] at hs
                                      refine Z.tk (Dn := fun j => j != 27) (i := 27) (fun h => absurd h (by decide)) ?_
                                      refine Z.td (by rfl) (by kernel_rfl) ?_
                                      refine Z.only [0] rfl ?_
                                      refine Z.nthen ?_
                                      first | exact Z.meet () (by refine ⟨?_, trivial⟩ <;> (first | rfl | (refine Z.lookv rfl ?_; simp; done) | (refine Z.lookv rfl ?_; simp; omega))) (by rw [show R = true by rw [hR]; simp_all]; exact hs) | exact Z.meet () (by refine ⟨?_, trivial⟩ <;> (first | rfl | (refine Z.lookv rfl ?_; simp; done) | (refine Z.lookv rfl ?_; simp; omega))) (by rw [show R = dueV m.c1 m.last t by rw [hR]; simp_all; intro _; omega]; exact hs)
                                      )
                              · clear hs
                                rintro _ w10 hs
                                refine Z.only [0] rfl ?_
                                replace hs : SX.St w M w10 [SX.Ent.blk g T #[.bool ({ m with reg := R, now := t, b0 := a, b1 := b, b2 := c, b3 := d, head := h }).reg, .bool ({ m with reg := R, now := t, b0 := a, b1 := b, b2 := c, b3 := d, head := h }).per, .bool ({ m with reg := R, now := t, b0 := a, b1 := b, b2 := c, b3 := d, head := h }).pow, .bool ({ m with reg := R, now := t, b0 := a, b1 := b, b2 := c, b3 := d, head := h }).fst, .bool true, .int .i64 ({ m with reg := R, now := t, b0 := a, b1 := b, b2 := c, b3 := d, head := h }).c0, .int .i64 ({ m with reg := R, now := t, b0 := a, b1 := b, b2 := c, b3 := d, head := h }).c1, .int .i64 ({ m with reg := R, now := t, b0 := a, b1 := b, b2 := c, b3 := d, head := h }).c2, .int .i64 ({ m with reg := R, now := t, b0 := a, b1 := b, b2 := c, b3 := d, head := h }).c3, .int .i64 ({ m with reg := R, now := t, b0 := a, b1 := b, b2 := c, b3 := d, head := h }).now, .int .i64 ({ m with reg := R, now := t, b0 := a, b1 := b, b2 := c, b3 := d, head := h }).b0, .int .i64 ({ m with reg := R, now := t, b0 := a, b1 := b, b2 := c, b3 := d, head := h }).b1, .int .i64 ({ m with reg := R, now := t, b0 := a, b1 := b, b2 := c, b3 := d, head := h }).b2, .int .i64 ({ m with reg := R, now := t, b0 := a, b1 := b, b2 := c, b3 := d, head := h }).b3, .int .i64 ({ m with reg := R, now := t, b0 := a, b1 := b, b2 := c, b3 := d, head := h }).head, .int .i64 ({ m with reg := R, now := t, b0 := a, b1 := b, b2 := c, b3 := d, head := h }).last, .int .i64 ({ m with reg := R, now := t, b0 := a, b1 := b, b2 := c, b3 := d, head := h }).lastP, .int .i64 ({ m with reg := R, now := t, b0 := a, b1 := b, b2 := c, b3 := d, head := h }).told]] := hs
                                refine Z.drawK (fun j => j != 22) mixed hs ?_
                                clear hs; intro wd11 hs
                                refine Z.tb [0, 1] (by kernel_rfl) rfl ⟨_, hs, by first | (simp; done) | exact fun e he => List.mem_append_right _ he⟩ rfl ?_
                                refine Z.t 2 rfl rfl rfl (by rfl) (by kernel_rfl) ⟨_, hs, by first | (simp; done) | exact fun e he => List.mem_append_right _ he⟩ (Z.Yd.nilc rfl rfl) ?_
                                refine Z.t 3 rfl rfl rfl (by rfl) (by kernel_rfl) ⟨_, hs, by first | (simp; done) | exact fun e he => List.mem_append_right _ he⟩ (Z.Yd.fieldA (m := 0) rfl (by kernel_rfl)) ?_
                                refine Z.t 4 rfl rfl rfl (by rfl) (by kernel_rfl) ⟨_, hs, by first | (simp; done) | exact fun e he => List.mem_append_right _ he⟩ (Z.Yd.fieldA (m := 1) rfl (by kernel_rfl)) ?_
                                refine Z.t 5 rfl rfl rfl (by rfl) (by kernel_rfl) ⟨_, hs, by first | (simp; done) | exact fun e he => List.mem_append_right _ he⟩ (by first | exact Z.Yd.load rfl Try.isAgg4 (fun _ => Z.cellB (by first | ((repeat (first | exact List.mem_cons_self | refine List.mem_cons_of_mem _ ?_ | refine List.mem_append_right _ ?_)); done) | fail) rfl) | exact Z.Yd.load rfl Try.isAgg4 (fun _ => Z.cellO (by assumption) (by simp) (by assumption)) | fail "load 11.5") ?_
                                refine Z.tb [6, 7, 8] (by kernel_rfl) rfl ⟨_, hs, by first | (simp; done) | exact fun e he => List.mem_append_right _ he⟩ rfl ?_
                                refine Z.t 9 rfl rfl rfl (by rfl) (by kernel_rfl) ⟨_, hs, by first | (simp; done) | exact fun e he => List.mem_append_right _ he⟩ (Z.Yd.nilc rfl rfl) ?_
                                refine Z.t 10 rfl rfl rfl (by rfl) (by kernel_rfl) ⟨_, hs, by first | (simp; done) | exact fun e he => List.mem_append_right _ he⟩ (Z.Yd.fieldA (m := 5) rfl (by kernel_rfl)) ?_
                                refine Z.t 11 rfl rfl rfl (by rfl) (by kernel_rfl) ⟨_, hs, by first | (simp; done) | exact fun e he => List.mem_append_right _ he⟩ (Z.Yd.fieldA (m := 0) rfl (by kernel_rfl)) ?_
                                refine Z.t 12 rfl rfl rfl (by rfl) (by kernel_rfl) ⟨_, hs, by first | (simp; done) | exact fun e he => List.mem_append_right _ he⟩ (by first | exact Z.Yd.load rfl Try.isAgg3 (fun _ => Z.cellB (by first | ((repeat (first | exact List.mem_cons_self | refine List.mem_cons_of_mem _ ?_ | refine List.mem_append_right _ ?_)); done) | fail) rfl) | exact Z.Yd.load rfl Try.isAgg3 (fun _ => Z.cellO (by assumption) (by simp) (by assumption)) | fail "load 11.12") ?_
                                refine Z.tb [13] (by kernel_rfl) rfl ⟨_, hs, by first | (simp; done) | exact fun e he => List.mem_append_right _ he⟩ rfl ?_
                                refine Z.t 14 rfl rfl rfl (by rfl) (by kernel_rfl) ⟨_, hs, by first | (simp; done) | exact fun e he => List.mem_append_right _ he⟩ (Z.Yd.nilc rfl rfl) ?_
                                refine Z.t 15 rfl rfl rfl (by rfl) (by kernel_rfl) ⟨_, hs, by first | (simp; done) | exact fun e he => List.mem_append_right _ he⟩ (Z.Yd.fieldA (m := 15) rfl (by kernel_rfl)) ?_
                                refine Z.t 16 rfl rfl rfl (by rfl) (by kernel_rfl) ⟨_, hs, by first | (simp; done) | exact fun e he => List.mem_append_right _ he⟩ (by first | exact Z.Yd.load rfl Try.isAgg3 (fun _ => Z.cellB (by first | ((repeat (first | exact List.mem_cons_self | refine List.mem_cons_of_mem _ ?_ | refine List.mem_append_right _ ?_)); done) | fail) rfl) | exact Z.Yd.load rfl Try.isAgg3 (fun _ => Z.cellO (by assumption) (by simp) (by assumption)) | fail "load 11.16") ?_
                                refine Z.split (s := 90) rfl (fun hsp90 => ?_) (fun hsp90 => ?_)
                                · first
                                    | (exfalso; simp at hsp90 <;> omega)
                                    | (
                                      refine Z.yes (s := 90) (b := true) rfl hsp90 rfl ?_
                                      (try simp at hsp90)
                                      refine Z.tnS 90 false 17 rfl rfl (by kernel_rfl) rfl rfl (by simp) rfl (by rfl) (fun _ => ⟨_, hs, by first | (simp; done) | exact fun e he => List.mem_append_right _ he⟩) ?_
                                      refine Z.t 18 rfl rfl rfl (by rfl) (by kernel_rfl) ⟨_, hs, by first | (simp; done) | exact fun e he => List.mem_append_right _ he⟩ (Z.Yd.pickT rfl rfl) ?_
                                      refine Z.tn 19 rfl rfl (by kernel_rfl) rfl trivial ?_
                                      refine Z.ZO.quiet rfl (by rfl) (Z.keepS hs) (Z.Yd.nilc rfl rfl) ?_
                                      refine Z.tk (Dn := fun j => j != 22) (i := 19) (fun _ => ⟨_, hs, by first | (simp; done) | exact fun e he => List.mem_append_right _ he⟩) ?_
                                      refine Z.tn 20 rfl rfl (by kernel_rfl) rfl trivial ?_
                                      refine Z.ZO.quiet rfl (by rfl) (Z.keepS hs) (Z.Yd.fieldA (m := 0) rfl (by kernel_rfl)) ?_
                                      refine Z.tk (Dn := fun j => j != 22) (i := 20) (fun _ => ⟨_, hs, by first | (simp; done) | exact fun e he => List.mem_append_right _ he⟩) ?_
                                      refine Z.t 21 rfl rfl rfl (by rfl) (by kernel_rfl) ⟨_, hs, by first | (simp; done) | exact fun e he => List.mem_append_right _ he⟩ (Z.Yd.fieldA (m := 1) rfl (by kernel_rfl)) ?_
                                      refine Z.tn 22 rfl rfl (by kernel_rfl) rfl trivial ?_
                                      first | refine Z.ZO.store rfl rfl hs Try.sizeOf4 rfl rfl rfl (by first | exact SX.at0 | exact SX.at1 | exact SX.at2 | exact SX.at3 | exact SX.at4 | exact SX.at5 | exact Z.at6 | exact Z.at7 | exact Z.at8 | exact Z.at9 | exact Z.at10 | exact Z.at11 | exact Z.at12) (by first | (simp; done) | (simp; omega)) ?_ | refine Z.ZO.storeR rfl rfl hs Try.sizeOf4 rfl rfl rfl (by first | exact SX.at0 | exact SX.at1 | exact SX.at2 | exact SX.at3 | exact SX.at4 | exact SX.at5 | exact Z.at6 | exact Z.at7 | exact Z.at8 | exact Z.at9 | exact Z.at10 | exact Z.at11 | exact Z.at12) (by first | omega | (simp [ints_length]; done) | (simp [ints_length]; omega)) ?_
                                      clear hs; intro ws hs
                                      simp only [Nat.zero_add, Nat.add_zero, Nat.reduceAdd, Int.reduceToNat, Nat.reduceMul, List.set_cons_zero, List.set_cons_succ, List.setIfInBounds_toArray] at hs
                                      refine Z.tk (Dn := fun j => j != 22) (i := 22) (fun h => absurd h (by decide)) ?_
                                      refine Z.td (by rfl) (by kernel_rfl) ?_
                                      refine Z.only [0] rfl ?_
                                      refine Z.nthen ?_
                                      first | exact Z.meet () (by refine ⟨?_, trivial⟩ <;> (first | rfl | (refine Z.lookv rfl ?_; simp; done) | (refine Z.lookv rfl ?_; simp; omega))) (by rw [hR, hQ]; exact hs) | exact Z.meet () (by refine ⟨?_, trivial⟩ <;> (first | rfl | (refine Z.lookv rfl ?_; simp; done) | (refine Z.lookv rfl ?_; simp; omega))) (by rw [show Q = true by rw [hQ]; simp_all]; exact hs) | exact Z.meet () (by refine ⟨?_, trivial⟩ <;> (first | rfl | (refine Z.lookv rfl ?_; simp; done) | (refine Z.lookv rfl ?_; simp; omega))) (by rw [show Q = dueV m.c0 m.last t by rw [hQ]; simp_all]; exact hs)
                                      )
                                · first
                                    | (exfalso; simp at hsp90 <;> omega)
                                    | (
                                      refine Z.yes (s := 90) (b := false) rfl hsp90 rfl ?_
                                      (try simp at hsp90)
                                      refine Z.tn 17 rfl rfl (by kernel_rfl) rfl (by exact ⟨rfl, trivial⟩) ?_
                                      refine Z.ZO.call rfl rfl (by rfl) rfl rfl Try.call27 rfl (rp_due g { m with reg := R, now := t, b0 := a, b1 := b, b2 := c, b3 := d, head := h } m.c0 m.last _ (hs.celOf (by first | ((repeat (first | exact List.mem_cons_self | refine List.mem_cons_of_mem _ ?_ | refine List.mem_append_right _ ?_)); done) | fail)) ⟨by show 0 ≤ t; omega, u2⟩ h8) ?_
                                      rintro v11_17 w11_17 ⟨rfl, hy⟩
                                      replace hs := hs.call hy
                                      clear hy
                                      try simp only [List.cons_append, List.nil_append, List.append_nil] at hs
                                      refine Z.tk (Dn := fun j => j != 22) (i := 17) (fun _ => ⟨_, hs, by first | (simp; done) | exact fun e he => List.mem_append_right _ he⟩) ?_
                                      refine Z.t 18 rfl rfl rfl (by rfl) (by kernel_rfl) ⟨_, hs, by first | (simp; done) | exact fun e he => List.mem_append_right _ he⟩ (Z.Yd.pickF rfl rfl) ?_
                                      refine Z.tn 19 rfl rfl (by kernel_rfl) rfl trivial ?_
                                      refine Z.ZO.quiet rfl (by rfl) (Z.keepS hs) (Z.Yd.nilc rfl rfl) ?_
                                      refine Z.tk (Dn := fun j => j != 22) (i := 19) (fun _ => ⟨_, hs, by first | (simp; done) | exact fun e he => List.mem_append_right _ he⟩) ?_
                                      refine Z.tn 20 rfl rfl (by kernel_rfl) rfl trivial ?_
                                      refine Z.ZO.quiet rfl (by rfl) (Z.keepS hs) (Z.Yd.fieldA (m := 0) rfl (by kernel_rfl)) ?_
                                      refine Z.tk (Dn := fun j => j != 22) (i := 20) (fun _ => ⟨_, hs, by first | (simp; done) | exact fun e he => List.mem_append_right _ he⟩) ?_
                                      refine Z.t 21 rfl rfl rfl (by rfl) (by kernel_rfl) ⟨_, hs, by first | (simp; done) | exact fun e he => List.mem_append_right _ he⟩ (Z.Yd.fieldA (m := 1) rfl (by kernel_rfl)) ?_
                                      refine Z.tn 22 rfl rfl (by kernel_rfl) rfl trivial ?_
                                      first | refine Z.ZO.store rfl rfl hs Try.sizeOf4 rfl rfl rfl (by first | exact SX.at0 | exact SX.at1 | exact SX.at2 | exact SX.at3 | exact SX.at4 | exact SX.at5 | exact Z.at6 | exact Z.at7 | exact Z.at8 | exact Z.at9 | exact Z.at10 | exact Z.at11 | exact Z.at12) (by first | (simp; done) | (simp; omega)) ?_ | refine Z.ZO.storeR rfl rfl hs Try.sizeOf4 rfl rfl rfl (by first | exact SX.at0 | exact SX.at1 | exact SX.at2 | exact SX.at3 | exact SX.at4 | exact SX.at5 | exact Z.at6 | exact Z.at7 | exact Z.at8 | exact Z.at9 | exact Z.at10 | exact Z.at11 | exact Z.at12) (by first | omega | (simp [ints_length]; done) | (simp [ints_length]; omega)) ?_
                                      clear hs; intro ws hs
                                      simp only [Nat.zero_add, Nat.add_zero, Nat.reduceAdd, Int.reduceToNat, Nat.reduceMul, List.set_cons_zero, List.set_cons_succ, List.setIfInBounds_toArray] at hs
                                      refine Z.tk (Dn := fun j => j != 22) (i := 22) (fun h => absurd h (by decide)) ?_
                                      refine Z.td (by rfl) (by kernel_rfl) ?_
                                      refine Z.only [0] rfl ?_
                                      refine Z.nthen ?_
                                      first | exact Z.meet () (by refine ⟨?_, trivial⟩ <;> (first | rfl | (refine Z.lookv rfl ?_; simp; done) | (refine Z.lookv rfl ?_; simp; omega))) (by rw [hR, hQ]; exact hs) | exact Z.meet () (by refine ⟨?_, trivial⟩ <;> (first | rfl | (refine Z.lookv rfl ?_; simp; done) | (refine Z.lookv rfl ?_; simp; omega))) (by rw [show Q = true by rw [hQ]; simp_all]; exact hs) | exact Z.meet () (by refine ⟨?_, trivial⟩ <;> (first | rfl | (refine Z.lookv rfl ?_; simp; done) | (refine Z.lookv rfl ?_; simp; omega))) (by rw [show Q = dueV m.c0 m.last t by rw [hQ]; simp_all]; exact hs)
                                      )
                              )
                      · clear hs
                        rintro _ w8 hs
                        refine Z.only [0] rfl ?_
                        replace hs : SX.St w M w8 [SX.Ent.blk g T #[.bool ({ m with reg := R, per := Q, now := t, b0 := a, b1 := b, b2 := c, b3 := d, head := h }).reg, .bool ({ m with reg := R, per := Q, now := t, b0 := a, b1 := b, b2 := c, b3 := d, head := h }).per, .bool ({ m with reg := R, per := Q, now := t, b0 := a, b1 := b, b2 := c, b3 := d, head := h }).pow, .bool ({ m with reg := R, per := Q, now := t, b0 := a, b1 := b, b2 := c, b3 := d, head := h }).fst, .bool true, .int .i64 ({ m with reg := R, per := Q, now := t, b0 := a, b1 := b, b2 := c, b3 := d, head := h }).c0, .int .i64 ({ m with reg := R, per := Q, now := t, b0 := a, b1 := b, b2 := c, b3 := d, head := h }).c1, .int .i64 ({ m with reg := R, per := Q, now := t, b0 := a, b1 := b, b2 := c, b3 := d, head := h }).c2, .int .i64 ({ m with reg := R, per := Q, now := t, b0 := a, b1 := b, b2 := c, b3 := d, head := h }).c3, .int .i64 ({ m with reg := R, per := Q, now := t, b0 := a, b1 := b, b2 := c, b3 := d, head := h }).now, .int .i64 ({ m with reg := R, per := Q, now := t, b0 := a, b1 := b, b2 := c, b3 := d, head := h }).b0, .int .i64 ({ m with reg := R, per := Q, now := t, b0 := a, b1 := b, b2 := c, b3 := d, head := h }).b1, .int .i64 ({ m with reg := R, per := Q, now := t, b0 := a, b1 := b, b2 := c, b3 := d, head := h }).b2, .int .i64 ({ m with reg := R, per := Q, now := t, b0 := a, b1 := b, b2 := c, b3 := d, head := h }).b3, .int .i64 ({ m with reg := R, per := Q, now := t, b0 := a, b1 := b, b2 := c, b3 := d, head := h }).head, .int .i64 ({ m with reg := R, per := Q, now := t, b0 := a, b1 := b, b2 := c, b3 := d, head := h }).last, .int .i64 ({ m with reg := R, per := Q, now := t, b0 := a, b1 := b, b2 := c, b3 := d, head := h }).lastP, .int .i64 ({ m with reg := R, per := Q, now := t, b0 := a, b1 := b, b2 := c, b3 := d, head := h }).told]] := hs
                        refine Z.seq ?_
                        refine Z.cutt (ι := Unit) [] rfl (fun _ => []) (fun _ wr => SX.St w M wr [SX.Ent.blk g T ({ m with reg := R, per := Q, pow := X, now := t, b0 := a, b1 := b, b2 := c, b3 := d, head := h } : RpV).cells.toArray]) ?_ ?_
                        · skip
                          refine Z.drawK (fun j => j != 33) mixed hs ?_
                          clear hs; intro wd12 hs
                          refine Z.tb [0, 1] (by kernel_rfl) rfl ⟨_, hs, by first | (simp; done) | exact fun e he => List.mem_append_right _ he⟩ rfl ?_
                          refine Z.t 2 rfl rfl rfl (by rfl) (by kernel_rfl) ⟨_, hs, by first | (simp; done) | exact fun e he => List.mem_append_right _ he⟩ (Z.Yd.nilc rfl rfl) ?_
                          refine Z.t 3 rfl rfl rfl (by rfl) (by kernel_rfl) ⟨_, hs, by first | (simp; done) | exact fun e he => List.mem_append_right _ he⟩ (Z.Yd.fieldA (m := 0) rfl (by kernel_rfl)) ?_
                          refine Z.t 4 rfl rfl rfl (by rfl) (by kernel_rfl) ⟨_, hs, by first | (simp; done) | exact fun e he => List.mem_append_right _ he⟩ (Z.Yd.fieldA (m := 2) rfl (by kernel_rfl)) ?_
                          refine Z.t 5 rfl rfl rfl (by rfl) (by kernel_rfl) ⟨_, hs, by first | (simp; done) | exact fun e he => List.mem_append_right _ he⟩ (by first | exact Z.Yd.load rfl Try.isAgg4 (fun _ => Z.cellB (by first | ((repeat (first | exact List.mem_cons_self | refine List.mem_cons_of_mem _ ?_ | refine List.mem_append_right _ ?_)); done) | fail) rfl) | exact Z.Yd.load rfl Try.isAgg4 (fun _ => Z.cellO (by assumption) (by simp) (by assumption)) | fail "load 12.5") ?_
                          refine Z.tb [6, 7] (by kernel_rfl) rfl ⟨_, hs, by first | (simp; done) | exact fun e he => List.mem_append_right _ he⟩ rfl ?_
                          refine Z.t 8 rfl rfl rfl (by rfl) (by kernel_rfl) ⟨_, hs, by first | (simp; done) | exact fun e he => List.mem_append_right _ he⟩ (Z.Yd.nilc rfl rfl) ?_
                          refine Z.t 9 rfl rfl rfl (by rfl) (by kernel_rfl) ⟨_, hs, by first | (simp; done) | exact fun e he => List.mem_append_right _ he⟩ (Z.Yd.fieldA (m := 0) rfl (by kernel_rfl)) ?_
                          refine Z.t 10 rfl rfl rfl (by rfl) (by kernel_rfl) ⟨_, hs, by first | (simp; done) | exact fun e he => List.mem_append_right _ he⟩ (Z.Yd.fieldA (m := 3) rfl (by kernel_rfl)) ?_
                          refine Z.t 11 rfl rfl rfl (by rfl) (by kernel_rfl) ⟨_, hs, by first | (simp; done) | exact fun e he => List.mem_append_right _ he⟩ (by first | exact Z.Yd.load rfl Try.isAgg4 (fun _ => Z.cellB (by first | ((repeat (first | exact List.mem_cons_self | refine List.mem_cons_of_mem _ ?_ | refine List.mem_append_right _ ?_)); done) | fail) rfl) | exact Z.Yd.load rfl Try.isAgg4 (fun _ => Z.cellO (by assumption) (by simp) (by assumption)) | fail "load 12.11") ?_
                          refine Z.tb [12, 13, 14, 15] (by kernel_rfl) rfl ⟨_, hs, by first | (simp; done) | exact fun e he => List.mem_append_right _ he⟩ rfl ?_
                          refine Z.t 16 rfl rfl rfl (by rfl) (by kernel_rfl) ⟨_, hs, by first | (simp; done) | exact fun e he => List.mem_append_right _ he⟩ (Z.Yd.nilc rfl rfl) ?_
                          refine Z.t 17 rfl rfl rfl (by rfl) (by kernel_rfl) ⟨_, hs, by first | (simp; done) | exact fun e he => List.mem_append_right _ he⟩ (Z.Yd.fieldA (m := 5) rfl (by kernel_rfl)) ?_
                          refine Z.t 18 rfl rfl rfl (by rfl) (by kernel_rfl) ⟨_, hs, by first | (simp; done) | exact fun e he => List.mem_append_right _ he⟩ (Z.Yd.fieldA (m := 2) rfl (by kernel_rfl)) ?_
                          refine Z.t 19 rfl rfl rfl (by rfl) (by kernel_rfl) ⟨_, hs, by first | (simp; done) | exact fun e he => List.mem_append_right _ he⟩ (by first | exact Z.Yd.load rfl Try.isAgg3 (fun _ => Z.cellB (by first | ((repeat (first | exact List.mem_cons_self | refine List.mem_cons_of_mem _ ?_ | refine List.mem_append_right _ ?_)); done) | fail) rfl) | exact Z.Yd.load rfl Try.isAgg3 (fun _ => Z.cellO (by assumption) (by simp) (by assumption)) | fail "load 12.19") ?_
                          refine Z.tb [20] (by kernel_rfl) rfl ⟨_, hs, by first | (simp; done) | exact fun e he => List.mem_append_right _ he⟩ rfl ?_
                          refine Z.t 21 rfl rfl rfl (by rfl) (by kernel_rfl) ⟨_, hs, by first | (simp; done) | exact fun e he => List.mem_append_right _ he⟩ (Z.Yd.nilc rfl rfl) ?_
                          refine Z.t 22 rfl rfl rfl (by rfl) (by kernel_rfl) ⟨_, hs, by first | (simp; done) | exact fun e he => List.mem_append_right _ he⟩ (Z.Yd.fieldA (m := 16) rfl (by kernel_rfl)) ?_
                          refine Z.t 23 rfl rfl rfl (by rfl) (by kernel_rfl) ⟨_, hs, by first | (simp; done) | exact fun e he => List.mem_append_right _ he⟩ (by first | exact Z.Yd.load rfl Try.isAgg3 (fun _ => Z.cellB (by first | ((repeat (first | exact List.mem_cons_self | refine List.mem_cons_of_mem _ ?_ | refine List.mem_append_right _ ?_)); done) | fail) rfl) | exact Z.Yd.load rfl Try.isAgg3 (fun _ => Z.cellO (by assumption) (by simp) (by assumption)) | fail "load 12.23") ?_
                          refine Z.split (s := 119) rfl (fun hsp119 => ?_) (fun hsp119 => ?_)
                          · first
                              | (exfalso; simp at hsp119 <;> omega)
                              | (
                                refine Z.yes (s := 119) (b := true) rfl hsp119 rfl ?_
                                (try simp at hsp119)
                                refine Z.tnS 119 false 24 rfl rfl (by kernel_rfl) rfl rfl (by simp) rfl (by rfl) (fun _ => ⟨_, hs, by first | (simp; done) | exact fun e he => List.mem_append_right _ he⟩) ?_
                                refine Z.t 25 rfl rfl rfl (by rfl) (by kernel_rfl) ⟨_, hs, by first | (simp; done) | exact fun e he => List.mem_append_right _ he⟩ (Z.Yd.pickT rfl rfl) ?_
                                refine Z.tb [26, 27] (by kernel_rfl) rfl ⟨_, hs, by first | (simp; done) | exact fun e he => List.mem_append_right _ he⟩ rfl ?_
                                refine Z.split (s := 132) rfl (fun hsp132 => ?_) (fun hsp132 => ?_)
                                · first
                                    | (exfalso; simp at hsp132 <;> omega)
                                    | (
                                      refine Z.yes (s := 132) (b := true) rfl hsp132 rfl ?_
                                      (try simp at hsp132)
                                      refine Z.yes (s := 119) (b := true) rfl rfl rfl ?_
                                      refine Z.tnS 132 false 28 rfl rfl (by kernel_rfl) rfl rfl (by simp) rfl (by rfl) (fun _ => ⟨_, hs, by first | (simp; done) | exact fun e he => List.mem_append_right _ he⟩) ?_
                                      refine Z.t 29 rfl rfl rfl (by rfl) (by kernel_rfl) ⟨_, hs, by first | (simp; done) | exact fun e he => List.mem_append_right _ he⟩ (Z.Yd.pickT rfl rfl) ?_
                                      refine Z.tn 30 rfl rfl (by kernel_rfl) rfl trivial ?_
                                      refine Z.ZO.quiet rfl (by rfl) (Z.keepS hs) (Z.Yd.nilc rfl rfl) ?_
                                      refine Z.tk (Dn := fun j => j != 33) (i := 30) (fun _ => ⟨_, hs, by first | (simp; done) | exact fun e he => List.mem_append_right _ he⟩) ?_
                                      refine Z.tn 31 rfl rfl (by kernel_rfl) rfl trivial ?_
                                      refine Z.ZO.quiet rfl (by rfl) (Z.keepS hs) (Z.Yd.fieldA (m := 0) rfl (by kernel_rfl)) ?_
                                      refine Z.tk (Dn := fun j => j != 33) (i := 31) (fun _ => ⟨_, hs, by first | (simp; done) | exact fun e he => List.mem_append_right _ he⟩) ?_
                                      refine Z.t 32 rfl rfl rfl (by rfl) (by kernel_rfl) ⟨_, hs, by first | (simp; done) | exact fun e he => List.mem_append_right _ he⟩ (Z.Yd.fieldA (m := 2) rfl (by kernel_rfl)) ?_
                                      refine Z.tn 33 rfl rfl (by kernel_rfl) rfl trivial ?_
                                      first | refine Z.ZO.store rfl rfl hs Try.sizeOf4 rfl rfl rfl (by first | exact SX.at0 | exact SX.at1 | exact SX.at2 | exact SX.at3 | exact SX.at4 | exact SX.at5 | exact Z.at6 | exact Z.at7 | exact Z.at8 | exact Z.at9 | exact Z.at10 | exact Z.at11 | exact Z.at12) (by first | (simp; done) | (simp; omega)) ?_ | refine Z.ZO.storeR rfl rfl hs Try.sizeOf4 rfl rfl rfl (by first | exact SX.at0 | exact SX.at1 | exact SX.at2 | exact SX.at3 | exact SX.at4 | exact SX.at5 | exact Z.at6 | exact Z.at7 | exact Z.at8 | exact Z.at9 | exact Z.at10 | exact Z.at11 | exact Z.at12) (by first | omega | (simp [ints_length]; done) | (simp [ints_length]; omega)) ?_
                                      clear hs; intro ws hs
                                      simp only [Nat.zero_add, Nat.add_zero, Nat.reduceAdd, Int.reduceToNat, Nat.reduceMul, List.set_cons_zero, List.set_cons_succ, List.setIfInBounds_toArray] at hs
                                      refine Z.tk (Dn := fun j => j != 33) (i := 33) (fun h => absurd h (by decide)) ?_
                                      refine Z.td (by rfl) (by kernel_rfl) ?_
                                      refine Z.only [] rfl ?_
                                      refine Z.nthen ?_
                                      first | exact Z.meet () trivial (by rw [show X = true by rw [hX]; simp_all]; exact hs) | exact Z.meet () trivial (by rw [show X = chgV m.c3 h m.told by rw [hX]; simp_all]; exact hs)
                                      )
                                · first
                                    | (exfalso; simp at hsp132 <;> omega)
                                    | (
                                      refine Z.yes (s := 132) (b := false) rfl hsp132 rfl ?_
                                      (try simp at hsp132)
                                      refine Z.yes (s := 119) (b := true) rfl rfl rfl ?_
                                      refine Z.tn 28 rfl rfl (by kernel_rfl) rfl (by exact ⟨rfl, trivial⟩) ?_
                                      refine Z.ZO.call rfl rfl (by rfl) rfl rfl Try.call28 rfl (rp_changed g { m with reg := R, per := Q, now := t, b0 := a, b1 := b, b2 := c, b3 := d, head := h } _ (hs.celOf (by first | ((repeat (first | exact List.mem_cons_self | refine List.mem_cons_of_mem _ ?_ | refine List.mem_append_right _ ?_)); done) | fail)) u7 h10) ?_
                                      rintro v12_28 w12_28 ⟨rfl, hy⟩
                                      replace hs := hs.call hy
                                      clear hy
                                      try simp only [List.cons_append, List.nil_append, List.append_nil] at hs
                                      refine Z.tk (Dn := fun j => j != 33) (i := 28) (fun _ => ⟨_, hs, by first | (simp; done) | exact fun e he => List.mem_append_right _ he⟩) ?_
                                      refine Z.t 29 rfl rfl rfl (by rfl) (by kernel_rfl) ⟨_, hs, by first | (simp; done) | exact fun e he => List.mem_append_right _ he⟩ (Z.Yd.pickF rfl rfl) ?_
                                      refine Z.tn 30 rfl rfl (by kernel_rfl) rfl trivial ?_
                                      refine Z.ZO.quiet rfl (by rfl) (Z.keepS hs) (Z.Yd.nilc rfl rfl) ?_
                                      refine Z.tk (Dn := fun j => j != 33) (i := 30) (fun _ => ⟨_, hs, by first | (simp; done) | exact fun e he => List.mem_append_right _ he⟩) ?_
                                      refine Z.tn 31 rfl rfl (by kernel_rfl) rfl trivial ?_
                                      refine Z.ZO.quiet rfl (by rfl) (Z.keepS hs) (Z.Yd.fieldA (m := 0) rfl (by kernel_rfl)) ?_
                                      refine Z.tk (Dn := fun j => j != 33) (i := 31) (fun _ => ⟨_, hs, by first | (simp; done) | exact fun e he => List.mem_append_right _ he⟩) ?_
                                      refine Z.t 32 rfl rfl rfl (by rfl) (by kernel_rfl) ⟨_, hs, by first | (simp; done) | exact fun e he => List.mem_append_right _ he⟩ (Z.Yd.fieldA (m := 2) rfl (by kernel_rfl)) ?_
                                      refine Z.tn 33 rfl rfl (by kernel_rfl) rfl trivial ?_
                                      first | refine Z.ZO.store rfl rfl hs Try.sizeOf4 rfl rfl rfl (by first | exact SX.at0 | exact SX.at1 | exact SX.at2 | exact SX.at3 | exact SX.at4 | exact SX.at5 | exact Z.at6 | exact Z.at7 | exact Z.at8 | exact Z.at9 | exact Z.at10 | exact Z.at11 | exact Z.at12) (by first | (simp; done) | (simp; omega)) ?_ | refine Z.ZO.storeR rfl rfl hs Try.sizeOf4 rfl rfl rfl (by first | exact SX.at0 | exact SX.at1 | exact SX.at2 | exact SX.at3 | exact SX.at4 | exact SX.at5 | exact Z.at6 | exact Z.at7 | exact Z.at8 | exact Z.at9 | exact Z.at10 | exact Z.at11 | exact Z.at12) (by first | omega | (simp [ints_length]; done) | (simp [ints_length]; omega)) ?_
                                      clear hs; intro ws hs
                                      simp only [Nat.zero_add, Nat.add_zero, Nat.reduceAdd, Int.reduceToNat, Nat.reduceMul, List.set_cons_zero, List.set_cons_succ, List.setIfInBounds_toArray] at hs
                                      refine Z.tk (Dn := fun j => j != 33) (i := 33) (fun h => absurd h (by decide)) ?_
                                      refine Z.td (by rfl) (by kernel_rfl) ?_
                                      refine Z.only [] rfl ?_
                                      refine Z.nthen ?_
                                      first | exact Z.meet () trivial (by rw [show X = true by rw [hX]; simp_all]; exact hs) | exact Z.meet () trivial (by rw [show X = chgV m.c3 h m.told by rw [hX]; simp_all]; exact hs)
                                      )
                                )
                          · first
                              | (exfalso; simp at hsp119 <;> omega)
                              | (
                                refine Z.yes (s := 119) (b := false) rfl hsp119 rfl ?_
                                (try simp at hsp119)
                                refine Z.tn 24 rfl rfl (by kernel_rfl) rfl (by exact ⟨rfl, trivial⟩) ?_
                                refine Z.ZO.call rfl rfl (by rfl) rfl rfl Try.call27 rfl (rp_due g { m with reg := R, per := Q, now := t, b0 := a, b1 := b, b2 := c, b3 := d, head := h } m.c2 m.lastP _ (hs.celOf (by first | ((repeat (first | exact List.mem_cons_self | refine List.mem_cons_of_mem _ ?_ | refine List.mem_append_right _ ?_)); done) | fail)) ⟨by show 0 ≤ t; omega, u2⟩ h9) ?_
                                rintro v12_24 w12_24 ⟨rfl, hy⟩
                                replace hs := hs.call hy
                                clear hy
                                try simp only [List.cons_append, List.nil_append, List.append_nil] at hs
                                refine Z.tk (Dn := fun j => j != 33) (i := 24) (fun _ => ⟨_, hs, by first | (simp; done) | exact fun e he => List.mem_append_right _ he⟩) ?_
                                refine Z.t 25 rfl rfl rfl (by rfl) (by kernel_rfl) ⟨_, hs, by first | (simp; done) | exact fun e he => List.mem_append_right _ he⟩ (Z.Yd.pickF rfl rfl) ?_
                                refine Z.tb [26, 27] (by kernel_rfl) rfl ⟨_, hs, by first | (simp; done) | exact fun e he => List.mem_append_right _ he⟩ rfl ?_
                                refine Z.split (s := 132) rfl (fun hsp132 => ?_) (fun hsp132 => ?_)
                                · first
                                    | (exfalso; simp at hsp132 <;> omega)
                                    | (
                                      refine Z.yes (s := 132) (b := true) rfl hsp132 rfl ?_
                                      (try simp at hsp132)
                                      refine Z.yes (s := 119) (b := false) rfl rfl rfl ?_
                                      refine Z.tnS 132 false 28 rfl rfl (by kernel_rfl) rfl rfl (by simp) rfl (by rfl) (fun _ => ⟨_, hs, by first | (simp; done) | exact fun e he => List.mem_append_right _ he⟩) ?_
                                      refine Z.t 29 rfl rfl rfl (by rfl) (by kernel_rfl) ⟨_, hs, by first | (simp; done) | exact fun e he => List.mem_append_right _ he⟩ (Z.Yd.pickT rfl rfl) ?_
                                      refine Z.tn 30 rfl rfl (by kernel_rfl) rfl trivial ?_
                                      refine Z.ZO.quiet rfl (by rfl) (Z.keepS hs) (Z.Yd.nilc rfl rfl) ?_
                                      refine Z.tk (Dn := fun j => j != 33) (i := 30) (fun _ => ⟨_, hs, by first | (simp; done) | exact fun e he => List.mem_append_right _ he⟩) ?_
                                      refine Z.tn 31 rfl rfl (by kernel_rfl) rfl trivial ?_
                                      refine Z.ZO.quiet rfl (by rfl) (Z.keepS hs) (Z.Yd.fieldA (m := 0) rfl (by kernel_rfl)) ?_
                                      refine Z.tk (Dn := fun j => j != 33) (i := 31) (fun _ => ⟨_, hs, by first | (simp; done) | exact fun e he => List.mem_append_right _ he⟩) ?_
                                      refine Z.t 32 rfl rfl rfl (by rfl) (by kernel_rfl) ⟨_, hs, by first | (simp; done) | exact fun e he => List.mem_append_right _ he⟩ (Z.Yd.fieldA (m := 2) rfl (by kernel_rfl)) ?_
                                      refine Z.tn 33 rfl rfl (by kernel_rfl) rfl trivial ?_
                                      first | refine Z.ZO.store rfl rfl hs Try.sizeOf4 rfl rfl rfl (by first | exact SX.at0 | exact SX.at1 | exact SX.at2 | exact SX.at3 | exact SX.at4 | exact SX.at5 | exact Z.at6 | exact Z.at7 | exact Z.at8 | exact Z.at9 | exact Z.at10 | exact Z.at11 | exact Z.at12) (by first | (simp; done) | (simp; omega)) ?_ | refine Z.ZO.storeR rfl rfl hs Try.sizeOf4 rfl rfl rfl (by first | exact SX.at0 | exact SX.at1 | exact SX.at2 | exact SX.at3 | exact SX.at4 | exact SX.at5 | exact Z.at6 | exact Z.at7 | exact Z.at8 | exact Z.at9 | exact Z.at10 | exact Z.at11 | exact Z.at12) (by first | omega | (simp [ints_length]; done) | (simp [ints_length]; omega)) ?_
                                      clear hs; intro ws hs
                                      simp only [Nat.zero_add, Nat.add_zero, Nat.reduceAdd, Int.reduceToNat, Nat.reduceMul, List.set_cons_zero, List.set_cons_succ, List.setIfInBounds_toArray] at hs
                                      refine Z.tk (Dn := fun j => j != 33) (i := 33) (fun h => absurd h (by decide)) ?_
                                      refine Z.td (by rfl) (by kernel_rfl) ?_
                                      refine Z.only [] rfl ?_
                                      refine Z.nthen ?_
                                      first | exact Z.meet () trivial (by rw [show X = true by rw [hX]; simp_all]; exact hs) | exact Z.meet () trivial (by rw [show X = chgV m.c3 h m.told by rw [hX]; simp_all]; exact hs)
                                      )
                                · first
                                    | (exfalso; simp at hsp132 <;> omega)
                                    | (
                                      refine Z.yes (s := 132) (b := false) rfl hsp132 rfl ?_
                                      (try simp at hsp132)
                                      refine Z.yes (s := 119) (b := false) rfl rfl rfl ?_
                                      refine Z.tn 28 rfl rfl (by kernel_rfl) rfl (by exact ⟨rfl, trivial⟩) ?_
                                      refine Z.ZO.call rfl rfl (by rfl) rfl rfl Try.call28 rfl (rp_changed g { m with reg := R, per := Q, now := t, b0 := a, b1 := b, b2 := c, b3 := d, head := h } _ (hs.celOf (by first | ((repeat (first | exact List.mem_cons_self | refine List.mem_cons_of_mem _ ?_ | refine List.mem_append_right _ ?_)); done) | fail)) u7 h10) ?_
                                      rintro v12_28 w12_28 ⟨rfl, hy⟩
                                      replace hs := hs.call hy
                                      clear hy
                                      try simp only [List.cons_append, List.nil_append, List.append_nil] at hs
                                      refine Z.tk (Dn := fun j => j != 33) (i := 28) (fun _ => ⟨_, hs, by first | (simp; done) | exact fun e he => List.mem_append_right _ he⟩) ?_
                                      refine Z.t 29 rfl rfl rfl (by rfl) (by kernel_rfl) ⟨_, hs, by first | (simp; done) | exact fun e he => List.mem_append_right _ he⟩ (Z.Yd.pickF rfl rfl) ?_
                                      refine Z.tn 30 rfl rfl (by kernel_rfl) rfl trivial ?_
                                      refine Z.ZO.quiet rfl (by rfl) (Z.keepS hs) (Z.Yd.nilc rfl rfl) ?_
                                      refine Z.tk (Dn := fun j => j != 33) (i := 30) (fun _ => ⟨_, hs, by first | (simp; done) | exact fun e he => List.mem_append_right _ he⟩) ?_
                                      refine Z.tn 31 rfl rfl (by kernel_rfl) rfl trivial ?_
                                      refine Z.ZO.quiet rfl (by rfl) (Z.keepS hs) (Z.Yd.fieldA (m := 0) rfl (by kernel_rfl)) ?_
                                      refine Z.tk (Dn := fun j => j != 33) (i := 31) (fun _ => ⟨_, hs, by first | (simp; done) | exact fun e he => List.mem_append_right _ he⟩) ?_
                                      refine Z.t 32 rfl rfl rfl (by rfl) (by kernel_rfl) ⟨_, hs, by first | (simp; done) | exact fun e he => List.mem_append_right _ he⟩ (Z.Yd.fieldA (m := 2) rfl (by kernel_rfl)) ?_
                                      refine Z.tn 33 rfl rfl (by kernel_rfl) rfl trivial ?_
                                      first | refine Z.ZO.store rfl rfl hs Try.sizeOf4 rfl rfl rfl (by first | exact SX.at0 | exact SX.at1 | exact SX.at2 | exact SX.at3 | exact SX.at4 | exact SX.at5 | exact Z.at6 | exact Z.at7 | exact Z.at8 | exact Z.at9 | exact Z.at10 | exact Z.at11 | exact Z.at12) (by first | (simp; done) | (simp; omega)) ?_ | refine Z.ZO.storeR rfl rfl hs Try.sizeOf4 rfl rfl rfl (by first | exact SX.at0 | exact SX.at1 | exact SX.at2 | exact SX.at3 | exact SX.at4 | exact SX.at5 | exact Z.at6 | exact Z.at7 | exact Z.at8 | exact Z.at9 | exact Z.at10 | exact Z.at11 | exact Z.at12) (by first | omega | (simp [ints_length]; done) | (simp [ints_length]; omega)) ?_
                                      clear hs; intro ws hs
                                      simp only [Nat.zero_add, Nat.add_zero, Nat.reduceAdd, Int.reduceToNat, Nat.reduceMul, List.set_cons_zero, List.set_cons_succ, List.setIfInBounds_toArray] at hs
                                      refine Z.tk (Dn := fun j => j != 33) (i := 33) (fun h => absurd h (by decide)) ?_
                                      refine Z.td (by rfl) (by kernel_rfl) ?_
                                      refine Z.only [] rfl ?_
                                      refine Z.nthen ?_
                                      first | exact Z.meet () trivial (by rw [show X = true by rw [hX]; simp_all]; exact hs) | exact Z.meet () trivial (by rw [show X = chgV m.c3 h m.told by rw [hX]; simp_all]; exact hs)
                                      )
                                )
                        · clear hs
                          rintro _ w12 hs
                          refine Z.only [] rfl ?_
                          refine Z.seq ?_
                          refine Z.seq ?_
                          refine Z.region ?_
                          refine Z.lb 1 rfl ?_
                          refine Z.lnil ?_
                          refine Z.only [8] rfl ?_
                          refine Z.nthen ?_
                          refine Z.ret ?_
                          repeat (first | refine Z.rthen ?_ | refine Z.rblock ?_ | refine Z.rscope ?_ | refine Z.rjump ?_)
                          -- ret#3
                          refine Z.out1 (by exact ⟨rfl, trivial⟩) ?_
                          first
                          | exact ⟨_, rfl, rfl, by rw [eA]; exact hs⟩
                          | exact ⟨_, rfl, by rw [show updV m t a b c d h = (m, 2) from if_neg hno], by rw [show updV m t a b c d h = (m, 2) from if_neg hno]; exact hs⟩
                      )
                )
          )
  · clear hs
    rintro ⟨⟩ w9 ⟨hno, hs⟩
    refine Z.only [8] rfl ?_
    (try dsimp only at hs)
    refine Z.seq ?_
    refine Z.skip ?_
    refine Z.nthen ?_
    refine Z.seq ?_
    refine Z.region ?_
    refine Z.lb 2 rfl ?_
    refine Z.lnil ?_
    refine Z.only [8] rfl ?_
    refine Z.nthen ?_
    refine Z.ret ?_
    repeat (first | refine Z.rthen ?_ | refine Z.rblock ?_ | refine Z.rscope ?_)
    -- ret#4
    refine Z.out1 (by exact ⟨rfl, trivial⟩) ?_
    first
    | exact ⟨_, rfl, rfl, by rw [eA]; exact hs⟩
    | exact ⟨_, rfl, by rw [show updV m t a b c d h = (m, 2) from if_neg hno], by rw [show updV m t a b c d h = (m, 2) from if_neg hno]; exact hs⟩
end Go.Proofs.Ytjejdlolgmhljaa
