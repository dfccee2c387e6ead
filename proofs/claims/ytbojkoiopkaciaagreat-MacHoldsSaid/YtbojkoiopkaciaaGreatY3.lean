/- Part 3 of the proofs that lead to the statement. -/
import Derived.Test.YtbojkoiopkaciaaGreatY2
import Derived.Test.YtbojkoiopkaciaaGreatRows
/- Proofs that are used often: the tactic is run where the constant stands. -/
namespace Go.Proofs.YtbojkoiopkaciaaGreat
namespace Z
structure Hid (q : Prop) : Prop where
  out : q
theorem w0 {p q : Prop} (h : p) (f : p → q := by intro hs; (simp only [Nat.zero_add, Nat.add_zero, Nat.reduceAdd, Int.reduceToNat, Nat.reduceMul, List.set_cons_zero, List.set_cons_succ, List.setIfInBounds_toArray] at hs); exact hs) : q := f h
theorem w1 {p q : Prop} (h : p) (f : p → q := by intro hs; (try simp only [List.cons_append, List.nil_append, List.append_nil] at hs); exact hs) : q := f h
theorem w2 {p q : Prop} (h : p) (f : p → q := by intro hs; (simp only [List.cons_append, List.nil_append] at hs); exact hs) : q := f h
theorem w3 {p q : Prop} (h : p) (f : p → q := by intro hs; (try simp only [Z.putL, Nat.zero_add] at hs); exact hs) : q := f h
theorem b0 {p : Prop} (h : p := by first | ((repeat (first | exact List.mem_cons_self | refine List.mem_cons_of_mem _ ?_ | refine List.mem_append_right _ ?_)); done) | fail) : p := h
theorem b1 {p : Prop} (h : p := by first | exact SX.at0 | exact SX.at1 | exact SX.at2 | exact SX.at3 | exact SX.at4 | exact SX.at5 | exact Z.at6 | exact Z.at7 | exact Z.at8 | exact Z.at9 | exact Z.at10 | exact Z.at11 | exact Z.at12) : p := h
theorem b2 {p : Prop} (h : p := by first | (simp; done) | exact fun e he => List.mem_append_right _ he) : p := h
theorem b3 {p : Prop} (h : p := by first | omega | (have hG' := Z.gh rfl hG; simp at hG'; omega)) : p := h
theorem b4 {p : Prop} (h : p := by kernel_rfl) : p := h
theorem b5 {p : Prop} (h : p := by first | (simp [Value.oneCell']; done) | (refine Z.all_one ?_; assumption)) : p := h
theorem b6 {p : Prop} (h : p := by refine ⟨?_, trivial⟩ <;> (first | rfl | (refine Z.lookv rfl ?_; simp; done) | (refine Z.lookv rfl ?_; simp; omega))) : p := h
theorem b7 {p : Prop} (h : p := by exact ⟨rfl, trivial⟩) : p := h
theorem b8 {p : Prop} (h : p := by first | (simp; done) | (simp; omega)) : p := h
theorem b9 {p : Prop} (h : p := by omega) : p := h
theorem b10 {p : Prop} (h : p := by refine ⟨?_, ?_, ?_, ?_, trivial⟩ <;> (first | rfl | (refine Z.lookv rfl ?_; simp; done) | (refine Z.lookv rfl ?_; simp; omega))) : p := h
theorem b11 {p : Prop} (h : p := by refine ⟨?_, ?_, ?_, ?_, ?_, trivial⟩ <;> (first | rfl | (refine Z.lookv rfl ?_; simp; done) | (refine Z.lookv rfl ?_; simp; omega))) : p := h
theorem b12 {p : Prop} (h : p := by decide) : p := h
theorem b13 {p : Prop} (h : p := by refine ⟨?_, ?_, ?_, ?_, ?_, ?_, ?_, trivial⟩ <;> (first | rfl | (refine Z.lookv rfl ?_; simp; done) | (refine Z.lookv rfl ?_; simp; omega))) : p := h
theorem b14 {p : Prop} (h : p := by refine ⟨?_, ?_, trivial⟩ <;> (first | rfl | (refine Z.lookv rfl ?_; simp; done) | (refine Z.lookv rfl ?_; simp; omega))) : p := h
theorem b15 {p : Prop} (h : p := by intro w; kernel_rfl) : p := h
theorem b16 {p : Prop} (h : p := by refine ⟨?_, ?_, ?_, trivial⟩ <;> (first | rfl | (refine Z.lookv rfl ?_; simp; done) | (refine Z.lookv rfl ?_; simp; omega))) : p := h
theorem b17 {p : Prop} (h : p := by simp) : p := h
theorem b18 {p : Prop} (h : p := by exact Tryz.sizeOf77) : p := h
theorem b19 {p : Prop} (h : p := by intro W; kernel_rfl) : p := h
theorem b20 {p : Prop} (h : p := by refine ⟨?_, ?_, ?_, ?_, ?_, ?_, ?_, ?_, ?_, ?_, trivial⟩ <;> (first | rfl | (refine Z.lookv rfl ?_; simp; done) | (refine Z.lookv rfl ?_; simp; omega))) : p := h
theorem b21 {p : Prop} (h : p := by simp only; omega) : p := h
theorem b22 {p : Prop} (h : p := by exact ⟨rfl, rfl, trivial⟩) : p := h
theorem b23 {p : Prop} (h : p := by unfold maxLen; omega) : p := h
theorem b24 {p : Prop} (h : p := by first | rfl | simp) : p := h
theorem b25 {p : Prop} (h : p := by exact Z.Yd.load rfl Tryz.isAgg3 (fun _ => Z.cellB Z.b0 rfl)) : p := h
theorem b26 {p : Prop} (h : p := by exact ⟨⟨_, rfl, Z.rvc hs Tryz.isAgg48 Z.b0 rfl⟩, ⟨_, rfl, Z.rvc hs Tryz.isAgg31 Z.b0 rfl⟩, trivial⟩) : p := h
theorem b27 {p : Prop} (h : p := by exact Z.Yd.loadA _ rfl Tryz.isAgg190 (fun _ => Z.cellsB Z.b0) (by exact Tryz.sizeOf190)) : p := h
theorem b28 {p : Prop} (h : p := by exact Z.Yd.load rfl Tryz.isAgg48 (fun _ => Z.cellB Z.b0 rfl)) : p := h
theorem b29 {p : Prop} (h : p := by exact Z.Yd.load rfl Tryz.isAgg34 (fun _ => Z.cellB Z.b0 rfl)) : p := h
theorem b30 {p : Prop} (h : p := by exact ⟨⟨_, rfl, Z.rvc hs Tryz.isAgg34 Z.b0 rfl⟩, ⟨_, rfl, Z.rvc hs Tryz.isAgg31 Z.b0 rfl⟩, trivial⟩) : p := h
theorem b31 {p : Prop} (h : p := by exact Z.Yd.load rfl Tryz.isAgg187 (fun _ => Z.cellB Z.b0 rfl)) : p := h
theorem b32 {p : Prop} (h : p := by exact Z.Yd.load rfl Tryz.isAgg22 (fun _ => Z.cellB Z.b0 rfl)) : p := h
theorem b33 {p : Prop} (h : p := by refine ⟨?_, ?_, ?_, ?_, ?_, ?_, ?_, ?_, ?_, ?_, ?_, ?_, trivial⟩ <;> first | rfl | (exact congrArg (fun z ↦ some (([] : List (Nat × Bool)), Value.int .i64 z)) (by unfold askd; first | rw [if_pos Z.b9] | rw [if_neg Z.b9]; try omega))) : p := h
theorem b34 {p : Prop} (h : p := by exact Z.Yd.load rfl Tryz.isAgg52 (fun _ => Z.cellB Z.b0 rfl)) : p := h
theorem b35 {p : Prop} (h : p := by exact Z.Yd.load rfl Tryz.isAgg3 (fun hG => Z.cellR Z.b0 (Z.ints_at Z.b3 Z.b3))) : p := h
theorem b36 {p : Prop} (h : p := by exact ⟨⟨_, rfl, Z.rvcA hs Tryz.isAgg77 Z.b0 Z.b18⟩, trivial⟩) : p := h
theorem b37 {p : Prop} (h : p := by exact Z.Yd.loadA _ rfl Tryz.isAgg77 (fun _ => Z.cellsB Z.b0) Z.b18) : p := h
theorem b38 {p : Prop} (h : p := by exact Z.Yd.load rfl Tryz.isAgg53 (fun _ => Z.cellB Z.b0 rfl)) : p := h
theorem b39 {p : Prop} (h : p := by exact Z.Yd.load rfl Tryz.isAgg47 (fun _ => Z.cellB Z.b0 rfl)) : p := h
theorem b40 {p : Prop} (h : p := by first | exact hs | exact hs.sel [1, 0, 2] Z.b12) : p := h
theorem b41 {p : Prop} (h : p := by simp; omega) : p := h
theorem b42 {p : Prop} (h : p := by first | omega | (simp [ints_length]; done) | (simp [ints_length]; omega)) : p := h
theorem b43 {p : Prop} (h : p := by exact Z.Yd.load rfl Tryz.isAgg123 (fun _ => Z.cellB Z.b0 rfl)) : p := h
theorem b44 {p : Prop} (h : p := by exact Z.Yd.load rfl Tryz.isAgg4 (fun _ => Z.cellB Z.b0 rfl)) : p := h
theorem b45 {p : Prop} (h : p := by simp [Value.oneCell']) : p := h
theorem b46 {p : Prop} (h : p := by intro _ w; kernel_rfl) : p := h
theorem b47 {p : Prop} (h : p := by exact ⟨⟨_, rfl, Z.rvc hs Tryz.isAgg47 Z.b0 rfl⟩, ⟨_, rfl, Z.rvc hs Tryz.isAgg31 Z.b0 rfl⟩, trivial⟩) : p := h
theorem b48 {p : Prop} (h : p := by exact Z.Yd.loadA _ rfl Tryz.isAgg237 (fun _ => Z.cellsB Z.b0) (by exact Tryz.sizeOf237)) : p := h
theorem b49 {p : Prop} (h : p := by exact Z.Yd.load rfl Tryz.isAgg58 (fun _ => Z.cellB Z.b0 rfl)) : p := h
theorem b50 {p : Prop} (h : p := by refine ⟨?_, ?_, ?_, ?_, ?_, ?_, trivial⟩ <;> (first | rfl | (refine Z.lookv rfl ?_; simp; done) | (refine Z.lookv rfl ?_; simp; omega))) : p := h
theorem b51 {p : Prop} (h : p := by exact ⟨⟨_, rfl, Z.rvcA hs Tryz.isAgg86 Z.b0 (by exact Tryz.sizeOf86)⟩, ⟨_, rfl, Z.rvc hs Tryz.isAgg31 Z.b0 rfl⟩, trivial⟩) : p := h
theorem b52 {p : Prop} (h : p := by first | (simp; done) | (simp_all; done)) : p := h
theorem b53 {p : Prop} (h : p := by exact Z.Yd.load rfl Tryz.isAgg59 (fun _ => Z.cellB Z.b0 rfl)) : p := h
theorem b54 {p : Prop} (h : p := by intro hG; first | decide | omega) : p := h
theorem b55 {p : Prop} (h : p := by exact ⟨⟨_, rfl, Z.rvcA hs Tryz.isAgg86 Z.b0 (by exact Tryz.sizeOf86)⟩, trivial⟩) : p := h
theorem b56 {p : Prop} (h : p := by exact ⟨⟨_, rfl, Z.rvc hs Tryz.isAgg30 Z.b0 rfl⟩, ⟨_, rfl, Z.rvc hs Tryz.isAgg31 Z.b0 rfl⟩, trivial⟩) : p := h
theorem b57 {p : Prop} (h : p := by refine ⟨?_, ?_, ?_, ?_, ?_, ?_, ?_, ?_, ?_, trivial⟩ <;> (first | rfl | (refine Z.lookv rfl ?_; simp; done) | (refine Z.lookv rfl ?_; simp; omega))) : p := h
theorem b58 {p : Prop} (h : p := by intro hG; first | exact Z.qi64 ⟨by omega, by omega⟩ Z.b9 | exact rfl) : p := h
theorem b59 {p : Prop} (h : p := by exact ⟨⟨_, rfl, Z.rvcA hs Tryz.isAgg61 Z.b0 (by exact Tryz.sizeOf61)⟩, ⟨_, rfl, Z.rvc hs Tryz.isAgg31 Z.b0 rfl⟩, trivial⟩) : p := h
theorem b60 {p : Prop} (h : p := by exact Z.Yd.loadA _ rfl Tryz.isAgg194 (fun _ => Z.cellsB Z.b0) (by exact Tryz.sizeOf194)) : p := h
theorem b61 {p : Prop} (h : p := by exact Z.Yd.loadA _ rfl Tryz.isAgg86 (fun _ => Z.cellsB Z.b0) (by exact Tryz.sizeOf86)) : p := h
theorem b62 {p : Prop} (h : p := by exact Z.Yd.loadA _ rfl Tryz.isAgg37 (fun _ => Z.cellsB Z.b0) (by exact Tryz.sizeOf37)) : p := h
theorem b63 {p : Prop} (h : p := by assumption) : p := h
theorem b64 {p : Prop} (h : p := by exact Z.Yd.load rfl Tryz.isAgg145 (fun _ => Z.cellB Z.b0 rfl)) : p := h
theorem b65 {p : Prop} (h : p := by rw [ints_length]; omega) : p := h
theorem b66 {p : Prop} (h : p := by rw [fl_len mp_len]; omega) : p := h
theorem b67 {p : Prop} (h : p := by exact ⟨⟨_, rfl, Z.rvc hs Tryz.isAgg123 Z.b0 rfl⟩, ⟨_, rfl, Z.rvc hs Tryz.isAgg31 Z.b0 rfl⟩, trivial⟩) : p := h
theorem b68 {p : Prop} (h : p := by exact ⟨⟨_, rfl, Z.rvc hs Tryz.isAgg3 Z.b0 rfl⟩, ⟨_, rfl, Z.rvc hs Tryz.isAgg31 Z.b0 rfl⟩, trivial⟩) : p := h
theorem b69 {p : Prop} (h : p := by intro _ w; go_simp; try rfl) : p := h
theorem b70 {p : Prop} (h : p := by intro c h; cases h) : p := h
theorem b71 {p : Prop} (h : p := by exact Z.Yd.load rfl Tryz.isAgg30 (fun _ => Z.cellB Z.b0 rfl)) : p := h
theorem b72 {p : Prop} (h : p := by exact ⟨⟨_, rfl, Z.rvc hs Tryz.isAgg47 Z.b0 rfl⟩, rfl, trivial⟩) : p := h
theorem b73 {p : Prop} (h : p := by simpa [maE, bkE, rvP, rpE, hup] using h) : p := h
theorem b74 {p : Prop} (h : p := by simp [ints]; omega) : p := h
theorem b75 {p : Prop} (h : p := by exact Z.Yd.load rfl Tryz.isAgg3 (fun hG => Z.cellS Z.b63 rfl Z.b3 Z.b3)) : p := h
theorem g0 {p q : Prop} (h : q) (f : Hid q → p := by intro hq; refine Z.seq ?_; refine Z.region ?_; exact hq.out) : p := f ⟨h⟩
theorem g1 {p q : Prop} (h : q) (f : Hid q → p := by intro hq; refine Z.lb 1 rfl ?_; refine Z.lnil ?_; exact hq.out) : p := f ⟨h⟩
theorem g2 {p q : Prop} (h : q) (f : Hid q → p := by intro hq; refine Z.ls rfl rfl rfl (by rfl) ?_; refine Z.ls rfl rfl rfl (by rfl) ?_; refine Z.ls rfl rfl rfl (by rfl) ?_; exact hq.out) : p := f ⟨h⟩
theorem g3 {p q : Prop} (h : q) (f : Hid q → p := by intro hq; refine Z.le rfl trivial ?_; exact hq.out) : p := f ⟨h⟩
theorem g4 {p q : Prop} (h : q) (f : Hid q → p := by intro hq; refine Z.l rfl rfl (by rfl) (Z.keepS hs) (Z.Yd.fieldA (m := 0) rfl Z.b4) ?_; exact hq.out) : p := f ⟨h⟩
theorem g5 {p q : Prop} (h : q) (f : Hid q → p := by intro hq; refine Z.l rfl rfl (by rfl) (Z.keepS hs) (Z.Yd.add rfl rfl (fun hG => Z.wi64 Z.b3)) ?_; exact hq.out) : p := f ⟨h⟩
theorem g6 {p q : Prop} (h : q) (f : Hid q → p := by intro hq; refine Z.nthen ?_; refine Z.ret ?_; exact hq.out) : p := f ⟨h⟩
theorem g7 {p q : Prop} (h : q) (f : Hid q → p := by intro hq; refine Z.ZO.storeA rfl rfl hs rfl rfl Z.b4 Z.b5 Z.b1 (by rfl) ?_; exact hq.out) : p := f ⟨h⟩
theorem g8 {p q : Prop} (h : q) (f : Hid q → p := by intro hq; refine Z.lsU rfl rfl rfl (by rfl) ?_; refine Z.lsU rfl rfl rfl (by rfl) ?_; refine Z.lsU rfl rfl rfl (by rfl) ?_; exact hq.out) : p := f ⟨h⟩
theorem g9 {p q : Prop} (h : q) (f : Hid q → p := by intro hq; refine Z.l rfl rfl (by rfl) (Z.keepS hs) (Z.Yd.fieldA (m := 1) rfl Z.b4) ?_; exact hq.out) : p := f ⟨h⟩
theorem g10 {p q : Prop} (h : q) (f : Hid q → p := by intro hq; refine Z.l rfl rfl (by rfl) (Z.keepS hs) (Z.Yd.nilc rfl rfl) ?_; exact hq.out) : p := f ⟨h⟩
theorem g11 {p q : Prop} (h : q) (f : Hid q → p := by intro hq; refine Z.exit ?_; refine Z.xthen ?_; refine Z.xthen ?_; refine Z.xblock ?_; exact hq.out) : p := f ⟨h⟩
theorem g12 {p q : Prop} (h : q) (f : Hid q → p := by intro hq; refine Z.t 0 rfl rfl rfl (by rfl) Z.b4 ⟨_, hs, Z.b2⟩ (Z.Yd.fieldA (m := 0) rfl Z.b4) ?_; refine Z.t 1 rfl rfl rfl (by rfl) Z.b4 ⟨_, hs, Z.b2⟩ Z.b25 ?_; refine Z.tb [2, 3, 4] Z.b4 rfl ⟨_, hs, Z.b2⟩ rfl ?_; refine Z.t 5 rfl rfl rfl (by rfl) Z.b4 ⟨_, hs, Z.b2⟩ (Z.Yd.cut3 0 k k rfl rfl rfl rfl Tryz.underlying48 Tryz.sizeOf5 (fun hG => ⟨Z.b3, Z.b3, Z.b3, Z.b3, Z.b3⟩)) ?_; refine Z.t 6 rfl rfl rfl (by rfl) Z.b4 ⟨_, hs, Z.b2⟩ (Z.Yd.buildL [(0, 1), (1, 1)] [.int .i64 0, .slice none 0 0] rfl rfl Z.b15) ?_; refine Z.tn 7 rfl rfl Z.b4 rfl trivial ?_; exact hq.out) : p := f ⟨h⟩
theorem g13 {p q : Prop} (h : q) (f : Hid q → p := by intro hq; refine Z.l rfl rfl (by rfl) (Z.keepS hs) (Z.Yd.pickF rfl rfl) ?_; exact hq.out) : p := f ⟨h⟩
theorem g14 {p q : Prop} (h : q) (f : Hid q → p := by intro hq; refine Z.l rfl rfl (by rfl) (Z.keepS hs) Z.b25 ?_; exact hq.out) : p := f ⟨h⟩
theorem g15 {p q : Prop} (h : q) (f : Hid q → p := by intro hq; refine Z.l rfl rfl (by rfl) (Z.keepS hs) (Z.Yd.pickT rfl rfl) ?_; exact hq.out) : p := f ⟨h⟩
theorem g16 {p q : Prop} (h : q) (f : Hid q → p := by intro hq; refine Z.l rfl rfl (by rfl) (Z.keepS hs) (Z.Yd.lenS rfl Tryz.underlying34) ?_; exact hq.out) : p := f ⟨h⟩
theorem g17 {p q : Prop} (h : q) (f : Hid q → p := by intro hq; refine Z.ZO.box rfl rfl (by rfl) rfl rfl hs ?_; exact hq.out) : p := f ⟨h⟩
theorem g18 {p q : Prop} (h : q) (f : Hid q → p := by intro hq; refine Z.l rfl rfl (by rfl) (Z.keepS hs) (Z.Yd.pure rfl) ?_; exact hq.out) : p := f ⟨h⟩
theorem g19 {p q : Prop} (h : q) (f : Hid q → p := by intro hq; refine Z.l rfl rfl (by rfl) (Z.keepS hs) (Z.Yd.sub rfl rfl (fun hG => Z.wi64 Z.b3)) ?_; exact hq.out) : p := f ⟨h⟩
theorem g20 {p q : Prop} (h : q) (f : Hid q → p := by intro hq; refine Z.outDp Tryz.call26 (mx_caught_pan g9 _ _ _ _ _ [SX.Ent.blk g8 _ _] _ _ (hs.lend (L1 := [SX.Ent.blk g9 _ _, SX.Ent.blk g8 _ _])) Tryz.call63 (fun W hW ↦ mx_clearBuild g8 _ _ W hW)) ?_; exact hq.out) : p := f ⟨h⟩
theorem g21 {p q : Prop} (h : q) (f : Hid q → p := by intro hq; refine Z.l rfl rfl (by rfl) (Z.keepS hs) (Z.Yd.fieldA (m := 2) rfl Z.b4) ?_; exact hq.out) : p := f ⟨h⟩
theorem g22 {p q : Prop} (h : q) (f : Hid q → p := by intro hq; refine Z.lb 2 rfl ?_; exact hq.out) : p := f ⟨h⟩
theorem g23 {p q : Prop} (h : q) (f : Hid q → p := by intro hq; refine Z.ZO.store rfl rfl hs Tryz.sizeOf3 rfl rfl rfl Z.b1 Z.b8 ?_; exact hq.out) : p := f ⟨h⟩
theorem g24 {p q : Prop} (h : q) (f : Hid q → p := by intro hq; refine Z.l rfl rfl (by rfl) (Z.keepS hs) (Z.Yd.elem rfl rfl Tryz.underlying34 Tryz.sizeOf3 (fun hG => ⟨Z.b3, Z.b3⟩)) ?_; exact hq.out) : p := f ⟨h⟩
theorem g25 {p q : Prop} (h : q) (f : Hid q → p := by intro hq; refine Z.l rfl rfl (by rfl) (Z.keepS hs) (Z.Yd.lenS rfl Tryz.underlying47) ?_; exact hq.out) : p := f ⟨h⟩
theorem g26 {p q : Prop} (h : q) (f : Hid q → p := by intro hq; refine Z.tk (Dn := fun _ => true) (i := 8) (fun _ => ⟨_, hs, Z.b2⟩) ?_; refine Z.td (by rfl) Z.b4 ?_; refine Z.only [0, 1, 2, 3] rfl ?_; exact hq.out) : p := f ⟨h⟩
theorem g27 {p q : Prop} (h : q) (f : Hid q → p := by intro hq; refine Z.l rfl rfl (by rfl) (Z.keepS hs) Z.b28 ?_; refine Z.l rfl rfl (by rfl) (Z.keepS hs) (Z.Yd.lenS rfl Tryz.underlying48) ?_; exact hq.out) : p := f ⟨h⟩
theorem g28 {p q : Prop} (h : q) (f : Hid q → p := by intro hq; refine Z.tn 30 rfl rfl Z.b4 rfl trivial ?_; refine Z.ZO.quiet rfl (by rfl) (Z.keepS hs) (Z.Yd.nilc rfl rfl) ?_; refine Z.tk (Dn := fun j => j != 33) (i := 30) (fun _ => ⟨_, hs, Z.b2⟩) ?_; refine Z.tn 31 rfl rfl Z.b4 rfl trivial ?_; refine Z.ZO.quiet rfl (by rfl) (Z.keepS hs) (Z.Yd.fieldA (m := 0) rfl Z.b4) ?_; refine Z.tk (Dn := fun j => j != 33) (i := 31) (fun _ => ⟨_, hs, Z.b2⟩) ?_; refine Z.t 32 rfl rfl rfl (by rfl) Z.b4 ⟨_, hs, Z.b2⟩ (Z.Yd.fieldA (m := 2) rfl Z.b4) ?_; refine Z.tn 33 rfl rfl Z.b4 rfl trivial ?_; refine Z.ZO.store rfl rfl hs Tryz.sizeOf4 rfl rfl rfl Z.b1 Z.b8 ?_; exact hq.out) : p := f ⟨h⟩
theorem g29 {p q : Prop} (h : q) (f : Hid q → p := by intro hq; refine Z.tk (Dn := fun _ => true) (i := 7) (fun _ => ⟨_, hs, Z.b2⟩) ?_; refine Z.tn 8 rfl rfl Z.b4 rfl trivial ?_; exact hq.out) : p := f ⟨h⟩
theorem g30 {p q : Prop} (h : q) (f : Hid q → p := by intro hq; refine Z.nthen ?_; refine Z.g0 ?_; exact hq.out) : p := f ⟨h⟩
theorem g31 {p q : Prop} (h : q) (f : Hid q → p := by intro hq; refine Z.g22 ?_; refine Z.lnil ?_; exact hq.out) : p := f ⟨h⟩
theorem g32 {p q : Prop} (h : q) (f : Hid q → p := by intro hq; refine Z.lb 1 rfl ?_; refine Z.g3 ?_; exact hq.out) : p := f ⟨h⟩
theorem g33 {p q : Prop} (h : q) (f : Hid q → p := by intro hq; refine Z.only [2] rfl ?_; refine Z.g6 ?_; exact hq.out) : p := f ⟨h⟩
theorem g34 {p q : Prop} (h : q) (f : Hid q → p := by intro hq; refine Z.region ?_; refine Z.g5 ?_; refine Z.g1 ?_; exact hq.out) : p := f ⟨h⟩
theorem g35 {p q : Prop} (h : q) (f : Hid q → p := by intro hq; refine Z.seq ?_; refine Z.block ?_; exact hq.out) : p := f ⟨h⟩
theorem g36 {p q : Prop} (h : q) (f : Hid q → p := by intro hq; refine Z.l rfl rfl (by rfl) (Z.keepS hs) (Z.Yd.convI rfl ⟨_, Tryz.underlying123⟩ Tryz.underlying5 (fun hG => Z.wu8 Z.b3)) ?_; exact hq.out) : p := f ⟨h⟩
theorem g37 {p q : Prop} (h : q) (f : Hid q → p := by intro hq; refine Z.tk (Dn := fun _ => true) (i := 2) (fun _ => ⟨_, hs, Z.b2⟩) ?_; exact hq.out) : p := f ⟨h⟩
theorem g38 {p q : Prop} (h : q) (f : Hid q → p := by intro hq; refine Z.ZO.append (i0 := Tryz.t3) (size := 1) (bytes := 8) rfl rfl (by rfl) hs Tryz.underlying34 Z.b4 rfl rfl rfl rfl Z.b12 rfl rfl Z.b1 Z.b1 Z.b24 Z.b45 Z.b12 Z.b23 Z.b9 ?_; exact hq.out) : p := f ⟨h⟩
theorem g39 {p q : Prop} (h : q) (f : Hid q → p := by intro hq; refine Z.ZO.alloc rfl rfl (by rfl) Tryz.zeroValue31 rfl hs ?_; exact hq.out) : p := f ⟨h⟩
theorem g40 {p q : Prop} (h : q) (f : Hid q → p := by intro hq; refine Z.l rfl rfl (by rfl) (Z.keepS hs) (Z.Yd.buildL [(0, 1), (1, 1)] [.int .u64 0, .int .i64 0] rfl rfl Z.b15) ?_; exact hq.out) : p := f ⟨h⟩
theorem g41 {p q : Prop} (h : q) (f : Hid q → p := by intro hq; refine Z.l rfl rfl (by rfl) (Z.keepS hs) (Z.Yd.elem rfl rfl Tryz.underlying47 Tryz.sizeOf77 (fun hG => ⟨Z.b3, Z.b3⟩)) ?_; refine Z.l rfl rfl (by rfl) (Z.keepS hs) (Z.Yd.loadA _ rfl Tryz.isAgg77 (fun _ W hK j u hu => Z.cellXq (enc := MpV.cells) hx2.sx mp_len hqi hu W hK) Z.b18) ?_; exact hq.out) : p := f ⟨h⟩
theorem g42 {p q : Prop} (h : q) (f : Hid q → p := by intro hq; refine Z.tXP 0 [0, 13, 14, 15, 16] (fun _ _ _ _ _ h => h) rfl rfl rfl (by rfl) Z.b4 ⟨_, hs, Z.b2⟩ (Z.Yd.pure rfl) ?_; refine Z.tXP 1 [1, 2, 3, 4, 5, 12, 13, 14, 15, 16] (fun _ _ _ _ _ h => h) rfl rfl rfl (by rfl) Z.b4 ⟨_, hs, Z.b2⟩ (Z.Yd.pure rfl) ?_; refine Z.tXP 2 [2, 3, 4, 5, 12, 13, 14, 15, 16] (fun _ _ _ _ _ h => h) rfl rfl rfl (by rfl) Z.b4 ⟨_, hs, Z.b2⟩ (Z.Yd.nilc rfl rfl) ?_; refine Z.tXP 3 [3, 4, 5, 12, 13, 14, 15, 16] (fun _ _ _ _ _ h => h) rfl rfl rfl (by rfl) Z.b4 ⟨_, hs, Z.b2⟩ (Z.Yd.fieldA (m := 1) rfl Z.b4) ?_; exact hq.out) : p := f ⟨h⟩
theorem g43 {p q : Prop} (h : q) (f : Hid q → p := by intro hq; refine Z.ls rfl rfl rfl (by rfl) ?_; exact hq.out) : p := f ⟨h⟩
theorem g44 {p q : Prop} (h : q) (f : Hid q → p := by intro hq; refine Z.tk (Dn := fun _ => true) (i := 5) (fun _ => ⟨_, hs, Z.b2⟩) ?_; exact hq.out) : p := f ⟨h⟩
theorem g45 {p q : Prop} (h : q) (f : Hid q → p := by intro hq; refine Z.l rfl rfl (by rfl) (Z.keepS hs) (Z.Yd.convI rfl ⟨_, Tryz.underlying5⟩ Tryz.underlying3 (fun hG => Z.wi64 Z.b3)) ?_; exact hq.out) : p := f ⟨h⟩
theorem g46 {p q : Prop} (h : q) (f : Hid q → p := by intro hq; refine Z.tkP (Dn := fun j => j != 16) (i := 12) (fun _ => ⟨_, hs, Z.b2⟩) ?_; refine Z.tnP 13 rfl rfl Z.b4 rfl trivial ?_; refine Z.ZO.quiet rfl (by rfl) (Z.keepS hs) (Z.Yd.nilc rfl rfl) ?_; refine Z.tkP (Dn := fun j => j != 16) (i := 13) (fun _ => ⟨_, hs, Z.b2⟩) ?_; refine Z.tnP 14 rfl rfl Z.b4 rfl trivial ?_; refine Z.ZO.quiet rfl (by rfl) (Z.keepS hs) (Z.Yd.fieldA (m := 1) rfl Z.b4) ?_; refine Z.tkP (Dn := fun j => j != 16) (i := 14) (fun _ => ⟨_, hs, Z.b2⟩) ?_; exact hq.out) : p := f ⟨h⟩
theorem g47 {p q : Prop} (h : q) (f : Hid q → p := by intro hq; refine Z.ZO.store rfl rfl hs Tryz.sizeOf31 rfl rfl rfl Z.b1 Z.b8 ?_; exact hq.out) : p := f ⟨h⟩
theorem g48 {p q : Prop} (h : q) (f : Hid q → p := by intro hq; refine Z.outDp Tryz.call26 (mx_caught_pan g11 _ _ _ _ _ [SX.Ent.blk g10 _ _] _ _ (hs.lend (L1 := [SX.Ent.blk g11 _ _, SX.Ent.blk g10 _ _])) Tryz.call39 (fun W hW ↦ mx_clearPlan g10 _ _ W hW)) ?_; exact hq.out) : p := f ⟨h⟩
theorem g49 {p q : Prop} (h : q) (f : Hid q → p := by intro hq; refine Z.tb [0, 1] Z.b4 rfl ⟨_, hs, Z.b2⟩ rfl ?_; refine Z.t 2 rfl rfl rfl (by rfl) Z.b4 ⟨_, hs, Z.b2⟩ (Z.Yd.nilc rfl rfl) ?_; refine Z.t 3 rfl rfl rfl (by rfl) Z.b4 ⟨_, hs, Z.b2⟩ (Z.Yd.fieldA (m := 0) rfl Z.b4) ?_; exact hq.out) : p := f ⟨h⟩
theorem g50 {p q : Prop} (h : q) (f : Hid q → p := by intro hq; refine Z.tb [0] Z.b4 rfl ⟨_, hs, Z.b2⟩ rfl ?_; refine Z.t 1 rfl rfl rfl (by rfl) Z.b4 ⟨_, hs, Z.b2⟩ (Z.Yd.nilc rfl rfl) ?_; refine Z.t 2 rfl rfl rfl (by rfl) Z.b4 ⟨_, hs, Z.b2⟩ (Z.Yd.fieldA (m := 0) rfl Z.b4) ?_; exact hq.out) : p := f ⟨h⟩
theorem g51 {p q : Prop} (h : q) (f : Hid q → p := by intro hq; refine Z.ZO.call rfl rfl (by rfl) rfl rfl Tryz.call13 rfl (num29 _ _) ?_; exact hq.out) : p := f ⟨h⟩
theorem g52 {p q : Prop} (h : q) (f : Hid q → p := by intro hq; refine Z.out1 Z.b7 ?_; exact hq.out) : p := f ⟨h⟩
theorem g53 {p q : Prop} (h : q) (f : Hid q → p := by intro hq; refine Z.g10 ?_; refine Z.g21 ?_; refine Z.l rfl rfl (by rfl) (Z.keepS hs) Z.b38 ?_; refine Z.l rfl rfl (by rfl) (Z.keepS hs) (Z.Yd.ptrNnil rfl rfl Tryz.underlying53) ?_; exact hq.out) : p := f ⟨h⟩
theorem g54 {p q : Prop} (h : q) (f : Hid q → p := by intro hq; refine Z.ZO.call rfl rfl (by rfl) rfl rfl Tryz.call162 rfl (mm_bits_ok g T sv l (8 * p) 1 _ hs.lend hl hb Z.b9 Z.b9) ?_; exact hq.out) : p := f ⟨h⟩
theorem g55 {p q : Prop} (h : q) (f : Hid q → p := by intro hq; refine Z.ZO.call rfl rfl (by rfl) rfl rfl Tryz.call126 rfl (mc_formats _) ?_; exact hq.out) : p := f ⟨h⟩
theorem g56 {p q : Prop} (h : q) (f : Hid q → p := by intro hq; refine Z.tkP (Dn := fun j => j != 16) (i := 7) (fun _ => ⟨_, hs, Z.b2⟩) ?_; refine Z.tXP 8 [8, 10, 11, 12, 13, 14, 15, 16] (fun _ _ _ _ _ h => h) rfl rfl rfl (by rfl) Z.b4 ⟨_, hs, Z.b2⟩ (Z.Yd.pure rfl) ?_; refine Z.tXP 9 [9, 10, 11, 12, 13, 14, 15, 16] (fun _ _ _ _ _ h => h) rfl rfl rfl (by rfl) Z.b4 ⟨_, hs, Z.b2⟩ (Z.Yd.pure rfl) ?_; refine Z.tnP 10 rfl rfl Z.b4 rfl trivial ?_; exact hq.out) : p := f ⟨h⟩
theorem g57 {p q : Prop} (h : q) (f : Hid q → p := by intro hq; refine Z.ZO.alloc rfl rfl (by rfl) Tryz.zeroValue77 rfl hs ?_; exact hq.out) : p := f ⟨h⟩
theorem g58 {p q : Prop} (h : q) (f : Hid q → p := by intro hq; refine Z.ZO.litL (T' := 3) [(0, 1)] [.int .i64 0] rfl rfl (by rfl) rfl rfl Z.b19 hs ?_; exact hq.out) : p := f ⟨h⟩
theorem g59 {p q : Prop} (h : q) (f : Hid q → p := by intro hq; refine Z.l rfl rfl (by rfl) (Z.keepS hs) (Z.Yd.elemA rfl rfl Tryz.underlying37 Tryz.sizeOf3 (fun hG => ⟨Z.b3, Z.b3⟩)) ?_; exact hq.out) : p := f ⟨h⟩
theorem g60 {p q : Prop} (h : q) (f : Hid q → p := by intro hq; refine Z.nthen ?_; refine Z.seq ?_; refine Z.g0 ?_; exact hq.out) : p := f ⟨h⟩
theorem g61 {p q : Prop} (h : q) (f : Hid q → p := by intro hq; refine Z.lnil ?_; refine Z.only [1, 2, 3] rfl ?_; refine Z.g30 ?_; refine Z.g32 ?_; refine Z.ZO.defer rfl rfl rfl rfl ?_; refine Z.lnil ?_; refine Z.only [1, 2, 3] rfl ?_; exact hq.out) : p := f ⟨h⟩
theorem g62 {p q : Prop} (h : q) (f : Hid q → p := by intro hq; refine Z.only [4] rfl ?_; refine Z.g6 ?_; exact hq.out) : p := f ⟨h⟩
theorem g63 {p q : Prop} (h : q) (f : Hid q → p := by intro hq; refine Z.g22 ?_; refine Z.g3 ?_; exact hq.out) : p := f ⟨h⟩
theorem g64 {p q : Prop} (h : q) (f : Hid q → p := by intro hq; refine Z.lb 1 rfl ?_; exact hq.out) : p := f ⟨h⟩
theorem g65 {p q : Prop} (h : q) (f : Hid q → p := by intro hq; refine Z.g1 ?_; refine Z.only [0, 1] rfl ?_; exact hq.out) : p := f ⟨h⟩
theorem g66 {p q : Prop} (h : q) (f : Hid q → p := by intro hq; refine Z.g2 ?_; refine Z.g43 ?_; refine Z.g8 ?_; refine Z.lsU rfl rfl rfl (by rfl) ?_; refine Z.lsU rfl rfl rfl (by rfl) ?_; refine Z.g43 ?_; refine Z.g13 ?_; exact hq.out) : p := f ⟨h⟩
theorem g67 {p q : Prop} (h : q) (f : Hid q → p := by intro hq; refine Z.g37 ?_; refine Z.t 3 rfl rfl rfl (by rfl) Z.b4 ⟨_, hs, Z.b2⟩ (Z.Yd.index (v := .agg #[.int .u64 1, .int .i64 15, .int .i64 32767]) rfl rfl Z.b46) ?_; exact hq.out) : p := f ⟨h⟩
theorem g68 {p q : Prop} (h : q) (f : Hid q → p := by intro hq; refine Z.td (by rfl) Z.b4 ?_; exact hq.out) : p := f ⟨h⟩
theorem g69 {p q : Prop} (h : q) (f : Hid q → p := by intro hq; refine Z.ZO.litL (T' := 77) [(0, 2)] [.int .i64 0, .slice none 0 0] rfl rfl (by rfl) rfl rfl Z.b19 hs ?_; exact hq.out) : p := f ⟨h⟩
theorem g70 {p q : Prop} (h : q) (f : Hid q → p := by intro hq; refine Z.tk (Dn := fun _ => true) (i := 6) (fun _ => ⟨_, hs, Z.b2⟩) ?_; exact hq.out) : p := f ⟨h⟩
theorem g71 {p q : Prop} (h : q) (f : Hid q → p := by intro hq; refine Z.skip ?_; refine Z.nblock ?_; exact hq.out) : p := f ⟨h⟩
theorem g72 {p q : Prop} (h : q) (f : Hid q → p := by intro hq; refine Z.l rfl rfl (by rfl) (Z.keepS hs) (Z.Yd.fieldA (m := 3) rfl Z.b4) ?_; exact hq.out) : p := f ⟨h⟩
theorem g73 {p q : Prop} (h : q) (f : Hid q → p := by intro hq; refine Z.ZO.call rfl rfl (by rfl) rfl rfl Tryz.call144 rfl (group_ok r.group _ hg) ?_; exact hq.out) : p := f ⟨h⟩
theorem g74 {p q : Prop} (h : q) (f : Hid q → p := by intro hq; refine Z.l rfl rfl (by rfl) (Z.keepS hs) Z.b27 ?_; refine Z.g9 ?_; refine Z.g14 ?_; exact hq.out) : p := f ⟨h⟩
theorem g75 {p q : Prop} (h : q) (f : Hid q → p := by intro hq; refine Z.ZO.store rfl rfl hs Tryz.sizeOf4 rfl rfl rfl Z.b1 Z.b8 ?_; exact hq.out) : p := f ⟨h⟩
theorem g76 {p q : Prop} (h : q) (f : Hid q → p := by intro hq; refine Z.ZO.alloc rfl rfl (by rfl) Tryz.zeroValue211 rfl hs ?_; exact hq.out) : p := f ⟨h⟩
theorem g77 {p q : Prop} (h : q) (f : Hid q → p := by intro hq; refine Z.l rfl rfl (by rfl) (Z.keepS hs) (Z.Yd.loadA _ rfl Tryz.isAgg26 (fun _ => Z.cellsB (cs := [.slice A n cc, .int .i64 a, .int .i64 b, .int .i64 c, .int .i64 d, .bool up]) Z.b0) (by exact Tryz.sizeOf26)) ?_; exact hq.out) : p := f ⟨h⟩
theorem g78 {p q : Prop} (h : q) (f : Hid q → p := by intro hq; refine Z.l rfl rfl (by rfl) (Z.keepS hs) (Z.Yd.convI rfl ⟨_, Tryz.underlying3⟩ Tryz.underlying123 (fun hG => Z.wu64 Z.b3)) ?_; exact hq.out) : p := f ⟨h⟩
theorem g79 {p q : Prop} (h : q) (f : Hid q → p := by intro hq; refine Z.ZO.alloc rfl rfl (by rfl) Tryz.zeroValue215 rfl hs ?_; exact hq.out) : p := f ⟨h⟩
theorem g80 {p q : Prop} (h : q) (f : Hid q → p := by intro hq; refine Z.ZO.quiet rfl (by rfl) (Z.keepS hs) (Z.Yd.nilc rfl rfl) ?_; exact hq.out) : p := f ⟨h⟩
theorem g81 {p q : Prop} (h : q) (f : Hid q → p := by intro hq; refine Z.ZO.alloc rfl rfl (by rfl) Tryz.zeroValue37 rfl hs ?_; exact hq.out) : p := f ⟨h⟩
theorem g82 {p q : Prop} (h : q) (f : Hid q → p := by intro hq; refine Z.only [0] rfl ?_; exact hq.out) : p := f ⟨h⟩
theorem g83 {p q : Prop} (h : q) (f : Hid q → p := by intro hq; refine Z.tk (Dn := fun _ => true) (i := 4) (fun _ => ⟨_, hs, Z.b2⟩) ?_; exact hq.out) : p := f ⟨h⟩
theorem g84 {p q : Prop} (h : q) (f : Hid q → p := by intro hq; refine Z.ZO.store rfl rfl hs Tryz.sizeOf48 rfl rfl rfl Z.b1 Z.b8 ?_; exact hq.out) : p := f ⟨h⟩
theorem g85 {p q : Prop} (h : q) (f : Hid q → p := by intro hq; refine Z.tn 7 rfl rfl Z.b4 rfl trivial ?_; refine Z.g7 ?_; exact hq.out) : p := f ⟨h⟩
theorem g86 {p q : Prop} (h : q) (f : Hid q → p := by intro hq; refine Z.g4 ?_; refine Z.l rfl rfl (by rfl) (Z.keepS hs) Z.b31 ?_; exact hq.out) : p := f ⟨h⟩
theorem g87 {p q : Prop} (h : q) (f : Hid q → p := by intro hq; refine Z.ZO.append (i0 := Tryz.t194) (size := 2) (bytes := 16) rfl rfl (by rfl) hs Tryz.underlying191 Z.b4 rfl rfl rfl rfl Z.b12 rfl rfl Z.b1 Z.b1 Z.b24 Z.b45 Z.b12 Z.b23 Z.b9 ?_; exact hq.out) : p := f ⟨h⟩
theorem g88 {p q : Prop} (h : q) (f : Hid q → p := by intro hq; refine Z.ZO.append (i0 := Tryz.t77) (size := 2) (bytes := 32) rfl rfl (by rfl) hs Tryz.underlying47 Z.b4 rfl rfl rfl rfl Z.b12 rfl rfl Z.b1 Z.b1 Z.b24 Z.b45 Z.b12 Z.b23 Z.b9 ?_; exact hq.out) : p := f ⟨h⟩
theorem g89 {p q : Prop} (h : q) (f : Hid q → p := by intro hq; refine Z.tXP 6 [6, 7, 8, 9, 10, 11, 12, 13, 14, 15, 16] (fun _ _ _ _ _ h => h) rfl rfl rfl (by rfl) Z.b4 ⟨_, hs, Z.b2⟩ (Z.Yd.loadA _ rfl Tryz.isAgg77 (fun _ => Z.cellsB (cs := q.cells) Z.b0) Z.b18) ?_; refine Z.tnP 7 rfl rfl Z.b4 rfl trivial ?_; exact hq.out) : p := f ⟨h⟩
theorem g90 {p q : Prop} (h : q) (f : Hid q → p := by intro hq; refine Z.g0 ?_; refine Z.g3 ?_; refine Z.g17 ?_; exact hq.out) : p := f ⟨h⟩
theorem g91 {p q : Prop} (h : q) (f : Hid q → p := by intro hq; refine Z.skip ?_; refine Z.nthen ?_; refine Z.g35 ?_; exact hq.out) : p := f ⟨h⟩
theorem g92 {p q : Prop} (h : q) (f : Hid q → p := by intro hq; refine Z.g30 ?_; refine Z.lb 3 rfl ?_; exact hq.out) : p := f ⟨h⟩
theorem g93 {p q : Prop} (h : q) (f : Hid q → p := by intro hq; refine Z.g1 ?_; refine Z.only [0, 2] rfl ?_; refine Z.g60 ?_; refine Z.g31 ?_; refine Z.only [0, 2, 4] rfl ?_; exact hq.out) : p := f ⟨h⟩
theorem g94 {p q : Prop} (h : q) (f : Hid q → p := by intro hq; refine Z.l rfl rfl (by rfl) (Z.keepS hs) (Z.Yd.index (v := .agg #[.int .u64 0, .int .i64 7, .int .i64 127]) rfl rfl Z.b46) ?_; refine Z.l rfl rfl (by rfl) (Z.keepS hs) (by exact Z.Yd.fieldL 2 1 rfl rfl Z.b15) ?_; refine Z.g64 ?_; refine Z.yes (s := 19) (b := false) rfl rfl rfl ?_; refine Z.g13 ?_; refine Z.yes (s := 15) (b := true) rfl rfl rfl ?_; refine Z.g15 ?_; exact hq.out) : p := f ⟨h⟩
theorem g95 {p q : Prop} (h : q) (f : Hid q → p := by intro hq; refine Z.g32 ?_; refine Z.ZO.defer rfl rfl rfl rfl ?_; refine Z.lnil ?_; exact hq.out) : p := f ⟨h⟩
theorem g96 {p q : Prop} (h : q) (f : Hid q → p := by intro hq; refine Z.tk (Dn := fun j => j != 7) (i := 7) (fun h => absurd h Z.b12) ?_; refine Z.g68 ?_; refine Z.only [6] rfl ?_; refine Z.g6 ?_; exact hq.out) : p := f ⟨h⟩
theorem g97 {p q : Prop} (h : q) (f : Hid q → p := by intro hq; refine Z.g4 ?_; refine Z.g14 ?_; exact hq.out) : p := f ⟨h⟩
theorem g98 {p q : Prop} (h : q) (f : Hid q → p := by intro hq; refine Z.g9 ?_; refine Z.l rfl rfl (by rfl) (Z.keepS hs) Z.b49 ?_; refine Z.l rfl rfl (by rfl) (Z.keepS hs) (Z.Yd.lenS rfl Tryz.underlying58) ?_; exact hq.out) : p := f ⟨h⟩
theorem g99 {p q : Prop} (h : q) (f : Hid q → p := by intro hq; refine Z.seq ?_; refine Z.drawK (fun _ => true) mixed hs ?_; exact hq.out) : p := f ⟨h⟩
theorem g100 {p q : Prop} (h : q) (f : Hid q → p := by intro hq; refine Z.g22 ?_; refine Z.g36 ?_; refine Z.l rfl rfl (by rfl) (Z.keepS hs) (Z.Yd.index (v := .int .u8 3) rfl rfl Z.b46) ?_; refine Z.g45 ?_; refine Z.g5 ?_; exact hq.out) : p := f ⟨h⟩
theorem g101 {p q : Prop} (h : q) (f : Hid q → p := by intro hq; refine Z.l rfl rfl (by rfl) (Z.keepS hs) Z.b32 ?_; refine Z.l rfl rfl (by rfl) (Z.keepS hs) (Z.Yd.lenS rfl Tryz.underlying22) ?_; exact hq.out) : p := f ⟨h⟩
theorem g102 {p q : Prop} (h : q) (f : Hid q → p := by intro hq; refine Z.block ?_; refine Z.loopk (ι := Nat) [0, 1, 7] rfl (fun k => [(8, [], .int .i64 (k : Int))]) (fun k wr => (k ≤ n ∧ ∀ x ∈ l.take k, p x = false) ∧ SX.St w [] wr []) (fun k => n - k) 0 Z.b6 ⟨⟨by omega, by simp⟩, hs⟩ ?_; exact hq.out) : p := f ⟨h⟩
theorem g103 {p q : Prop} (h : q) (f : Hid q → p := by intro hq; refine Z.l rfl rfl (by rfl) (Z.keepS hs) (Z.Yd.loadA _ rfl Tryz.isAgg77 (fun _ => Z.cellsB (cs := [.int .i64 3, .slice (some ⟨g12, 0, none⟩) 2 2]) Z.b0) Z.b18) ?_; exact hq.out) : p := f ⟨h⟩
theorem g104 {p q : Prop} (h : q) (f : Hid q → p := by intro hq; refine Z.l rfl rfl (by rfl) (Z.keepS hs) (Z.Yd.lenS rfl Tryz.underlying48) ?_; exact hq.out) : p := f ⟨h⟩
theorem g105 {p q : Prop} (h : q) (f : Hid q → p := by intro hq; refine Z.tn 5 rfl rfl Z.b4 rfl trivial ?_; refine Z.g7 ?_; exact hq.out) : p := f ⟨h⟩
theorem g106 {p q : Prop} (h : q) (f : Hid q → p := by intro hq; refine Z.g72 ?_; refine Z.l rfl rfl (by rfl) (Z.keepS hs) Z.b53 ?_; refine Z.l rfl rfl (by rfl) (Z.keepS hs) (Z.Yd.lenS rfl Tryz.underlying59) ?_; exact hq.out) : p := f ⟨h⟩
theorem g107 {p q : Prop} (h : q) (f : Hid q → p := by intro hq; refine Z.outDp Tryz.call107 (mm_caught_pan g3 _ _ _ _ _ [SX.Ent.blk g2 _ _] _ _ (hs.lend (L2 := [])) Tryz.call108 (fun W hW ↦ mm_clearP g2 _ _ W hW)) ?_; exact hq.out) : p := f ⟨h⟩
theorem g108 {p q : Prop} (h : q) (f : Hid q → p := by intro hq; refine Z.tkC (C := Z.lv2 _ _ [17, 18, 19, 20, 21, 22]) (i := 22) ⟨⟨_, hs, Z.b2⟩, fun h => absurd h Z.b12⟩ ?_; refine Z.tdC (by rfl) Z.b4 ?_; refine Z.only [0, 4, 18, 19, 20] rfl ?_; refine Z.nblock ?_; exact hq.out) : p := f ⟨h⟩
theorem g109 {p q : Prop} (h : q) (f : Hid q → p := by intro hq; refine Z.ZO.store rfl rfl hs Tryz.sizeOf34 rfl rfl rfl Z.b1 Z.b8 ?_; exact hq.out) : p := f ⟨h⟩
theorem g110 {p q : Prop} (h : q) (f : Hid q → p := by intro hq; refine Z.ZO.call rfl rfl (by rfl) rfl rfl Tryz.call145 rfl (must_ok _ 2 _ Z.b41) ?_; exact hq.out) : p := f ⟨h⟩
theorem g111 {p q : Prop} (h : q) (f : Hid q → p := by intro hq; refine Z.g63 ?_; refine Z.ZO.insert rfl rfl hs rfl rfl rfl Tryz.underlying119 Tryz.underlying3 Z.b1 (by rfl) ?_; exact hq.out) : p := f ⟨h⟩
theorem g112 {p q : Prop} (h : q) (f : Hid q → p := by intro hq; refine Z.t 4 rfl rfl rfl (by rfl) Z.b4 ⟨_, hs, Z.b2⟩ (Z.Yd.fieldA (m := 0) rfl Z.b4) ?_; exact hq.out) : p := f ⟨h⟩
theorem g113 {p q : Prop} (h : q) (f : Hid q → p := by intro hq; refine Z.ZO.quiet rfl (by rfl) (Z.keepS hs) (Z.Yd.fieldA (m := 0) rfl Z.b4) ?_; exact hq.out) : p := f ⟨h⟩
theorem g114 {p q : Prop} (h : q) (f : Hid q → p := by intro hq; refine Z.ZO.quiet rfl (by rfl) (Z.keepS hs) (Z.Yd.fieldA (m := 1) rfl Z.b4) ?_; refine Z.tkC (C := Z.lv2 _ _ [17, 18, 19, 20, 21, 22]) (i := 21) ⟨⟨_, hs, Z.b2⟩, fun h => absurd h Z.b12⟩ ?_; exact hq.out) : p := f ⟨h⟩
theorem g115 {p q : Prop} (h : q) (f : Hid q → p := by intro hq; refine Z.enter Tryz.func181 rfl Tryz.ntmps181 rfl rfl ?_; exact hq.out) : p := f ⟨h⟩
theorem g116 {p q : Prop} (h : q) (f : Hid q → p := by intro hq; refine Z.ZO.store rfl rfl hs Tryz.sizeOf47 rfl rfl rfl Z.b1 Z.b8 ?_; exact hq.out) : p := f ⟨h⟩
theorem g117 {p q : Prop} (h : q) (f : Hid q → p := by intro hq; refine Z.le rfl Z.b7 ?_; exact hq.out) : p := f ⟨h⟩
theorem g118 {p q : Prop} (h : q) (f : Hid q → p := by intro hq; refine Z.l rfl rfl (by rfl) (Z.keepS hs) (Z.Yd.fieldA (m := 5) rfl Z.b4) ?_; exact hq.out) : p := f ⟨h⟩
theorem g119 {p q : Prop} (h : q) (f : Hid q → p := by intro hq; refine Z.ZO.litL (T' := 211) [(0, 2), (2, 2)] [.int .u64 0, .int .i64 0, .int .u64 0, .int .i64 0] rfl rfl (by rfl) rfl rfl Z.b19 hs ?_; exact hq.out) : p := f ⟨h⟩
theorem g120 {p q : Prop} (h : q) (f : Hid q → p := by intro hq; refine Z.g0 ?_; refine Z.g1 ?_; exact hq.out) : p := f ⟨h⟩
theorem g121 {p q : Prop} (h : q) (f : Hid q → p := by intro hq; refine Z.nthen ?_; refine Z.region ?_; exact hq.out) : p := f ⟨h⟩
theorem g122 {p q : Prop} (h : q) (f : Hid q → p := by intro hq; refine Z.lnil ?_; refine Z.only [4] rfl ?_; refine Z.g30 ?_; refine Z.g31 ?_; refine Z.g33 ?_; exact hq.out) : p := f ⟨h⟩
theorem g123 {p q : Prop} (h : q) (f : Hid q → p := by intro hq; refine Z.g60 ?_; refine Z.g64 ?_; exact hq.out) : p := f ⟨h⟩
theorem g124 {p q : Prop} (h : q) (f : Hid q → p := by intro hq; refine Z.g3 ?_; refine Z.g7 ?_; exact hq.out) : p := f ⟨h⟩
theorem g125 {p q : Prop} (h : q) (f : Hid q → p := by intro hq; refine Z.g4 ?_; refine Z.l rfl rfl (by rfl) (Z.keepS hs) Z.b43 ?_; refine Z.g22 ?_; refine Z.yes (s := 15) (b := true) rfl rfl rfl ?_; exact hq.out) : p := f ⟨h⟩
theorem g126 {p q : Prop} (h : q) (f : Hid q → p := by intro hq; refine Z.only [2, 3] rfl ?_; refine Z.g6 ?_; exact hq.out) : p := f ⟨h⟩
theorem g127 {p q : Prop} (h : q) (f : Hid q → p := by intro hq; refine Z.g44 ?_; refine Z.g68 ?_; refine Z.only [1, 3] rfl ?_; exact hq.out) : p := f ⟨h⟩
theorem g128 {p q : Prop} (h : q) (f : Hid q → p := by intro hq; refine Z.out0n trivial ?_; exact hq.out) : p := f ⟨h⟩
theorem g129 {p q : Prop} (h : q) (f : Hid q → p := by intro hq; refine Z.ZO.call rfl rfl (by rfl) rfl rfl Tryz.call10 rfl (works29 _) ?_; exact hq.out) : p := f ⟨h⟩
theorem g130 {p q : Prop} (h : q) (f : Hid q → p := by intro hq; refine Z.l rfl rfl (by rfl) (Z.keepS hs) Z.b29 ?_; exact hq.out) : p := f ⟨h⟩
theorem g131 {p q : Prop} (h : q) (f : Hid q → p := by intro hq; refine Z.ZO.alloc rfl rfl (by rfl) Tryz.zeroValue237 rfl hs ?_; exact hq.out) : p := f ⟨h⟩
theorem g132 {p q : Prop} (h : q) (f : Hid q → p := by intro hq; refine Z.l rfl rfl (by rfl) (Z.keepS hs) (Z.Yd.elem rfl rfl Tryz.underlying22 Tryz.sizeOf75 (fun hG => ⟨Z.b3, Z.b3⟩)) ?_; exact hq.out) : p := f ⟨h⟩
theorem g133 {p q : Prop} (h : q) (f : Hid q → p := by intro hq; refine Z.ZO.append (i0 := Tryz.t149) (size := 6) (bytes := 48) rfl rfl (by rfl) hs Tryz.underlying145 Z.b4 rfl rfl rfl rfl Z.b12 rfl rfl Z.b1 Z.b1 Z.b24 Z.b45 Z.b12 Z.b23 Z.b9 ?_; exact hq.out) : p := f ⟨h⟩
theorem g134 {p q : Prop} (h : q) (f : Hid q → p := by intro hq; refine Z.g2 ?_; refine Z.g43 ?_; refine Z.g43 ?_; refine Z.g15 ?_; exact hq.out) : p := f ⟨h⟩
theorem g135 {p q : Prop} (h : q) (f : Hid q → p := by intro hq; refine Z.only [0, 1, 2, 3, 10, 11, 12, 13, 40, 41, 42] rfl ?_; exact hq.out) : p := f ⟨h⟩
theorem g136 {p q : Prop} (h : q) (f : Hid q → p := by intro hq; refine Z.l rfl rfl (by rfl) (Z.keepS hs) (Z.Yd.buildL [(0, 1), (1, 1), (2, 4)] [.bool false, .int .i64 0, .int .i64 0, .int .i64 0, .int .i64 0, .int .i64 0] rfl rfl Z.b15) ?_; exact hq.out) : p := f ⟨h⟩
theorem g137 {p q : Prop} (h : q) (f : Hid q → p := by intro hq; refine Z.ZO.storeR rfl rfl hs Tryz.sizeOf3 rfl rfl rfl Z.b1 Z.b42 ?_; exact hq.out) : p := f ⟨h⟩
theorem g138 {p q : Prop} (h : q) (f : Hid q → p := by intro hq; refine Z.l rfl rfl (by rfl) (Z.keepS hs) (Z.Yd.bin rfl rfl Z.b69) ?_; exact hq.out) : p := f ⟨h⟩
theorem g139 {p q : Prop} (h : q) (f : Hid q → p := by intro hq; refine Z.ZO.insert rfl rfl hs rfl rfl rfl Tryz.underlying264 Tryz.underlying3 Z.b1 (by rfl) ?_; exact hq.out) : p := f ⟨h⟩
theorem g140 {p q : Prop} (h : q) (f : Hid q → p := by intro hq; refine Z.g9 ?_; refine Z.g14 ?_; exact hq.out) : p := f ⟨h⟩
theorem g141 {p q : Prop} (h : q) (f : Hid q → p := by intro hq; refine Z.tn 2 rfl rfl Z.b4 rfl trivial ?_; exact hq.out) : p := f ⟨h⟩
theorem g142 {p q : Prop} (h : q) (f : Hid q → p := by intro hq; refine Z.only [0, 1, 4, 5] rfl ?_; exact hq.out) : p := f ⟨h⟩
theorem g143 {p q : Prop} (h : q) (f : Hid q → p := by intro hq; refine Z.l rfl rfl (by rfl) (Z.keepS hs) Z.b37 ?_; exact hq.out) : p := f ⟨h⟩
theorem g144 {p q : Prop} (h : q) (f : Hid q → p := by intro hq; refine Z.ZO.call rfl rfl (by rfl) rfl rfl Tryz.call168 rfl (rgetbytes_any g T sv l (8 * p) _ _ hs.lend hl Z.b9 hb) ?_; exact hq.out) : p := f ⟨h⟩
theorem g145 {p q : Prop} (h : q) (f : Hid q → p := by intro hq; refine Z.t 0 rfl rfl rfl (by rfl) Z.b4 ⟨_, hs, Z.b2⟩ (Z.Yd.fieldA (m := 1) rfl Z.b4) ?_; exact hq.out) : p := f ⟨h⟩
theorem g146 {p q : Prop} (h : q) (f : Hid q → p := by intro hq; refine Z.g37 ?_; refine Z.t 3 rfl rfl rfl (by rfl) Z.b4 ⟨_, hs, Z.b2⟩ (Z.Yd.index (v := .agg #[.int .u64 0, .int .i64 7, .int .i64 127]) rfl rfl Z.b46) ?_; exact hq.out) : p := f ⟨h⟩
theorem g147 {p q : Prop} (h : q) (f : Hid q → p := by intro hq; refine Z.tk (Dn := fun _ => true) (i := 0) (fun _ => ⟨_, hs, Z.b2⟩) ?_; exact hq.out) : p := f ⟨h⟩
theorem g148 {p q : Prop} (h : q) (f : Hid q → p := by intro hq; refine Z.g32 ?_; refine Z.ZO.call rfl rfl (by rfl) rfl rfl hk Z.b17 (hcl _ (SX.St.lend (L1 := L) (L2 := [SX.Ent.blk ge Te #[x]]) (hs.rot (L1 := [_])))) ?_; exact hq.out) : p := f ⟨h⟩
theorem g149 {p q : Prop} (h : q) (f : Hid q → p := by intro hq; refine Z.g65 ?_; refine Z.g92 ?_; exact hq.out) : p := f ⟨h⟩
theorem g150 {p q : Prop} (h : q) (f : Hid q → p := by intro hq; refine Z.nthen ?_; refine Z.seq ?_; exact hq.out) : p := f ⟨h⟩
theorem g151 {p q : Prop} (h : q) (f : Hid q → p := by intro hq; refine Z.skip ?_; refine Z.g30 ?_; exact hq.out) : p := f ⟨h⟩
theorem g152 {p q : Prop} (h : q) (f : Hid q → p := by intro hq; refine Z.g0 ?_; refine Z.g31 ?_; exact hq.out) : p := f ⟨h⟩
theorem g153 {p q : Prop} (h : q) (f : Hid q → p := by intro hq; refine Z.lnil ?_; refine Z.only [] rfl ?_; exact hq.out) : p := f ⟨h⟩
theorem g154 {p q : Prop} (h : q) (f : Hid q → p := by intro hq; refine Z.g1 ?_; refine Z.g33 ?_; exact hq.out) : p := f ⟨h⟩
theorem g155 {p q : Prop} (h : q) (f : Hid q → p := by intro hq; refine Z.g120 ?_; refine Z.g82 ?_; exact hq.out) : p := f ⟨h⟩
theorem g156 {p q : Prop} (h : q) (f : Hid q → p := by intro hq; refine Z.g3 ?_; refine Z.g23 ?_; exact hq.out) : p := f ⟨h⟩
theorem g157 {p q : Prop} (h : q) (f : Hid q → p := by intro hq; refine Z.g64 ?_; refine Z.g10 ?_; exact hq.out) : p := f ⟨h⟩
theorem g158 {p q : Prop} (h : q) (f : Hid q → p := by intro hq; refine Z.only [4, 5] rfl ?_; refine Z.g6 ?_; exact hq.out) : p := f ⟨h⟩
theorem g159 {p q : Prop} (h : q) (f : Hid q → p := by intro hq; refine Z.g60 ?_; refine Z.g32 ?_; exact hq.out) : p := f ⟨h⟩
theorem g160 {p q : Prop} (h : q) (f : Hid q → p := by intro hq; refine Z.g125 ?_; refine Z.yes (s := 19) (b := true) rfl (Z.b17) rfl ?_; refine Z.g134 ?_; refine Z.yes (s := 15) (b := true) rfl rfl rfl ?_; refine Z.g15 ?_; exact hq.out) : p := f ⟨h⟩
theorem g161 {p q : Prop} (h : q) (f : Hid q → p := by intro hq; refine Z.g22 ?_; refine Z.g36 ?_; refine Z.l rfl rfl (by rfl) (Z.keepS hs) (Z.Yd.index (v := .int .u8 4) rfl rfl Z.b46) ?_; refine Z.g45 ?_; refine Z.g5 ?_; exact hq.out) : p := f ⟨h⟩
theorem g162 {p q : Prop} (h : q) (f : Hid q → p := by intro hq; refine Z.only [0, 1, 2, 3, 8, 9, 10, 21, 22, 23] rfl ?_; exact hq.out) : p := f ⟨h⟩
theorem g163 {p q : Prop} (h : q) (f : Hid q → p := by intro hq; refine Z.outDp Tryz.call107 (mm_caught_pan g5 _ _ _ _ _ [SX.Ent.blk g4 _ _] _ _ (hs.lend (L2 := [])) Tryz.call121 (fun W hW ↦ mm_clearB g4 _ _ W hW)) ?_; exact hq.out) : p := f ⟨h⟩
theorem g164 {p q : Prop} (h : q) (f : Hid q → p := by intro hq; refine Z.ZO.alloc rfl rfl (by rfl) Tryz.zeroValue48 rfl hs ?_; exact hq.out) : p := f ⟨h⟩
theorem g165 {p q : Prop} (h : q) (f : Hid q → p := by intro hq; refine Z.ZO.alloc rfl rfl (by rfl) Tryz.zeroValue86 rfl hs ?_; exact hq.out) : p := f ⟨h⟩
theorem g166 {p q : Prop} (h : q) (f : Hid q → p := by intro hq; refine Z.g63 ?_; refine Z.ZO.call rfl rfl (by rfl) rfl rfl Tryz.call66 rfl (mc_Need A n c ps _ (hx.st (hs.sub (List.nil_sublist _))) hl Z.b9 hf) ?_; exact hq.out) : p := f ⟨h⟩
theorem g167 {p q : Prop} (h : q) (f : Hid q → p := by intro hq; refine Z.only [0, 1, 4, 5, 7, 8, 9, 46, 47, 48] rfl ?_; exact hq.out) : p := f ⟨h⟩
theorem g168 {p q : Prop} (h : q) (f : Hid q → p := by intro hq; refine Z.only [0, 1, 2, 3, 8, 9] rfl ?_; exact hq.out) : p := f ⟨h⟩
theorem g169 {p q : Prop} (h : q) (f : Hid q → p := by intro hq; refine Z.only [0, 1, 2, 3, 4, 10, 11] rfl ?_; exact hq.out) : p := f ⟨h⟩
theorem g170 {p q : Prop} (h : q) (f : Hid q → p := by intro hq; refine Z.ZO.litL (T' := 194) [(0, 2)] [.int .i64 0, .int .i64 0] rfl rfl (by rfl) rfl rfl Z.b19 hs ?_; exact hq.out) : p := f ⟨h⟩
theorem g171 {p q : Prop} (h : q) (f : Hid q → p := by intro hq; refine Z.t 12 rfl rfl rfl (by rfl) Z.b4 ⟨_, hs, Z.b2⟩ (Z.Yd.elem rfl rfl Tryz.underlying34 Tryz.sizeOf3 (fun hG => ⟨Z.b3, Z.b3⟩)) ?_; exact hq.out) : p := f ⟨h⟩
theorem g172 {p q : Prop} (h : q) (f : Hid q → p := by intro hq; refine Z.only [0, 1, 2, 3, 10, 11, 12, 13, 15, 40, 41, 42] rfl ?_; exact hq.out) : p := f ⟨h⟩
theorem g173 {p q : Prop} (h : q) (f : Hid q → p := by intro hq; refine Z.g113 ?_; refine Z.tkC (C := Z.lv2 _ _ [17, 18, 19, 20, 21, 22]) (i := 18) ⟨⟨_, hs, Z.b2⟩, fun h => absurd h Z.b12⟩ ?_; exact hq.out) : p := f ⟨h⟩
theorem g174 {p q : Prop} (h : q) (f : Hid q → p := by intro hq; refine Z.t 8 rfl rfl rfl (by rfl) Z.b4 ⟨_, hs, Z.b2⟩ (Z.Yd.elem rfl rfl Tryz.underlying34 Tryz.sizeOf3 (fun hG => ⟨Z.b3, Z.b3⟩)) ?_; exact hq.out) : p := f ⟨h⟩
theorem g175 {p q : Prop} (h : q) (f : Hid q → p := by intro hq; refine Z.tk (Dn := fun _ => true) (i := 17) (fun _ => ⟨_, hs, Z.b2⟩) ?_; refine Z.g68 ?_; exact hq.out) : p := f ⟨h⟩
theorem g176 {p q : Prop} (h : q) (f : Hid q → p := by intro hq; refine Z.g80 ?_; refine Z.tkC (C := Z.lv2 _ _ [17, 18, 19, 20, 21, 22]) (i := 17) ⟨⟨_, hs, Z.b2⟩, fun h => absurd h Z.b12⟩ ?_; exact hq.out) : p := f ⟨h⟩
theorem g177 {p q : Prop} (h : q) (f : Hid q → p := by intro hq; refine Z.g4 ?_; refine Z.l rfl rfl (by rfl) (Z.keepS hs) (Z.Yd.load rfl Tryz.isAgg4 (fun _ => Z.cellO hc.1 Z.b17 (hc.2 0 _ rfl))) ?_; exact hq.out) : p := f ⟨h⟩
theorem g178 {p q : Prop} (h : q) (f : Hid q → p := by intro hq; refine Z.tb [6] Z.b4 rfl ⟨_, hs, Z.b2⟩ rfl ?_; refine Z.t 7 rfl rfl rfl (by rfl) Z.b4 ⟨_, hs, Z.b2⟩ (Z.Yd.nilc rfl rfl) ?_; exact hq.out) : p := f ⟨h⟩
theorem g179 {p q : Prop} (h : q) (f : Hid q → p := by intro hq; refine Z.l rfl rfl (by rfl) (Z.keepS hs) Z.b39 ?_; exact hq.out) : p := f ⟨h⟩
theorem g180 {p q : Prop} (h : q) (f : Hid q → p := by intro hq; refine Z.nblock ?_; refine Z.nthen ?_; refine Z.g34 ?_; exact hq.out) : p := f ⟨h⟩
theorem g181 {p q : Prop} (h : q) (f : Hid q → p := by intro hq; refine Z.lnil ?_; refine Z.g82 ?_; refine Z.g30 ?_; refine Z.g31 ?_; refine Z.g62 ?_; exact hq.out) : p := f ⟨h⟩
theorem g182 {p q : Prop} (h : q) (f : Hid q → p := by intro hq; refine Z.g0 ?_; refine Z.g64 ?_; exact hq.out) : p := f ⟨h⟩
theorem g183 {p q : Prop} (h : q) (f : Hid q → p := by intro hq; refine Z.skip ?_; refine Z.g60 ?_; exact hq.out) : p := f ⟨h⟩
theorem g184 {p q : Prop} (h : q) (f : Hid q → p := by intro hq; refine Z.g3 ?_; refine Z.g39 ?_; exact hq.out) : p := f ⟨h⟩
theorem g185 {p q : Prop} (h : q) (f : Hid q → p := by intro hq; refine Z.only [4, 6, 7, 9] rfl ?_; refine Z.g150 ?_; refine Z.drawK (fun j => j != 7) mixed hs ?_; exact hq.out) : p := f ⟨h⟩
theorem g186 {p q : Prop} (h : q) (f : Hid q → p := by intro hq; refine Z.g22 ?_; refine Z.g10 ?_; exact hq.out) : p := f ⟨h⟩
theorem g187 {p q : Prop} (h : q) (f : Hid q → p := by intro hq; refine Z.g5 ?_; refine Z.g1 ?_; exact hq.out) : p := f ⟨h⟩
theorem g188 {p q : Prop} (h : q) (f : Hid q → p := by intro hq; refine Z.only [6, 7] rfl ?_; refine Z.g6 ?_; exact hq.out) : p := f ⟨h⟩
theorem g189 {p q : Prop} (h : q) (f : Hid q → p := by intro hq; refine Z.tkP (Dn := fun j => j != 16) (i := 16) (fun h => absurd h Z.b12) ?_; refine Z.tdP (by rfl) Z.b4 ?_; refine Z.only [] rfl ?_; exact hq.out) : p := f ⟨h⟩
theorem g190 {p q : Prop} (h : q) (f : Hid q → p := by intro hq; refine Z.g80 ?_; refine Z.tkC (C := Z.lv2 _ _ [17, 18, 19, 20, 21, 22]) (i := 20) ⟨⟨_, hs, Z.b2⟩, fun h => absurd h Z.b12⟩ ?_; exact hq.out) : p := f ⟨h⟩
theorem g191 {p q : Prop} (h : q) (f : Hid q → p := by intro hq; refine Z.tn 6 rfl rfl Z.b4 rfl trivial ?_; exact hq.out) : p := f ⟨h⟩
theorem g192 {p q : Prop} (h : q) (f : Hid q → p := by intro hq; refine Z.only [0, 1, 2, 3, 8, 9, 10, 15] rfl ?_; refine Z.g123 ?_; refine Z.g53 ?_; exact hq.out) : p := f ⟨h⟩
theorem g193 {p q : Prop} (h : q) (f : Hid q → p := by intro hq; refine Z.g2 ?_; refine Z.g13 ?_; exact hq.out) : p := f ⟨h⟩
theorem g194 {p q : Prop} (h : q) (f : Hid q → p := by intro hq; refine Z.g29 ?_; refine Z.g7 ?_; exact hq.out) : p := f ⟨h⟩
theorem g195 {p q : Prop} (h : q) (f : Hid q → p := by intro hq; refine Z.tkP (Dn := fun j => j != 16) (i := 10) (fun _ => ⟨_, hs, Z.b2⟩) ?_; refine Z.tnP 11 rfl rfl Z.b4 rfl trivial ?_; exact hq.out) : p := f ⟨h⟩
theorem g196 {p q : Prop} (h : q) (f : Hid q → p := by intro hq; refine Z.tkP (Dn := fun j => j != 16) (i := 11) (fun _ => ⟨_, hs, Z.b2⟩) ?_; refine Z.tnP 12 rfl rfl Z.b4 rfl trivial ?_; exact hq.out) : p := f ⟨h⟩
theorem g197 {p q : Prop} (h : q) (f : Hid q → p := by intro hq; refine Z.ZO.call rfl rfl (by rfl) rfl rfl Tryz.call162 rfl (mm_bits_ok g T sv l (8 * p + 1) 15 _ hs.lend hl hb Z.b9 Z.b9) ?_; exact hq.out) : p := f ⟨h⟩
theorem g198 {p q : Prop} (h : q) (f : Hid q → p := by intro hq; refine Z.l rfl rfl (by rfl) (Z.keepS hs) (Z.Yd.elem rfl rfl Tryz.underlying47 Tryz.sizeOf77 (fun hG => ⟨Z.b3, Z.b3⟩)) ?_; exact hq.out) : p := f ⟨h⟩
theorem g199 {p q : Prop} (h : q) (f : Hid q → p := by intro hq; refine Z.ZO.call rfl rfl (by rfl) rfl rfl Tryz.call162 rfl (mm_bits_ok g T sv l (8 * p + 1) 7 _ hs.lend hl hb Z.b9 Z.b9) ?_; exact hq.out) : p := f ⟨h⟩
theorem g200 {p q : Prop} (h : q) (f : Hid q → p := by intro hq; refine Z.lsU rfl rfl rfl (by rfl) ?_; refine Z.g43 ?_; exact hq.out) : p := f ⟨h⟩
theorem g201 {p q : Prop} (h : q) (f : Hid q → p := by intro hq; refine Z.g9 ?_; refine Z.g27 ?_; exact hq.out) : p := f ⟨h⟩
theorem g202 {p q : Prop} (h : q) (f : Hid q → p := by intro hq; refine Z.tkC (C := Z.lv2 _ _ [17, 18, 19, 20, 21, 22]) (i := 15) ⟨⟨_, hs, Z.b2⟩, fun _ => ⟨_, hs, Z.b2⟩⟩ ?_; exact hq.out) : p := f ⟨h⟩
theorem g203 {p q : Prop} (h : q) (f : Hid q → p := by intro hq; refine Z.tkC (C := Z.lv2 _ _ [17, 18, 19, 20, 21, 22]) (i := 16) ⟨⟨_, hs, Z.b2⟩, fun _ => ⟨_, hs, Z.b2⟩⟩ ?_; exact hq.out) : p := f ⟨h⟩
theorem g204 {p q : Prop} (h : q) (f : Hid q → p := by intro hq; refine Z.l rfl rfl (by rfl) (Z.keepS hs) (Z.Yd.buildL [(0, 1), (1, 1)] [.int .i64 0, .slice none 0 0] rfl rfl Z.b15) ?_; exact hq.out) : p := f ⟨h⟩
theorem g205 {p q : Prop} (h : q) (f : Hid q → p := by intro hq; refine Z.l rfl rfl (by rfl) (Z.keepS hs) (Z.Yd.ptrNil rfl rfl Tryz.underlying187) ?_; exact hq.out) : p := f ⟨h⟩
theorem g206 {p q : Prop} (h : q) (f : Hid q → p := by intro hq; refine Z.l rfl rfl (by rfl) (Z.keepS hs) (Z.Yd.assertYes rfl (by intro v w; kernel_rfl)) ?_; refine Z.lb 5 rfl ?_; exact hq.out) : p := f ⟨h⟩
theorem g207 {p q : Prop} (h : q) (f : Hid q → p := by intro hq; refine Z.tkC (C := Z.lv2 _ _ [17, 18, 19, 20, 21, 22]) (i := 9) ⟨⟨_, hs, Z.b2⟩, fun _ => ⟨_, hs, Z.b2⟩⟩ ?_; exact hq.out) : p := f ⟨h⟩
theorem g208 {p q : Prop} (h : q) (f : Hid q → p := by intro hq; refine Z.ZO.callP rfl rfl rfl Tryz.call162 rfl (mm_bits_bad g T sv l (8 * p + 1) 15 _ hs.lend hl hb Z.b9 Z.b9 Z.b9) ?_; exact hq.out) : p := f ⟨h⟩
theorem g209 {p q : Prop} (h : q) (f : Hid q → p := by intro hq; refine Z.only [10, 11, 124, 125, 126] rfl ?_; exact hq.out) : p := f ⟨h⟩
theorem g210 {p q : Prop} (h : q) (f : Hid q → p := by intro hq; refine Z.nthen ?_; refine Z.block ?_; exact hq.out) : p := f ⟨h⟩
theorem g211 {p q : Prop} (h : q) (f : Hid q → p := by intro hq; refine Z.g11 ?_; refine Z.g30 ?_; exact hq.out) : p := f ⟨h⟩
theorem g212 {p q : Prop} (h : q) (f : Hid q → p := by intro hq; refine Z.lb 5 rfl ?_; refine Z.lnil ?_; exact hq.out) : p := f ⟨h⟩
theorem g213 {p q : Prop} (h : q) (f : Hid q → p := by intro hq; refine Z.g0 ?_; refine Z.g149 ?_; refine Z.g3 ?_; exact hq.out) : p := f ⟨h⟩
theorem g214 {p q : Prop} (h : q) (f : Hid q → p := by intro hq; refine Z.g183 ?_; refine Z.g31 ?_; refine Z.only [0, 2, 14] rfl ?_; exact hq.out) : p := f ⟨h⟩
theorem g215 {p q : Prop} (h : q) (f : Hid q → p := by intro hq; refine Z.g125 ?_; refine Z.yes (s := 19) (b := false) rfl (Z.b17) rfl ?_; refine Z.g64 ?_; refine Z.yes (s := 19) (b := false) rfl rfl rfl ?_; refine Z.g117 ?_; refine Z.g55 ?_; exact hq.out) : p := f ⟨h⟩
theorem g216 {p q : Prop} (h : q) (f : Hid q → p := by intro hq; refine Z.g61 ?_; refine Z.g60 ?_; refine Z.g97 ?_; refine Z.g1 ?_; refine Z.only [1, 2, 3, 10] rfl ?_; exact hq.out) : p := f ⟨h⟩
theorem g217 {p q : Prop} (h : q) (f : Hid q → p := by intro hq; refine Z.only [1] rfl ?_; refine Z.g150 ?_; refine Z.drawL [SX.Ent.blk g1 190 #[.pointer (some ⟨g, 0, none⟩)]] (fun _ => true) mixed hs ?_; exact hq.out) : p := f ⟨h⟩
theorem g218 {p q : Prop} (h : q) (f : Hid q → p := by intro hq; refine Z.g10 ?_; refine Z.g4 ?_; exact hq.out) : p := f ⟨h⟩
theorem g219 {p q : Prop} (h : q) (f : Hid q → p := by intro hq; refine Z.tk (Dn := fun j => j != 33) (i := 33) (fun h => absurd h Z.b12) ?_; refine Z.g68 ?_; refine Z.only [] rfl ?_; exact hq.out) : p := f ⟨h⟩
theorem g220 {p q : Prop} (h : q) (f : Hid q → p := by intro hq; refine Z.tkC (C := Z.lv2 _ _ [17, 18, 19, 20, 21, 22]) (i := 19) ⟨⟨_, hs, Z.b2⟩, fun h => absurd h Z.b12⟩ ?_; exact hq.out) : p := f ⟨h⟩
theorem g221 {p q : Prop} (h : q) (f : Hid q → p := by intro hq; refine Z.lb 3 rfl ?_; exact hq.out) : p := f ⟨h⟩
theorem g222 {p q : Prop} (h : q) (f : Hid q → p := by intro hq; refine Z.ZO.call rfl rfl (by rfl) rfl rfl Tryz.call155 rfl (dbits_ok gr _ sv l 0 2 _ hs.lend Z.b9 hb Z.b9 Z.b9) ?_; exact hq.out) : p := f ⟨h⟩
theorem g223 {p q : Prop} (h : q) (f : Hid q → p := by intro hq; refine Z.g183 ?_; refine Z.g31 ?_; refine Z.only [0, 2, 8] rfl ?_; refine Z.nthen ?_; exact hq.out) : p := f ⟨h⟩
theorem g224 {p q : Prop} (h : q) (f : Hid q → p := by intro hq; refine Z.lnil ?_; refine Z.g142 ?_; refine Z.g30 ?_; refine Z.g95 ?_; refine Z.g142 ?_; refine Z.g30 ?_; refine Z.lb 6 rfl ?_; refine Z.g3 ?_; refine Z.ZO.call rfl rfl (by rfl) rfl rfl Tryz.call109 rfl (mm_must_ok _ 2 _ Z.b41) ?_; exact hq.out) : p := f ⟨h⟩
theorem g225 {p q : Prop} (h : q) (f : Hid q → p := by intro hq; refine Z.g115 ?_; refine Z.g0 ?_; refine Z.g93 ?_; exact hq.out) : p := f ⟨h⟩
theorem g226 {p q : Prop} (h : q) (f : Hid q → p := by intro hq; refine Z.g121 ?_; refine Z.g64 ?_; refine Z.g187 ?_; exact hq.out) : p := f ⟨h⟩
theorem g227 {p q : Prop} (h : q) (f : Hid q → p := by intro hq; refine Z.g16 ?_; refine Z.g1 ?_; exact hq.out) : p := f ⟨h⟩
theorem g228 {p q : Prop} (h : q) (f : Hid q → p := by intro hq; refine Z.only [0, 1, 7, 8] rfl ?_; refine Z.g120 ?_; refine Z.only [0, 1, 7, 8, 9] rfl ?_; refine Z.g150 ?_; exact hq.out) : p := f ⟨h⟩
theorem g229 {p q : Prop} (h : q) (f : Hid q → p := by intro hq; refine Z.nthen ?_; exact hq.out) : p := f ⟨h⟩
theorem g230 {p q : Prop} (h : q) (f : Hid q → p := by intro hq; refine Z.g0 ?_; refine Z.g3 ?_; exact hq.out) : p := f ⟨h⟩
theorem g231 {p q : Prop} (h : q) (f : Hid q → p := by intro hq; refine Z.g1 ?_; refine Z.only [1, 2] rfl ?_; refine Z.g30 ?_; exact hq.out) : p := f ⟨h⟩
theorem g232 {p q : Prop} (h : q) (f : Hid q → p := by intro hq; refine Z.g182 ?_; refine Z.g138 ?_; refine Z.lnil ?_; refine Z.only [0, 1, 4, 9] rfl ?_; exact hq.out) : p := f ⟨h⟩
theorem g233 {p q : Prop} (h : q) (f : Hid q → p := by intro hq; refine Z.region ?_; refine Z.g64 ?_; refine Z.l rfl rfl (by rfl) (Z.keepS hs) (Z.Yd.iface rfl (by intro w; go_simp; try rfl)) ?_; exact hq.out) : p := f ⟨h⟩
theorem g234 {p q : Prop} (h : q) (f : Hid q → p := by intro hq; refine Z.g60 ?_; refine Z.g31 ?_; exact hq.out) : p := f ⟨h⟩
theorem g235 {p q : Prop} (h : q) (f : Hid q → p := by intro hq; refine Z.g71 ?_; refine Z.g229 ?_; refine Z.g34 ?_; exact hq.out) : p := f ⟨h⟩
theorem g236 {p q : Prop} (h : q) (f : Hid q → p := by intro hq; refine Z.lnil ?_; refine Z.only [2, 3, 6] rfl ?_; refine Z.g30 ?_; refine Z.g201 ?_; refine Z.g63 ?_; exact hq.out) : p := f ⟨h⟩
theorem g237 {p q : Prop} (h : q) (f : Hid q → p := by intro hq; refine Z.g3 ?_; refine Z.g47 ?_; exact hq.out) : p := f ⟨h⟩
theorem g238 {p q : Prop} (h : q) (f : Hid q → p := by intro hq; refine Z.g91 ?_; refine Z.g0 ?_; exact hq.out) : p := f ⟨h⟩
theorem g239 {p q : Prop} (h : q) (f : Hid q → p := by intro hq; refine Z.g1 ?_; refine Z.only [10] rfl ?_; refine Z.g6 ?_; exact hq.out) : p := f ⟨h⟩
theorem g240 {p q : Prop} (h : q) (f : Hid q → p := by intro hq; refine Z.enterD Tryz.func68 rfl Tryz.ntmps68 rfl rfl ?_; refine Z.g230 ?_; refine Z.g164 ?_; exact hq.out) : p := f ⟨h⟩
theorem g241 {p q : Prop} (h : q) (f : Hid q → p := by intro hq; refine Z.g155 ?_; refine Z.g30 ?_; exact hq.out) : p := f ⟨h⟩
theorem g242 {p q : Prop} (h : q) (f : Hid q → p := by intro hq; refine Z.g182 ?_; refine Z.g206 ?_; refine Z.lnil ?_; refine Z.only [0, 1, 4, 5, 6] rfl ?_; refine Z.g234 ?_; refine Z.only [0, 1, 4, 5, 16] rfl ?_; refine Z.g229 ?_; exact hq.out) : p := f ⟨h⟩
theorem g243 {p q : Prop} (h : q) (f : Hid q → p := by intro hq; refine Z.g0 ?_; refine Z.g65 ?_; exact hq.out) : p := f ⟨h⟩
theorem g244 {p q : Prop} (h : q) (f : Hid q → p := by intro hq; refine Z.g211 ?_; refine Z.g1 ?_; refine Z.g62 ?_; exact hq.out) : p := f ⟨h⟩
theorem g245 {p q : Prop} (h : q) (f : Hid q → p := by intro hq; refine Z.g18 ?_; refine Z.l rfl rfl (by rfl) (Z.keepS hs) Z.b60 ?_; refine Z.g3 ?_; refine Z.g170 ?_; exact hq.out) : p := f ⟨h⟩
theorem g246 {p q : Prop} (h : q) (f : Hid q → p := by intro hq; refine Z.g127 ?_; refine Z.g30 ?_; refine Z.g74 ?_; exact hq.out) : p := f ⟨h⟩
theorem g247 {p q : Prop} (h : q) (f : Hid q → p := by intro hq; refine Z.g221 ?_; refine Z.lnil ?_; exact hq.out) : p := f ⟨h⟩
theorem g248 {p q : Prop} (h : q) (f : Hid q → p := by intro hq; refine Z.g1 ?_; refine Z.only [1, 2, 3, 4, 5] rfl ?_; exact hq.out) : p := f ⟨h⟩
theorem g249 {p q : Prop} (h : q) (f : Hid q → p := by intro hq; refine Z.g152 ?_; refine Z.only [1, 5] rfl ?_; refine Z.g229 ?_; exact hq.out) : p := f ⟨h⟩
theorem g250 {p q : Prop} (h : q) (f : Hid q → p := by intro hq; refine Z.g3 ?_; refine Z.ZO.alloc rfl rfl (by rfl) Tryz.zeroValue3 rfl hs ?_; exact hq.out) : p := f ⟨h⟩
theorem g251 {p q : Prop} (h : q) (f : Hid q → p := by intro hq; refine Z.lnil ?_; refine Z.only [1, 2, 3, 6] rfl ?_; refine Z.g30 ?_; refine Z.g97 ?_; refine Z.g63 ?_; exact hq.out) : p := f ⟨h⟩
theorem g252 {p q : Prop} (h : q) (f : Hid q → p := by intro hq; refine Z.g229 ?_; exact hq.out) : p := f ⟨h⟩
theorem g253 {p q : Prop} (h : q) (f : Hid q → p := by intro hq; refine Z.g1 ?_; refine Z.only [3, 4] rfl ?_; refine Z.g92 ?_; exact hq.out) : p := f ⟨h⟩
theorem g254 {p q : Prop} (h : q) (f : Hid q → p := by intro hq; refine Z.g3 ?_; refine Z.g57 ?_; exact hq.out) : p := f ⟨h⟩
theorem g255 {p q : Prop} (h : q) (f : Hid q → p := by intro hq; refine Z.lnil ?_; refine Z.only [2, 3, 4] rfl ?_; refine Z.g30 ?_; exact hq.out) : p := f ⟨h⟩
theorem g256 {p q : Prop} (h : q) (f : Hid q → p := by intro hq; refine Z.g252 ?_; exact hq.out) : p := f ⟨h⟩
theorem g257 {p q : Prop} (h : q) (f : Hid q → p := by intro hq; refine Z.yes (s := 40) (b := false) rfl rfl rfl ?_; refine Z.g13 ?_; refine Z.g3 ?_; exact hq.out) : p := f ⟨h⟩
theorem g258 {p q : Prop} (h : q) (f : Hid q → p := by intro hq; refine Z.g25 ?_; refine Z.g1 ?_; exact hq.out) : p := f ⟨h⟩
theorem g259 {p q : Prop} (h : q) (f : Hid q → p := by intro hq; refine Z.g256 ?_; exact hq.out) : p := f ⟨h⟩
theorem g260 {p q : Prop} (h : q) (f : Hid q → p := by intro hq; refine Z.lnil ?_; refine Z.g142 ?_; refine Z.g30 ?_; exact hq.out) : p := f ⟨h⟩
theorem g261 {p q : Prop} (h : q) (f : Hid q → p := by intro hq; refine Z.g1 ?_; refine Z.only [2, 3, 4, 6, 7, 9] rfl ?_; refine Z.g92 ?_; exact hq.out) : p := f ⟨h⟩
theorem g262 {p q : Prop} (h : q) (f : Hid q → p := by intro hq; refine Z.g259 ?_; exact hq.out) : p := f ⟨h⟩
theorem g263 {p q : Prop} (h : q) (f : Hid q → p := by intro hq; refine Z.g30 ?_; refine Z.g97 ?_; refine Z.g3 ?_; exact hq.out) : p := f ⟨h⟩
theorem g264 {p q : Prop} (h : q) (f : Hid q → p := by intro hq; refine Z.g18 ?_; refine Z.lnil ?_; exact hq.out) : p := f ⟨h⟩
theorem g265 {p q : Prop} (h : q) (f : Hid q → p := by intro hq; refine Z.g262 ?_; exact hq.out) : p := f ⟨h⟩
theorem g266 {p q : Prop} (h : q) (f : Hid q → p := by intro hq; refine Z.g61 ?_; refine Z.g30 ?_; refine Z.g4 ?_; refine Z.l rfl rfl (by rfl) (Z.keepS hs) Z.b32 ?_; refine Z.g3 ?_; exact hq.out) : p := f ⟨h⟩
theorem g267 {p q : Prop} (h : q) (f : Hid q → p := by intro hq; refine Z.lnil ?_; exact hq.out) : p := f ⟨h⟩
theorem g268 {p q : Prop} (h : q) (f : Hid q → p := by intro hq; refine Z.g265 ?_; exact hq.out) : p := f ⟨h⟩
theorem g269 {p q : Prop} (h : q) (f : Hid q → p := by intro hq; refine Z.g267 ?_; exact hq.out) : p := f ⟨h⟩
theorem g270 {p q : Prop} (h : q) (f : Hid q → p := by intro hq; refine Z.only [0, 1, 2, 3, 10, 11, 12, 13, 14, 15, 40, 41, 42] rfl ?_; refine Z.g30 ?_; exact hq.out) : p := f ⟨h⟩
theorem g271 {p q : Prop} (h : q) (f : Hid q → p := by intro hq; refine Z.g268 ?_; exact hq.out) : p := f ⟨h⟩
theorem g272 {p q : Prop} (h : q) (f : Hid q → p := by intro hq; refine Z.g269 ?_; exact hq.out) : p := f ⟨h⟩
theorem g273 {p q : Prop} (h : q) (f : Hid q → p := by intro hq; refine Z.only [0, 1, 4, 5, 7, 8, 9, 11, 12, 46, 47, 48] rfl ?_; refine Z.g30 ?_; exact hq.out) : p := f ⟨h⟩
theorem g274 {p q : Prop} (h : q) (f : Hid q → p := by intro hq; refine Z.g271 ?_; exact hq.out) : p := f ⟨h⟩
theorem g275 {p q : Prop} (h : q) (f : Hid q → p := by intro hq; refine Z.g272 ?_; exact hq.out) : p := f ⟨h⟩
theorem g276 {p q : Prop} (h : q) (f : Hid q → p := by intro hq; refine Z.g30 ?_; refine Z.g63 ?_; exact hq.out) : p := f ⟨h⟩
theorem g277 {p q : Prop} (h : q) (f : Hid q → p := by intro hq; refine Z.g274 ?_; exact hq.out) : p := f ⟨h⟩
theorem g278 {p q : Prop} (h : q) (f : Hid q → p := by intro hq; refine Z.g275 ?_; exact hq.out) : p := f ⟨h⟩
theorem g279 {p q : Prop} (h : q) (f : Hid q → p := by intro hq; refine Z.g277 ?_; exact hq.out) : p := f ⟨h⟩
theorem g280 {p q : Prop} (h : q) (f : Hid q → p := by intro hq; refine Z.g278 ?_; exact hq.out) : p := f ⟨h⟩
theorem g281 {p q : Prop} (h : q) (f : Hid q → p := by intro hq; refine Z.g279 ?_; exact hq.out) : p := f ⟨h⟩
theorem g282 {p q : Prop} (h : q) (f : Hid q → p := by intro hq; refine Z.g280 ?_; exact hq.out) : p := f ⟨h⟩
theorem g283 {p q : Prop} (h : q) (f : Hid q → p := by intro hq; refine Z.g281 ?_; exact hq.out) : p := f ⟨h⟩
theorem g284 {p q : Prop} (h : q) (f : Hid q → p := by intro hq; refine Z.g282 ?_; exact hq.out) : p := f ⟨h⟩
theorem g285 {p q : Prop} (h : q) (f : Hid q → p := by intro hq; refine Z.g283 ?_; exact hq.out) : p := f ⟨h⟩
theorem g286 {p q : Prop} (h : q) (f : Hid q → p := by intro hq; refine Z.g284 ?_; exact hq.out) : p := f ⟨h⟩
theorem g287 {p q : Prop} (h : q) (f : Hid q → p := by intro hq; refine Z.g285 ?_; exact hq.out) : p := f ⟨h⟩
theorem g288 {p q : Prop} (h : q) (f : Hid q → p := by intro hq; refine Z.g286 ?_; exact hq.out) : p := f ⟨h⟩
theorem g289 {p q : Prop} (h : q) (f : Hid q → p := by intro hq; refine Z.g287 ?_; exact hq.out) : p := f ⟨h⟩
theorem g290 {p q : Prop} (h : q) (f : Hid q → p := by intro hq; refine Z.g288 ?_; exact hq.out) : p := f ⟨h⟩
theorem g291 {p q : Prop} (h : q) (f : Hid q → p := by intro hq; refine Z.g289 ?_; exact hq.out) : p := f ⟨h⟩
theorem g292 {p q : Prop} (h : q) (f : Hid q → p := by intro hq; refine Z.g290 ?_; exact hq.out) : p := f ⟨h⟩
theorem g293 {p q : Prop} (h : q) (f : Hid q → p := by intro hq; refine Z.g291 ?_; exact hq.out) : p := f ⟨h⟩
theorem g294 {p q : Prop} (h : q) (f : Hid q → p := by intro hq; refine Z.g292 ?_; exact hq.out) : p := f ⟨h⟩
theorem g295 {p q : Prop} (h : q) (f : Hid q → p := by intro hq; refine Z.g293 ?_; exact hq.out) : p := f ⟨h⟩
theorem g296 {p q : Prop} (h : q) (f : Hid q → p := by intro hq; refine Z.g294 ?_; exact hq.out) : p := f ⟨h⟩
theorem g297 {p q : Prop} (h : q) (f : Hid q → p := by intro hq; refine Z.g295 ?_; exact hq.out) : p := f ⟨h⟩
theorem g298 {p q : Prop} (h : q) (f : Hid q → p := by intro hq; refine Z.g296 ?_; exact hq.out) : p := f ⟨h⟩
theorem g299 {p q : Prop} (h : q) (f : Hid q → p := by intro hq; refine Z.g297 ?_; exact hq.out) : p := f ⟨h⟩
theorem g300 {p q : Prop} (h : q) (f : Hid q → p := by intro hq; refine Z.g298 ?_; exact hq.out) : p := f ⟨h⟩
theorem g301 {p q : Prop} (h : q) (f : Hid q → p := by intro hq; refine Z.g299 ?_; exact hq.out) : p := f ⟨h⟩
theorem g302 {p q : Prop} (h : q) (f : Hid q → p := by intro hq; refine Z.g300 ?_; exact hq.out) : p := f ⟨h⟩
theorem g303 {p q : Prop} (h : q) (f : Hid q → p := by intro hq; refine Z.g301 ?_; exact hq.out) : p := f ⟨h⟩
theorem g304 {p q : Prop} (h : q) (f : Hid q → p := by intro hq; refine Z.g302 ?_; exact hq.out) : p := f ⟨h⟩
theorem g305 {p q : Prop} (h : q) (f : Hid q → p := by intro hq; refine Z.g303 ?_; exact hq.out) : p := f ⟨h⟩
theorem g306 {p q : Prop} (h : q) (f : Hid q → p := by intro hq; refine Z.g304 ?_; exact hq.out) : p := f ⟨h⟩
theorem g307 {p q : Prop} (h : q) (f : Hid q → p := by intro hq; refine Z.g305 ?_; exact hq.out) : p := f ⟨h⟩
theorem g308 {p q : Prop} (h : q) (f : Hid q → p := by intro hq; refine Z.g306 ?_; exact hq.out) : p := f ⟨h⟩
theorem g309 {p q : Prop} (h : q) (f : Hid q → p := by intro hq; refine Z.g307 ?_; exact hq.out) : p := f ⟨h⟩
theorem g310 {p q : Prop} (h : q) (f : Hid q → p := by intro hq; refine Z.g308 ?_; exact hq.out) : p := f ⟨h⟩
theorem g311 {p q : Prop} (h : q) (f : Hid q → p := by intro hq; refine Z.g309 ?_; exact hq.out) : p := f ⟨h⟩
theorem g312 {p q : Prop} (h : q) (f : Hid q → p := by intro hq; refine Z.g310 ?_; exact hq.out) : p := f ⟨h⟩
theorem g313 {p q : Prop} (h : q) (f : Hid q → p := by intro hq; refine Z.g311 ?_; exact hq.out) : p := f ⟨h⟩
theorem g314 {p q : Prop} (h : q) (f : Hid q → p := by intro hq; refine Z.g312 ?_; exact hq.out) : p := f ⟨h⟩
end Z
end Go.Proofs.YtbojkoiopkaciaaGreat

/- The orders that a region may take. -/
namespace Go.Proofs.YtbojkoiopkaciaaGreat
theorem mixed : Tryz.prog.follows .mixedOrders = true := by kernel_rfl
end Go.Proofs.YtbojkoiopkaciaaGreat

/- Insertion sort, plainly and in the program. -/
namespace Go.Proofs.YtbojkoiopkaciaaGreat
open Go.RowKit
set_option linter.unusedSimpArgs false
set_option linter.unusedVariables false
--newlaws

def swp (l : List Int) (j : Nat) : List Int := (l.set j (elt l ((j : Int) - 1))).set (j - 1) (elt l (j : Int))
theorem swp_len (l : List Int) (j : Nat) : (swp l j).length = l.length := by simp [swp]
theorem elt_get {l : List Int} {i : Nat} (h : i < l.length) : elt l (i : Int) = l[i] := by simp [elt, h]
theorem elt_swp {l : List Int} {j : Nat} (hj : 0 < j) (hl : j < l.length) (q : Nat) (hq : q < l.length) : elt (swp l j) (q : Int) = if q = j then elt l ((j - 1 : Nat) : Int) else if q = j - 1 then elt l (j : Int) else elt l (q : Int) := by
  have e1 : elt l ((j : Int) - 1) = elt l ((j - 1 : Nat) : Int) := by congr 1; omega
  rw [elt_get (by rw [swp_len]; exact hq)]
  simp only [swp, e1, List.getElem_set]
  by_cases h1 : q = j
  · subst h1
    rw [if_pos rfl, if_neg Z.b9, if_pos rfl]
  rw [if_neg h1]
  by_cases h2 : q = j - 1
  · rw [if_pos h2, if_pos h2.symm]
  rw [if_neg h2, if_neg (fun h => h2 h.symm), if_neg (fun h => h1 h.symm), elt_get hq]
theorem swp_perm {l : List Int} {j : Nat} (hj : 0 < j) (hl : j < l.length) : (swp l j).Perm l := by
  obtain ⟨k, rfl⟩ : ∃ k, j = k + 1 := ⟨j - 1, by omega⟩
  have h1 : l = l.take k ++ l[k] :: l[k + 1] :: l.drop (k + 2) := by
    rw [List.getElem_cons_drop, List.getElem_cons_drop, List.take_append_drop]
  have h2 : swp l (k + 1) = l.take k ++ l[k + 1] :: l[k] :: l.drop (k + 2) := by
    refine List.ext_getElem ?_ fun i hi hi2 => ?_
    · rw [swp_len]; simp; omega
    have hi3 : i < l.length := by rw [swp_len] at hi; exact hi
    have := elt_swp (l := l) (j := k + 1) Z.b9 hl i hi3
    rw [elt_get hi] at this
    rw [this]
    by_cases c1 : i = k + 1
    · subst c1
      rw [if_pos rfl, elt_get Z.b9]
      rw [List.getElem_append_right Z.b41]
      simp [show min k l.length = k from by omega, show k + 1 - k = 1 from by omega]
    rw [if_neg c1]
    by_cases c2 : i = k
    · subst c2
      rw [if_pos Z.b9, elt_get Z.b9]
      rw [List.getElem_append_right Z.b41]
      simp [show min i l.length = i from by omega]
    rw [if_neg Z.b9, elt_get hi3]
    by_cases c3 : i < k
    · rw [List.getElem_append_left Z.b41]
      simp
    rw [List.getElem_append_right Z.b41]
    have : i - min k l.length = (i - (k + 2)) + 2 := by omega
    simp only [List.length_take, this, List.getElem_cons_succ, List.getElem_drop]
    congr 1
    omega
  rw [h2]
  conv => rhs; rw [h1]
  exact List.Perm.append_left _ (List.Perm.swap _ _ _)
def Srt (κ : Int → Int) (l : List Int) (i j : Nat) : Prop := ∀ p q : Nat, p < q → q < i → q ≠ j → κ (elt l (p : Int)) ≤ κ (elt l (q : Int))
theorem Srt.step {κ : Int → Int} {l : List Int} {i j : Nat} (h : Srt κ l i j) (hj : 0 < j) (hi : j < i) (hl : i ≤ l.length) (hlt : κ (elt l (j : Int)) < κ (elt l ((j - 1 : Nat) : Int))) : Srt κ (swp l j) i (j - 1) := by
  intro p q hpq hq hqj
  rw [elt_swp hj Z.b9 p Z.b9, elt_swp hj Z.b9 q Z.b9]
  by_cases q1 : q = j
  · subst q1
    rw [if_pos rfl, if_neg (show ¬ p = q by omega)]
    by_cases p1 : p = q - 1
    · rw [if_pos p1]; omega
    rw [if_neg p1]; exact h p (q - 1) Z.b9 Z.b9 Z.b9
  rw [if_neg q1, if_neg hqj]
  by_cases p1 : p = j
  · rw [if_pos p1]; exact h (j - 1) q Z.b9 hq q1
  rw [if_neg p1]
  by_cases p2 : p = j - 1
  · rw [if_pos p2]; exact h j q Z.b9 hq q1
  rw [if_neg p2]; exact h p q hpq hq q1
theorem Srt.stop {κ : Int → Int} {l : List Int} {i j : Nat} (h : Srt κ l i j) (hj : j = 0 ∨ κ (elt l ((j - 1 : Nat) : Int)) ≤ κ (elt l (j : Int))) : Srt κ l i i := by
  intro p q hpq hq _
  by_cases q1 : q = j
  · subst q1
    rcases hj with h0 | h0
    · omega
    by_cases p1 : p = q - 1
    · subst p1; exact h0
    exact Int.le_trans (h p (q - 1) Z.b9 Z.b9 Z.b9) h0
  exact h p q hpq hq q1
theorem Srt.next {κ : Int → Int} {l : List Int} {i : Nat} (h : Srt κ l i i) : Srt κ l (i + 1) i := fun p q hpq hq hqi => h p q hpq Z.b9 hqi
end Go.Proofs.YtbojkoiopkaciaaGreat

/- Insertion sort in the program. -/
namespace Go.Proofs.YtbojkoiopkaciaaGreat
open Go.RowKit
set_option linter.unusedSimpArgs false
set_option linter.unusedVariables false
--newlaws

theorem ints_swp {l : List Int} {j : Nat} (hj : 0 < j) : ((ints .i64 l).set ((j : Int).toNat * 1) (.int .i64 (elt l ((j : Int) - 1)))).set (((j : Int) - 1).toNat * 1) (.int .i64 (elt l (j : Int))) = ints .i64 (swp l j) := by
  rw [show (j : Int).toNat * 1 = j from by omega, show ((j : Int) - 1).toNat * 1 = j - 1 from by omega]
  simp [ints, swp, List.map_set]
def Cmps (w : World) (M : List Nat) (k : Nat) (cap : Array Value) (κ : Int → Int) (xs : List Int) : Prop :=
  ∀ x ∈ xs, ∀ y ∈ xs, ∀ W L, SX.St w M W L → Calls Tryz.prog k (Value.int .i64 x :: .int .i64 y :: cap.toList).toArray W (SX.Ret fun v w' => (∃ z : Int, v = .int .i64 z ∧ (z < 0 ↔ κ x < κ y)) ∧ SX.St W [] w' [])
set_option maxHeartbeats 1000000 in
set_option maxRecDepth 100000 in
theorem inssort (g n c T k : Nat) (cap : Array Value) (κ : Int → Int) (xs : List Int) (w : World) (hs : SX.St w (SX.idsOf [SX.Ent.row (.slice (some ⟨g, 0, none⟩) n c) T 1 n (ints .i64 xs)]) w [SX.Ent.row (.slice (some ⟨g, 0, none⟩) n c) T 1 n (ints .i64 xs)])
    (hl : xs.length = n) (hn : n ≤ 12) (hk : ∀ args w, (callFunc k args).run Tryz.prog w = .ok (.enter k args) w) (hc : Cmps w (SX.idsOf [SX.Ent.row (.slice (some ⟨g, 0, none⟩) n c) T 1 n (ints .i64 xs)]) k cap κ xs) :
    Calls Tryz.prog 172 #[.slice (some ⟨g, 0, none⟩) n c, .int .i64 0, .int .i64 (n : Int), .func (.func k) #[] cap] w (SX.Ret fun v w' => v = .tuple #[] ∧ ∃ ys, ys.Perm xs ∧ Srt κ ys n n ∧ SX.St w (SX.idsOf [SX.Ent.row (.slice (some ⟨g, 0, none⟩) n c) T 1 n (ints .i64 xs)]) w' [SX.Ent.row (.slice (some ⟨g, 0, none⟩) n c) T 1 n (ints .i64 ys)]) := by
  generalize hM : SX.idsOf [SX.Ent.row (.slice (some ⟨g, 0, none⟩) n c) T 1 n (ints .i64 xs)] = M at *
  refine Z.enter Tryz.func172 rfl Tryz.ntmps172 rfl rfl ?_
  refine Z.g182 ?_
  refine Z.g187 ?_
  refine Z.only [0, 1, 2, 3, 8] rfl ?_
  refine Z.g210 ?_
  refine Z.loopk (ι := Nat × List Int) [0, 1, 2, 3] rfl (fun x => [(8, [], .int .i64 (x.1 : Int))]) (fun x wr => (1 ≤ x.1 ∧ (x.1 ≤ n ∨ x.1 = 1) ∧ x.2.Perm xs ∧ Srt κ x.2 x.1 x.1) ∧ SX.St w M wr [SX.Ent.row (.slice (some ⟨g, 0, none⟩) n c) T 1 n (ints .i64 x.2)]) (fun x => 13 - x.1) (1, xs) Z.b6 ⟨⟨by simp, .inr rfl, List.Perm.refl _, fun p q h1 h2 _ => by simp only at h2; omega⟩, hs⟩ ?_
  clear hs
  rintro ⟨i, ys⟩ w1 ⟨⟨hi1, hi, hp, hS⟩, hs⟩
  refine Z.only [0, 1, 2, 3, 8] rfl ?_
  (try dsimp only at hs)
  dsimp only at hi1 hi hp hS hs
  refine Z.seq ?_
  refine Z.g0 ?_
  refine Z.g247 ?_
  refine Z.only [0, 1, 2, 3, 8, 14] rfl ?_
  refine Z.g313 ?_
  refine Z.cond rfl (fun hc1 => ?_) (fun hc1 => ?_)
  · (try simp at hc1)
    have hin : i < n := by omega
    refine Z.g91 ?_
    refine Z.g152 ?_
    refine Z.g168 ?_
    refine Z.g210 ?_
    refine Z.loopk (ι := Nat × List Int) [0, 1, 2, 3, 8] rfl (fun x => [(9, [], .int .i64 (x.1 : Int))]) (fun x wr => (x.1 ≤ i ∧ x.2.Perm xs ∧ Srt κ x.2 (i + 1) x.1) ∧ SX.St w M wr [SX.Ent.row (.slice (some ⟨g, 0, none⟩) n c) T 1 n (ints .i64 x.2)]) (fun x => x.1) (i, ys) Z.b6 ⟨⟨Nat.le_refl _, hp, hS.next⟩, hs⟩ ?_
    clear hs
    rintro ⟨j, zs⟩ w4 ⟨⟨hj, hp, hS⟩, hs⟩
    refine Z.g168 ?_
    (try dsimp only at hs)
    dsimp only at hj hp hS hs
    have hzl : zs.length = n := by rw [hp.length_eq, hl]
    refine Z.seq ?_
    refine Z.g99 ?_
    clear hs; intro wd4 hs
    refine Z.tb [0, 1, 2, 3] Z.b4 rfl ⟨_, hs, Z.b2⟩ rfl ?_
    refine Z.split (s := 21) rfl (fun hsp21 => ?_) (fun hsp21 => ?_)
    · refine Z.yes (s := 21) (b := true) rfl hsp21 rfl ?_
      (try simp at hsp21)
      have hx1 : elt zs (j : Int) ∈ xs := hp.subset (by rw [elt_get Z.b9]; exact List.getElem_mem _)
      have hx2 : elt zs ((j : Int) - 1) ∈ xs := hp.subset (by rw [show (j : Int) - 1 = ((j - 1 : Nat) : Int) from by omega, elt_get Z.b9]; exact List.getElem_mem _)
      refine Z.tb [4, 5, 6] Z.b4 rfl ⟨_, hs, Z.b2⟩ rfl ?_
      refine Z.t 7 rfl rfl rfl (by rfl) Z.b4 ⟨_, hs, Z.b2⟩ (Z.Yd.elem rfl rfl Tryz.underlying34 Tryz.sizeOf3 (fun hG => ⟨Z.b3, Z.b3⟩)) ?_
      refine Z.t 8 rfl rfl rfl (by rfl) Z.b4 ⟨_, hs, Z.b2⟩ Z.b35 ?_
      refine Z.tb [9, 10] Z.b4 rfl ⟨_, hs, Z.b2⟩ rfl ?_
      refine Z.t 11 rfl rfl rfl (by rfl) Z.b4 ⟨_, hs, Z.b2⟩ (Z.Yd.sub rfl rfl (fun hG => Z.wi64 Z.b3)) ?_
      refine Z.g171 ?_
      refine Z.t 13 rfl rfl rfl (by rfl) Z.b4 ⟨_, hs, Z.b2⟩ Z.b35 ?_
      refine Z.yes (s := 21) (b := true) rfl rfl rfl ?_
      refine Z.tn 14 rfl rfl Z.b4 rfl Z.b7 ?_
      refine Z.ZO.call rfl rfl (by rfl) rfl rfl hk Z.b24 (hc _ hx1 _ hx2 _ _ hs) ?_
      rintro v4_14 w4_14 ⟨⟨z, rfl, hz⟩, hy⟩
      replace hs := Z.w1 (hs.call hy); clear hy
      refine Z.tk (Dn := fun _ => true) (i := 14) (fun _ => ⟨_, hs, Z.b2⟩) ?_
      refine Z.tb [15] Z.b4 rfl ⟨_, hs, Z.b2⟩ rfl ?_
      refine Z.yes (s := 21) (b := true) rfl rfl rfl ?_
      refine Z.t 16 rfl rfl rfl (by rfl) Z.b4 ⟨_, hs, Z.b2⟩ (Z.Yd.pickT rfl rfl) ?_
      refine Z.g68 ?_
      refine Z.only [0, 1, 2, 3, 8, 9, 34] rfl ?_
      refine Z.g313 ?_
      refine Z.cond rfl (fun hc4 => ?_) (fun hc4 => ?_)
      · (try simp at hc4)
        refine Z.g91 ?_
        refine Z.drawL [] (fun _ => true) mixed hs ?_
        clear hs; intro wd6 hs
        refine Z.tb [0, 1, 2, 3] Z.b4 rfl ⟨_, hs, Z.b2⟩ rfl ?_
        refine Z.t 4 rfl rfl rfl (by rfl) Z.b4 ⟨_, hs, Z.b2⟩ (Z.Yd.sub rfl rfl (fun hG => Z.wi64 Z.b3)) ?_
        refine Z.tb [5, 6] Z.b4 rfl ⟨_, hs, Z.b2⟩ rfl ?_
        refine Z.t 7 rfl rfl rfl (by rfl) Z.b4 ⟨_, hs, Z.b2⟩ (Z.Yd.sub rfl rfl (fun hG => Z.wi64 Z.b3)) ?_
        refine Z.g174 ?_
        refine Z.tb [10, 11] Z.b4 rfl ⟨_, hs, Z.b2⟩ rfl ?_
        refine Z.g171 ?_
        refine Z.fork2 9 13 rfl rfl rfl Z.b4 rfl rfl trivial trivial ?_ ?_
        · skip
          refine Z.ZO.quiet rfl (by rfl) (Z.keepS hs) Z.b35 ?_
          refine Z.tk (Dn := fun _ => true) (i := 9) (fun _ => ⟨_, hs, Z.b2⟩) ?_
          refine Z.tn 13 rfl rfl Z.b4 rfl trivial ?_
          refine Z.ZO.quiet rfl (by rfl) (Z.keepS hs) Z.b35 ?_
          refine Z.tk (Dn := fun _ => true) (i := 13) (fun _ => ⟨_, hs, Z.b2⟩) ?_
          refine Z.t 14 rfl rfl rfl (by rfl) Z.b4 ⟨_, hs, Z.b2⟩ (Z.Yd.elem rfl rfl Tryz.underlying34 Tryz.sizeOf3 (fun hG => ⟨Z.b3, Z.b3⟩)) ?_
          refine Z.tn 15 rfl rfl Z.b4 rfl trivial ?_
          refine Z.g137 ?_
          clear hs; intro ws hs
          replace hs := Z.w0 hs
          refine Z.tk (Dn := fun _ => true) (i := 15) (fun _ => ⟨_, hs, Z.b2⟩) ?_
          refine Z.t 16 rfl rfl rfl (by rfl) Z.b4 ⟨_, hs, Z.b2⟩ (Z.Yd.elem rfl rfl Tryz.underlying34 Tryz.sizeOf3 (fun hG => ⟨Z.b3, Z.b3⟩)) ?_
          refine Z.tn 17 rfl rfl Z.b4 rfl trivial ?_
          refine Z.g137 ?_
          clear hs; intro ws hs
          replace hs := Z.w0 hs
          refine Z.g175 ?_
          refine Z.g168 ?_
          refine Z.nblock ?_
          refine Z.g121 ?_
          rw [ints_swp Z.b9] at hs
          refine Z.g18 ?_
          refine Z.g19 ?_
          refine Z.g1 ?_
          refine Z.g168 ?_
          refine Z.g313 ?_
          exact Z.again (j - 1, swp zs j) Z.b50 ⟨⟨by simp only; omega, (swp_perm Z.b9 Z.b9).trans hp, hS.step Z.b9 Z.b9 Z.b9 (by rw [show ((j - 1 : Nat) : Int) = (j : Int) - 1 from by omega]; exact hz.1 Z.b63)⟩, hs⟩ Z.b21
        skip
        refine Z.ZO.quiet rfl (by rfl) (Z.keepS hs) Z.b35 ?_
        refine Z.tk (Dn := fun _ => true) (i := 13) (fun _ => ⟨_, hs, Z.b2⟩) ?_
        refine Z.tn 9 rfl rfl Z.b4 rfl trivial ?_
        refine Z.ZO.quiet rfl (by rfl) (Z.keepS hs) Z.b35 ?_
        refine Z.tk (Dn := fun _ => true) (i := 9) (fun _ => ⟨_, hs, Z.b2⟩) ?_
        refine Z.t 14 rfl rfl rfl (by rfl) Z.b4 ⟨_, hs, Z.b2⟩ (Z.Yd.elem rfl rfl Tryz.underlying34 Tryz.sizeOf3 (fun hG => ⟨Z.b3, Z.b3⟩)) ?_
        refine Z.tn 15 rfl rfl Z.b4 rfl trivial ?_
        refine Z.g137 ?_
        clear hs; intro ws hs
        replace hs := Z.w0 hs
        refine Z.tk (Dn := fun _ => true) (i := 15) (fun _ => ⟨_, hs, Z.b2⟩) ?_
        refine Z.t 16 rfl rfl rfl (by rfl) Z.b4 ⟨_, hs, Z.b2⟩ (Z.Yd.elem rfl rfl Tryz.underlying34 Tryz.sizeOf3 (fun hG => ⟨Z.b3, Z.b3⟩)) ?_
        refine Z.tn 17 rfl rfl Z.b4 rfl trivial ?_
        refine Z.g137 ?_
        clear hs; intro ws hs
        replace hs := Z.w0 hs
        refine Z.g175 ?_
        refine Z.g168 ?_
        refine Z.nblock ?_
        refine Z.g121 ?_
        rw [ints_swp Z.b9] at hs
        refine Z.g18 ?_
        refine Z.g19 ?_
        refine Z.g1 ?_
        refine Z.g168 ?_
        refine Z.g313 ?_
        exact Z.again (j - 1, swp zs j) Z.b50 ⟨⟨by simp only; omega, (swp_perm Z.b9 Z.b9).trans hp, hS.step Z.b9 Z.b9 Z.b9 (by rw [show ((j - 1 : Nat) : Int) = (j : Int) - 1 from by omega]; exact hz.1 Z.b63)⟩, hs⟩ Z.b21
      (try simp at hc4)
      have hst3 : j = 0 ∨ κ (elt zs ((j - 1 : Nat) : Int)) ≤ κ (elt zs (j : Int)) := by
        (right; rw [show ((j - 1 : Nat) : Int) = (j : Int) - 1 from by omega]; exact Int.not_lt.1 fun h => absurd (hz.2 h) Z.b9)
      refine Z.g11 ?_
      refine Z.nblock ?_
      refine Z.g226 ?_
      refine Z.only [0, 1, 2, 3, 8] rfl ?_
      refine Z.g313 ?_
      exact Z.again (i + 1, zs) Z.b11 ⟨⟨by simp only; omega, .inl Z.b21, hp, hS.stop hst3⟩, hs⟩ Z.b21
    refine Z.yes (s := 21) (b := false) rfl hsp21 rfl ?_
    (try simp at hsp21)
    have hst : j = 0 ∨ κ (elt zs ((j - 1 : Nat) : Int)) ≤ κ (elt zs (j : Int)) := .inl Z.b9
    refine Z.t 4 rfl rfl rfl (by rfl) Z.b4 ⟨_, hs, Z.b2⟩ (Z.Yd.off (v := undef) 21 true rfl Z.b52 Z.b70) ?_
    refine Z.t 5 rfl rfl rfl (by rfl) Z.b4 ⟨_, hs, Z.b2⟩ (Z.Yd.off (v := undef) 21 true rfl Z.b52 Z.b70) ?_
    refine Z.t 6 rfl rfl rfl (by rfl) Z.b4 ⟨_, hs, Z.b2⟩ (Z.Yd.off (v := undef) 21 true rfl Z.b52 Z.b70) ?_
    refine Z.t 7 rfl rfl rfl (by rfl) Z.b4 ⟨_, hs, Z.b2⟩ (Z.Yd.off (v := undef) 21 true rfl Z.b52 Z.b70) ?_
    refine Z.t 8 rfl rfl rfl (by rfl) Z.b4 ⟨_, hs, Z.b2⟩ (Z.Yd.off (v := undef) 21 true rfl Z.b52 Z.b70) ?_
    refine Z.t 9 rfl rfl rfl (by rfl) Z.b4 ⟨_, hs, Z.b2⟩ (Z.Yd.off (v := undef) 21 true rfl Z.b52 Z.b70) ?_
    refine Z.t 10 rfl rfl rfl (by rfl) Z.b4 ⟨_, hs, Z.b2⟩ (Z.Yd.off (v := undef) 21 true rfl Z.b52 Z.b70) ?_
    refine Z.t 11 rfl rfl rfl (by rfl) Z.b4 ⟨_, hs, Z.b2⟩ (Z.Yd.off (v := undef) 21 true rfl Z.b52 Z.b70) ?_
    refine Z.t 12 rfl rfl rfl (by rfl) Z.b4 ⟨_, hs, Z.b2⟩ (Z.Yd.off (v := undef) 21 true rfl Z.b52 Z.b70) ?_
    refine Z.t 13 rfl rfl rfl (by rfl) Z.b4 ⟨_, hs, Z.b2⟩ (Z.Yd.off (v := undef) 21 true rfl Z.b52 Z.b70) ?_
    refine Z.yes (s := 21) (b := false) rfl rfl rfl ?_
    refine Z.tnS 21 true 14 rfl rfl Z.b4 rfl rfl Z.b17 rfl (by rfl) (fun _ => ⟨_, hs, Z.b2⟩) ?_
    refine Z.t 15 rfl rfl rfl (by rfl) Z.b4 ⟨_, hs, Z.b2⟩ (Z.Yd.off (v := undef) 21 true rfl Z.b52 Z.b70) ?_
    refine Z.yes (s := 21) (b := false) rfl rfl rfl ?_
    refine Z.t 16 rfl rfl rfl (by rfl) Z.b4 ⟨_, hs, Z.b2⟩ (Z.Yd.pickF rfl rfl) ?_
    refine Z.g68 ?_
    refine Z.only [0, 1, 2, 3, 8, 9, 34] rfl ?_
    refine Z.g313 ?_
    refine Z.cond rfl (fun hc4 => ?_) (fun hc4 => ?_)
    · (exfalso; simp at hc4 <;> omega)
    (try simp at hc4)
    have hst3 : j = 0 ∨ κ (elt zs ((j - 1 : Nat) : Int)) ≤ κ (elt zs (j : Int)) := by
      exact hst
    refine Z.g11 ?_
    refine Z.nblock ?_
    refine Z.g226 ?_
    refine Z.only [0, 1, 2, 3, 8] rfl ?_
    refine Z.g313 ?_
    exact Z.again (i + 1, zs) Z.b11 ⟨⟨by simp only; omega, .inl Z.b21, hp, hS.stop hst3⟩, hs⟩ Z.b21
  (try simp at hc1)
  refine Z.g11 ?_
  refine Z.g128 ?_
  exact ⟨_, rfl, rfl, ys, hp, fun p q h1 h2 h3 => hS p q h1 Z.b9 Z.b9, hs⟩
end Go.Proofs.YtbojkoiopkaciaaGreat

/- Sorting at most ten integers. -/
namespace Go.Proofs.YtbojkoiopkaciaaGreat
open Go.RowKit
set_option linter.unusedSimpArgs false
set_option linter.unusedVariables false
--newlaws

theorem bl64_1 (w : World) : Calls Tryz.prog 181 #[.int .u64 1] w (SX.Ret fun v w' => (∃ z : Int, v = .int .i64 z) ∧ SX.St w [] w' []) := by
  have hs := SX.St.start w
  refine Z.g225 ?_
  refine Z.g313 ?_
  refine Z.cond rfl (fun h => absurd h Z.b17) (fun hc1 => ?_)
  refine Z.g223 ?_
  refine Z.cond rfl (fun h => absurd h Z.b17) (fun hc4 => ?_)
  refine Z.g214 ?_
  refine Z.g313 ?_
  refine Z.cond rfl (fun h => absurd h Z.b17) (fun hc7 => ?_)
  refine Z.g151 ?_
  refine Z.g22 ?_
  refine Z.g36 ?_
  refine Z.l rfl rfl (by rfl) (Z.keepS hs) (Z.Yd.index (v := .int .u8 1) rfl rfl Z.b46) ?_
  refine Z.g45 ?_
  refine Z.g5 ?_
  refine Z.g154 ?_
  refine Z.g52 ?_
  exact ⟨_, rfl, ⟨_, rfl⟩, hs⟩
theorem bl64_2 (w : World) : Calls Tryz.prog 181 #[.int .u64 2] w (SX.Ret fun v w' => (∃ z : Int, v = .int .i64 z) ∧ SX.St w [] w' []) := by
  have hs := SX.St.start w
  refine Z.g225 ?_
  refine Z.g313 ?_
  refine Z.cond rfl (fun h => absurd h Z.b17) (fun hc1 => ?_)
  refine Z.g223 ?_
  refine Z.cond rfl (fun h => absurd h Z.b17) (fun hc4 => ?_)
  refine Z.g214 ?_
  refine Z.g313 ?_
  refine Z.cond rfl (fun h => absurd h Z.b17) (fun hc7 => ?_)
  refine Z.g151 ?_
  refine Z.g22 ?_
  refine Z.g36 ?_
  refine Z.l rfl rfl (by rfl) (Z.keepS hs) (Z.Yd.index (v := .int .u8 2) rfl rfl Z.b46) ?_
  refine Z.g45 ?_
  refine Z.g5 ?_
  refine Z.g154 ?_
  refine Z.g52 ?_
  exact ⟨_, rfl, ⟨_, rfl⟩, hs⟩
theorem bl64_3 (w : World) : Calls Tryz.prog 181 #[.int .u64 3] w (SX.Ret fun v w' => (∃ z : Int, v = .int .i64 z) ∧ SX.St w [] w' []) := by
  have hs := SX.St.start w
  refine Z.g225 ?_
  refine Z.g313 ?_
  refine Z.cond rfl (fun h => absurd h Z.b17) (fun hc1 => ?_)
  refine Z.g223 ?_
  refine Z.cond rfl (fun h => absurd h Z.b17) (fun hc4 => ?_)
  refine Z.g214 ?_
  refine Z.g313 ?_
  refine Z.cond rfl (fun h => absurd h Z.b17) (fun hc7 => ?_)
  refine Z.g151 ?_
  refine Z.g22 ?_
  refine Z.g36 ?_
  refine Z.l rfl rfl (by rfl) (Z.keepS hs) (Z.Yd.index (v := .int .u8 2) rfl rfl Z.b46) ?_
  refine Z.g45 ?_
  refine Z.g5 ?_
  refine Z.g154 ?_
  refine Z.g52 ?_
  exact ⟨_, rfl, ⟨_, rfl⟩, hs⟩
theorem bl64_4 (w : World) : Calls Tryz.prog 181 #[.int .u64 4] w (SX.Ret fun v w' => (∃ z : Int, v = .int .i64 z) ∧ SX.St w [] w' []) := by
  have hs := SX.St.start w
  refine Z.g225 ?_
  refine Z.g313 ?_
  refine Z.cond rfl (fun h => absurd h Z.b17) (fun hc1 => ?_)
  refine Z.g223 ?_
  refine Z.cond rfl (fun h => absurd h Z.b17) (fun hc4 => ?_)
  refine Z.g214 ?_
  refine Z.g313 ?_
  refine Z.cond rfl (fun h => absurd h Z.b17) (fun hc7 => ?_)
  refine Z.g151 ?_
  refine Z.g100 ?_
  refine Z.g154 ?_
  refine Z.g52 ?_
  exact ⟨_, rfl, ⟨_, rfl⟩, hs⟩
theorem bl64_5 (w : World) : Calls Tryz.prog 181 #[.int .u64 5] w (SX.Ret fun v w' => (∃ z : Int, v = .int .i64 z) ∧ SX.St w [] w' []) := by
  have hs := SX.St.start w
  refine Z.g225 ?_
  refine Z.g313 ?_
  refine Z.cond rfl (fun h => absurd h Z.b17) (fun hc1 => ?_)
  refine Z.g223 ?_
  refine Z.cond rfl (fun h => absurd h Z.b17) (fun hc4 => ?_)
  refine Z.g214 ?_
  refine Z.g313 ?_
  refine Z.cond rfl (fun h => absurd h Z.b17) (fun hc7 => ?_)
  refine Z.g151 ?_
  refine Z.g100 ?_
  refine Z.g154 ?_
  refine Z.g52 ?_
  exact ⟨_, rfl, ⟨_, rfl⟩, hs⟩
theorem bl64_6 (w : World) : Calls Tryz.prog 181 #[.int .u64 6] w (SX.Ret fun v w' => (∃ z : Int, v = .int .i64 z) ∧ SX.St w [] w' []) := by
  have hs := SX.St.start w
  refine Z.g225 ?_
  refine Z.g313 ?_
  refine Z.cond rfl (fun h => absurd h Z.b17) (fun hc1 => ?_)
  refine Z.g223 ?_
  refine Z.cond rfl (fun h => absurd h Z.b17) (fun hc4 => ?_)
  refine Z.g214 ?_
  refine Z.g313 ?_
  refine Z.cond rfl (fun h => absurd h Z.b17) (fun hc7 => ?_)
  refine Z.g151 ?_
  refine Z.g100 ?_
  refine Z.g154 ?_
  refine Z.g52 ?_
  exact ⟨_, rfl, ⟨_, rfl⟩, hs⟩
theorem bl64_7 (w : World) : Calls Tryz.prog 181 #[.int .u64 7] w (SX.Ret fun v w' => (∃ z : Int, v = .int .i64 z) ∧ SX.St w [] w' []) := by
  have hs := SX.St.start w
  refine Z.g225 ?_
  refine Z.g313 ?_
  refine Z.cond rfl (fun h => absurd h Z.b17) (fun hc1 => ?_)
  refine Z.g223 ?_
  refine Z.cond rfl (fun h => absurd h Z.b17) (fun hc4 => ?_)
  refine Z.g214 ?_
  refine Z.g313 ?_
  refine Z.cond rfl (fun h => absurd h Z.b17) (fun hc7 => ?_)
  refine Z.g151 ?_
  refine Z.g100 ?_
  refine Z.g154 ?_
  refine Z.g52 ?_
  exact ⟨_, rfl, ⟨_, rfl⟩, hs⟩
theorem bl64_8 (w : World) : Calls Tryz.prog 181 #[.int .u64 8] w (SX.Ret fun v w' => (∃ z : Int, v = .int .i64 z) ∧ SX.St w [] w' []) := by
  have hs := SX.St.start w
  refine Z.g225 ?_
  refine Z.g313 ?_
  refine Z.cond rfl (fun h => absurd h Z.b17) (fun hc1 => ?_)
  refine Z.g223 ?_
  refine Z.cond rfl (fun h => absurd h Z.b17) (fun hc4 => ?_)
  refine Z.g214 ?_
  refine Z.g313 ?_
  refine Z.cond rfl (fun h => absurd h Z.b17) (fun hc7 => ?_)
  refine Z.g151 ?_
  refine Z.g161 ?_
  refine Z.g154 ?_
  refine Z.g52 ?_
  exact ⟨_, rfl, ⟨_, rfl⟩, hs⟩
theorem bl64_9 (w : World) : Calls Tryz.prog 181 #[.int .u64 9] w (SX.Ret fun v w' => (∃ z : Int, v = .int .i64 z) ∧ SX.St w [] w' []) := by
  have hs := SX.St.start w
  refine Z.g225 ?_
  refine Z.g313 ?_
  refine Z.cond rfl (fun h => absurd h Z.b17) (fun hc1 => ?_)
  refine Z.g223 ?_
  refine Z.cond rfl (fun h => absurd h Z.b17) (fun hc4 => ?_)
  refine Z.g214 ?_
  refine Z.g313 ?_
  refine Z.cond rfl (fun h => absurd h Z.b17) (fun hc7 => ?_)
  refine Z.g151 ?_
  refine Z.g161 ?_
  refine Z.g154 ?_
  refine Z.g52 ?_
  exact ⟨_, rfl, ⟨_, rfl⟩, hs⟩
theorem bl64_10 (w : World) : Calls Tryz.prog 181 #[.int .u64 10] w (SX.Ret fun v w' => (∃ z : Int, v = .int .i64 z) ∧ SX.St w [] w' []) := by
  have hs := SX.St.start w
  refine Z.g225 ?_
  refine Z.g313 ?_
  refine Z.cond rfl (fun h => absurd h Z.b17) (fun hc1 => ?_)
  refine Z.g223 ?_
  refine Z.cond rfl (fun h => absurd h Z.b17) (fun hc4 => ?_)
  refine Z.g214 ?_
  refine Z.g313 ?_
  refine Z.cond rfl (fun h => absurd h Z.b17) (fun hc7 => ?_)
  refine Z.g151 ?_
  refine Z.g161 ?_
  refine Z.g154 ?_
  refine Z.g52 ?_
  exact ⟨_, rfl, ⟨_, rfl⟩, hs⟩
theorem bl64 (n : Nat) (w : World) (h1 : 1 ≤ n) (h2 : n ≤ 10) : Calls Tryz.prog 181 #[.int .u64 (n : Int)] w (SX.Ret fun v w' => (∃ z : Int, v = .int .i64 z) ∧ SX.St w [] w' []) := by
  have h : n = 1 ∨ n = 2 ∨ n = 3 ∨ n = 4 ∨ n = 5 ∨ n = 6 ∨ n = 7 ∨ n = 8 ∨ n = 9 ∨ n = 10 := by omega
  rcases h with rfl | rfl | rfl | rfl | rfl | rfl | rfl | rfl | rfl | rfl
  · exact bl64_1 w
  · exact bl64_2 w
  · exact bl64_3 w
  · exact bl64_4 w
  · exact bl64_5 w
  · exact bl64_6 w
  · exact bl64_7 w
  · exact bl64_8 w
  · exact bl64_9 w
  exact bl64_10 w
theorem bitslen (n : Nat) (w : World) (h1 : 1 ≤ n) (h2 : n ≤ 10) : Calls Tryz.prog 132 #[.int .u64 (n : Int)] w (SX.Ret fun v w' => (∃ z : Int, v = .int .i64 z) ∧ SX.St w [] w' []) := by
  have hs := SX.St.start w
  refine Z.enter Tryz.func132 rfl Tryz.ntmps132 rfl rfl ?_
  refine Z.g155 ?_
  refine Z.g150 ?_
  refine Z.cond rfl (fun h => absurd h Z.b17) (fun hc0 => ?_)
  refine Z.g151 ?_
  refine Z.g32 ?_
  refine Z.ZO.call rfl rfl (by rfl) rfl rfl Tryz.call181 rfl (bl64 n _ h1 h2) ?_
  rintro v2_1 w2_1 ⟨⟨z, rfl⟩, hy⟩
  replace hs := Z.w1 (hs.call hy); clear hy
  refine Z.g154 ?_
  refine Z.g52 ?_
  exact ⟨_, rfl, ⟨_, rfl⟩, hs⟩
end Go.Proofs.YtbojkoiopkaciaaGreat

/- slices.SortFunc on at most ten integers. -/
namespace Go.Proofs.YtbojkoiopkaciaaGreat
open Go.RowKit
set_option linter.unusedSimpArgs false
set_option linter.unusedVariables false
--newlaws

theorem pdqsort (g n c T k : Nat) (z : Int) (cap : Array Value) (κ : Int → Int) (xs : List Int) (w : World) (hs : SX.St w (SX.idsOf [SX.Ent.row (.slice (some ⟨g, 0, none⟩) n c) T 1 n (ints .i64 xs)]) w [SX.Ent.row (.slice (some ⟨g, 0, none⟩) n c) T 1 n (ints .i64 xs)])
    (hl : xs.length = n) (hn : n ≤ 10) (hk : ∀ args w, (callFunc k args).run Tryz.prog w = .ok (.enter k args) w) (hc : Cmps w (SX.idsOf [SX.Ent.row (.slice (some ⟨g, 0, none⟩) n c) T 1 n (ints .i64 xs)]) k cap κ xs) :
    Calls Tryz.prog 131 #[.slice (some ⟨g, 0, none⟩) n c, .int .i64 0, .int .i64 (n : Int), .int .i64 z, .func (.func k) #[] cap] w (SX.Ret fun v w' => v = .tuple #[] ∧ ∃ ys, ys.Perm xs ∧ Srt κ ys n n ∧ SX.St w (SX.idsOf [SX.Ent.row (.slice (some ⟨g, 0, none⟩) n c) T 1 n (ints .i64 xs)]) w' [SX.Ent.row (.slice (some ⟨g, 0, none⟩) n c) T 1 n (ints .i64 ys)]) := by
  have hI := inssort g n c T k cap κ xs w hs hl Z.b9 hk hc
  generalize hM : SX.idsOf [SX.Ent.row (.slice (some ⟨g, 0, none⟩) n c) T 1 n (ints .i64 xs)] = M at *
  refine Z.enter Tryz.func131 rfl Tryz.ntmps131 rfl rfl ?_
  refine Z.g120 ?_
  refine Z.only [0, 1, 2, 3, 4, 10] rfl ?_
  refine Z.g30 ?_
  refine Z.g1 ?_
  refine Z.g169 ?_
  refine Z.g210 ?_
  refine Z.loopk (ι := Unit) [0, 4] rfl (fun _ => [(1, [], .int .i64 0), (2, [], .int .i64 (n : Int)), (3, [], .int .i64 z), (10, [], .bool true), (11, [], .bool true)]) (fun _ wr => wr = w ∧ SX.St w M wr [SX.Ent.row (.slice (some ⟨g, 0, none⟩) n c) T 1 n (ints .i64 xs)]) (fun _ => 0) () Z.b11 ⟨rfl, hs⟩ ?_
  clear hs
  rintro _ w1 ⟨rfl, hs⟩
  refine Z.g169 ?_
  refine Z.block ?_
  refine Z.g0 ?_
  refine Z.g22 ?_
  refine Z.g19 ?_
  refine Z.g1 ?_
  refine Z.only [0, 1, 2, 3, 4, 10, 11, 12] rfl ?_
  refine Z.g234 ?_
  refine Z.only [0, 1, 2, 3, 4, 10, 11, 12, 25] rfl ?_
  refine Z.g313 ?_
  refine Z.cond rfl (fun hc3 => ?_) (fun h => absurd h Z.b41)
  refine Z.g0 ?_
  refine Z.lb 4 rfl ?_
  refine Z.g3 ?_
  refine Z.ZO.call rfl rfl (by rfl) rfl rfl Tryz.call172 rfl (hI) ?_
  rintro v4_4 w4_4 ⟨rfl, ys, hp, hS, hz⟩
  refine Z.g153 ?_
  refine Z.g6 ?_
  repeat (first | refine Z.rthen ?_ | refine Z.rblock ?_ | refine Z.rscope ?_)
  refine Z.out0 trivial ?_
  exact ⟨_, rfl, rfl, ys, hp, hS, hz⟩
theorem sortfunc (g n c T k : Nat) (cap : Array Value) (κ : Int → Int) (xs : List Int) (w : World) (hs : SX.St w (SX.idsOf [SX.Ent.row (.slice (some ⟨g, 0, none⟩) n c) T 1 n (ints .i64 xs)]) w [SX.Ent.row (.slice (some ⟨g, 0, none⟩) n c) T 1 n (ints .i64 xs)])
    (hl : xs.length = n) (h1 : 1 ≤ n) (hn : n ≤ 10) (hk : ∀ args w, (callFunc k args).run Tryz.prog w = .ok (.enter k args) w) (hc : Cmps w (SX.idsOf [SX.Ent.row (.slice (some ⟨g, 0, none⟩) n c) T 1 n (ints .i64 xs)]) k cap κ xs) :
    Calls Tryz.prog 74 #[.slice (some ⟨g, 0, none⟩) n c, .func (.func k) #[] cap] w (SX.Ret fun v w' => v = .tuple #[] ∧ ∃ ys, ys.Perm xs ∧ Srt κ ys n n ∧ SX.St w (SX.idsOf [SX.Ent.row (.slice (some ⟨g, 0, none⟩) n c) T 1 n (ints .i64 xs)]) w' [SX.Ent.row (.slice (some ⟨g, 0, none⟩) n c) T 1 n (ints .i64 ys)]) := by
  generalize hM : SX.idsOf [SX.Ent.row (.slice (some ⟨g, 0, none⟩) n c) T 1 n (ints .i64 xs)] = M at *
  refine Z.enter Tryz.func74 rfl Tryz.ntmps74 rfl rfl ?_
  refine Z.g182 ?_
  refine Z.g227 ?_
  refine Z.only [0, 1, 4] rfl ?_
  refine Z.g121 ?_
  refine Z.g221 ?_
  refine Z.l rfl rfl (by rfl) (Z.keepS hs) (Z.Yd.convI rfl ⟨_, Tryz.underlying3⟩ Tryz.underlying223 (fun hG => Z.wu64 Z.b3)) ?_
  refine Z.g3 ?_
  refine Z.ZO.call rfl rfl (by rfl) rfl rfl Tryz.call132 rfl (bitslen n _ h1 hn) ?_
  rintro v1_4 w1_4 ⟨⟨z, rfl⟩, hy⟩
  replace hs := Z.w1 (hs.call hy); clear hy
  refine Z.g32 ?_
  refine Z.ZO.call rfl rfl (by rfl) rfl rfl Tryz.call131 rfl (pdqsort g n c T k z cap κ xs _ (hs.lend (L2 := [])) hl hn hk (fun x hx y hy' W L hW ↦ hc x hx y hy' W L (by have h0 := SX.St.regain (L2 := []) hs hW; rw [List.append_nil] at h0; exact h0))) ?_
  rintro v1_6 w1_6 ⟨rfl, ys, hp, hS, hz⟩
  replace hs := hs.regain (L2 := []) hz
  refine Z.g153 ?_
  refine Z.g128 ?_
  exact ⟨_, rfl, rfl, ys, hp, hS, hs⟩
end Go.Proofs.YtbojkoiopkaciaaGreat

/- Buckets: the state and the steps, plainly; the order of service. -/
namespace Go.Proofs.YtbojkoiopkaciaaGreat
open Go.RowKit
set_option linter.unusedSimpArgs false
set_option linter.unusedVariables false
--newlaws

structure LgV where
  id : Int
  pr : Int
  rt : Int
  dp : Int
  gr : Int
deriving DecidableEq, Inhabited
def LgV.cells (x : LgV) : List Value := [.int .i64 x.id, .int .i64 x.pr, .int .i64 x.rt, .int .i64 x.dp, .int .i64 x.gr]
def chC : LgV × Int → List Value
  | (x, b) => [.int .i64 x.id, .int .i64 x.pr, .int .i64 x.rt, .int .i64 x.dp, .int .i64 x.gr, .int .i64 b]
theorem lg_len (x : LgV) : x.cells.length = 5 := rfl
theorem ch_len (x : LgV × Int) : (chC x).length = 6 := rfl
theorem lg_one (x : LgV) : ∀ u ∈ x.cells, u.oneCell' = true := by simp [LgV.cells, Value.oneCell']
theorem ch_one (x : LgV × Int) : ∀ u ∈ chC x, u.oneCell' = true := by simp [chC, Value.oneCell']
theorem flat_len {α β : Type} {enc : α → List β} {s : Nat} (hs : ∀ x, (enc x).length = s) (l : List α) : (l.flatMap enc).length = l.length * s := by
  induction l with
  | nil => simp
  | cons x l ih => rw [List.flatMap_cons, List.length_append, ih, hs, List.length_cons, Nat.succ_mul]; omega
theorem flat_one {α : Type} {enc : α → List Value} (hs : ∀ x, ∀ u ∈ enc x, u.oneCell' = true) (l : List α) : ∀ u ∈ l.flatMap enc, u.oneCell' = true := by
  intro u hu
  obtain ⟨x, -, hx⟩ := List.mem_flatMap.1 hu
  exact hs x u hx
def okLg (x : LgV) : Prop := (1 ≤ x.id ∧ x.id ≤ 10) ∧ (1 ≤ x.pr ∧ x.pr ≤ 16) ∧ (0 ≤ x.rt ∧ x.rt ≤ 1048576) ∧ (0 ≤ x.dp ∧ x.dp ≤ 16777216) ∧ 0 ≤ x.gr ∧ x.gr ≤ 3
instance (x : LgV) : Decidable (okLg x) := by unfold okLg; infer_instance
def ids (l : List LgV) : Prop := l.Pairwise fun x y => x.id ≠ y.id
instance (l : List LgV) : Decidable (ids l) := by unfold ids; infer_instance
def okSet (l : List LgV) : Prop := (1 ≤ l.length ∧ l.length ≤ 10) ∧ (∀ x ∈ l, okLg x) ∧ ids l
instance (l : List LgV) : Decidable (okSet l) := by unfold okSet; infer_instance
def key (l : List LgV) (i : Int) : Int := l[i.toNat]!.pr * 11 + l[i.toNat]!.id
structure BkV where
  l : List LgV
  b : List Int
  now : Int
deriving DecidableEq
def BkV.chs (m : BkV) : List (LgV × Int) := m.l.zip m.b
structure BkV.ok (m : BkV) : Prop where
  set : okSet m.l
  len : m.b.length = m.l.length
  bd : ∀ i : Nat, i < m.l.length → 0 ≤ elt m.b (i : Int) ∧ elt m.b (i : Int) ≤ m.l[i]!.dp
  now : 0 ≤ m.now ∧ m.now < 1073741824
theorem BkV.ok.chl {m : BkV} (h : m.ok) : m.chs.length = m.l.length := by simp [BkV.chs, h.len]
theorem BkV.ok.chg {m : BkV} (h : m.ok) {i : Nat} (hi : i < m.l.length) : m.chs[i]? = some (m.l[i]!, elt m.b (i : Int)) := by
  have hb : i < m.b.length := by rw [h.len]; exact hi
  rw [List.getElem?_eq_getElem (by rw [h.chl]; exact hi), elt_get hb, getElem!_pos m.l i hi]
  simp [BkV.chs]
theorem okSet.lg {l : List LgV} (h : okSet l) {i : Nat} (hi : i < l.length) : okLg l[i]! := h.2.1 _ (by rw [getElem!_pos l i hi]; exact List.getElem_mem _)
theorem okSet.idne {l : List LgV} (h : okSet l) {i j : Nat} (hi : i < l.length) (hj : j < l.length) (hij : i ≠ j) : l[i]!.id ≠ l[j]!.id := by
  have := List.pairwise_iff_getElem.1 h.2.2
  rw [getElem!_pos l i hi, getElem!_pos l j hj]
  rcases Nat.lt_or_gt_of_ne hij with h1 | h1
  · exact this i j hi hj h1
  exact fun e => this j i hj hi h1 e.symm
theorem okSet.keyinj {l : List LgV} (h : okSet l) {i j : Nat} (hi : i < l.length) (hj : j < l.length) (he : key l (i : Int) = key l (j : Int)) : i = j := by
  refine Decidable.byContradiction fun hne => h.idne hi hj hne ?_
  have h1 := (h.lg hi).1
  have h2 := (h.lg hj).1
  simp only [key, Int.toNat_natCast] at he
  omega
def ordP (l : List LgV) (p : Int) (d : Int) : List Nat := (List.range l.length).filter fun i => decide (l[i]!.pr = p ∧ l[i]!.id = d)
def ordQ (l : List LgV) (p : Int) : List Nat := (List.range 10).flatMap fun (d : Nat) => ordP l p ((d : Int) + 1)
def ordL (l : List LgV) : List Nat := (List.range 16).flatMap fun (p : Nat) => ordQ l ((p : Int) + 1)
theorem mem_ordP {l : List LgV} {p d : Int} {i : Nat} : i ∈ ordP l p d ↔ i < l.length ∧ l[i]!.pr = p ∧ l[i]!.id = d := by simp [ordP]
theorem mem_ordQ {l : List LgV} (h : okSet l) {p : Int} {i : Nat} : i ∈ ordQ l p ↔ i < l.length ∧ l[i]!.pr = p := by
  simp only [ordQ, List.mem_flatMap, List.mem_range, mem_ordP]
  constructor
  · rintro ⟨d, -, h1, h2, -⟩; exact ⟨h1, h2⟩
  rintro ⟨h1, h2⟩
  have h3 := (h.lg h1).1
  exact ⟨(l[i]!.id - 1).toNat, by omega, h1, h2, by omega⟩
theorem mem_ordL {l : List LgV} (h : okSet l) {i : Nat} : i ∈ ordL l ↔ i < l.length := by
  simp only [ordL, List.mem_flatMap, List.mem_range, mem_ordQ h]
  constructor
  · rintro ⟨p, -, h1, -⟩; exact h1
  intro h1
  have h3 := (h.lg h1).2.1
  exact ⟨(l[i]!.pr - 1).toNat, by omega, h1, by omega⟩
theorem pw_flat {α β : Type} {R : β → β → Prop} {f : α → List β} {l : List α} (h1 : ∀ x ∈ l, (f x).Pairwise R) (h2 : l.Pairwise fun x y => ∀ a ∈ f x, ∀ b ∈ f y, R a b) : (l.flatMap f).Pairwise R := List.pairwise_flatMap.2 ⟨h1, h2⟩
theorem ordP_short {l : List LgV} (h : okSet l) (p d : Int) : (ordP l p d).Pairwise fun (i j : Nat) => key l (i : Int) < key l (j : Int) := by
  have h1 : (ordP l p d).Pairwise (· < ·) := List.Pairwise.sublist List.filter_sublist List.pairwise_lt_range
  refine List.Pairwise.imp_of_mem ?_ h1
  intro i j hi hj hlt
  have a := mem_ordP.1 hi
  have b := mem_ordP.1 hj
  exact absurd (a.2.2.trans b.2.2.symm) (h.idne a.1 b.1 Z.b9)
theorem ordQ_key {l : List LgV} (h : okSet l) (p : Int) : (ordQ l p).Pairwise fun (i j : Nat) => key l (i : Int) < key l (j : Int) := by
  refine pw_flat (fun d _ => ordP_short h _ _) ?_
  refine List.Pairwise.imp ?_ List.pairwise_lt_range
  intro d e hde i hi j hj
  obtain ⟨-, a1, a2⟩ := mem_ordP.1 hi
  obtain ⟨-, b1, b2⟩ := mem_ordP.1 hj
  simp only [key, Int.toNat_natCast]
  omega
theorem ordL_key {l : List LgV} (h : okSet l) : (ordL l).Pairwise fun (i j : Nat) => key l (i : Int) < key l (j : Int) := by
  refine pw_flat (fun d _ => ordQ_key h _) ?_
  refine List.Pairwise.imp ?_ List.pairwise_lt_range
  intro d e hde i hi j hj
  obtain ⟨a0, a1⟩ := (mem_ordQ h).1 hi
  obtain ⟨b0, b1⟩ := (mem_ordQ h).1 hj
  have c1 := (h.lg a0).1
  have c2 := (h.lg b0).1
  simp only [key, Int.toNat_natCast]
  omega
theorem ordL_nodup {l : List LgV} (h : okSet l) : (ordL l).Nodup := List.Pairwise.imp (fun {i j} hlt he => by subst he; omega) (ordL_key h)
theorem ordL_perm {l : List LgV} (h : okSet l) : (ordL l).Perm (List.range l.length) := (List.perm_ext_iff_of_nodup (ordL_nodup h) List.nodup_range).2 fun i => by rw [mem_ordL h, List.mem_range]
theorem ordL_len {l : List LgV} (h : okSet l) : (ordL l).length = l.length := by rw [(ordL_perm h).length_eq, List.length_range]
def natI (l : List Nat) : List Int := l.map fun (i : Nat) => (i : Int)
theorem ord_unique {l : List LgV} (h : okSet l) {ys : List Int} (hp : ys.Perm (natI (List.range l.length))) (hS : Srt (key l) ys l.length l.length) : ys = natI (ordL l) := by
  have hl : ys.length = l.length := by rw [hp.length_eq]; simp [natI]
  have hmem : ∀ y ∈ ys, ∃ i : Nat, i < l.length ∧ y = (i : Int) := fun y hy => by
    have := hp.subset hy
    simp only [natI, List.mem_map, List.mem_range] at this
    obtain ⟨i, hi, rfl⟩ := this
    exact ⟨i, hi, rfl⟩
  refine List.Perm.eq_of_pairwise (le := fun x y => key l x ≤ key l y) ?_ ?_ ?_ ?_
  · intro a b ha hb h1 h2
    obtain ⟨i, hi, rfl⟩ := hmem a ha
    simp only [natI, List.mem_map] at hb
    obtain ⟨j, hj, rfl⟩ := hb
    have hj' := (mem_ordL h).1 hj
    rw [h.keyinj hi hj' Z.b9]
  · rw [List.pairwise_iff_getElem]
    intro i j hi hj hij
    have := hS i j hij Z.b9 Z.b9
    rwa [elt_get hi, elt_get hj] at this
  · simp only [natI, List.pairwise_map]
    exact (ordL_key h).imp fun hlt => by omega
  exact hp.trans ((ordL_perm h).symm.map _)
end Go.Proofs.YtbojkoiopkaciaaGreat

/- Buckets: between, valid, every; the searches. -/
namespace Go.Proofs.YtbojkoiopkaciaaGreat
open Go.RowKit
set_option linter.unusedSimpArgs false
set_option linter.unusedVariables false
--newlaws

def idxG {α : Type} (p : α → Bool) (l : List α) : Int := match l.findIdx? p with | some i => (i : Int) | none => -1
theorem idxG_some {α : Type} {p : α → Bool} {l : List α} {k : Nat} (h0 : ∀ x ∈ l.take k, p x = false) (hk : k < l.length) (h1 : p l[k] = true) : idxG p l = (k : Int) := by
  have : l.findIdx? p = some k := by
    rw [List.findIdx?_eq_some_iff_getElem]
    refine ⟨hk, h1, fun j hj => ?_⟩
    have := h0 l[j] (List.mem_take_iff_getElem.2 ⟨j, by omega, rfl⟩)
    simp [this]
  unfold idxG
  rw [this]
theorem idxG_none {α : Type} {p : α → Bool} {l : List α} (h0 : ∀ x ∈ l, p x = false) : idxG p l = -1 := by
  have : l.findIdx? p = none := by
    rw [List.findIdx?_eq_none_iff]
    exact h0
  unfold idxG
  rw [this]
theorem idxG_any {α : Type} (p : α → Bool) (l : List α) : decide (0 ≤ idxG p l) = l.any p := by
  unfold idxG
  cases h : l.findIdx? p with
  | some i =>
    obtain ⟨h1, h2, -⟩ := List.findIdx?_eq_some_iff_getElem.1 h
    rw [List.any_eq_true.2 ⟨l[i], List.getElem_mem _, h2⟩]
    simp
  | none =>
    have h2 := List.findIdx?_eq_none_iff.1 h
    symm
    show l.any p = false
    rw [List.any_eq_false]
    intro x hx
    simpa using h2 x hx
theorem bk_indexI (A : Option Addr) (n c : Nat) (l : List Int) (k : Nat) (cap : Array Value) (p : Int → Bool) (w : World) (hx : Sl w A (ints .i64 l)) (hl : l.length = n) (hn : n ≤ 1000)
    (hk : ∀ args w, (callFunc k args).run Tryz.prog w = .ok (.enter k args) w) (hp : ∀ x W, SX.St w [] W [] → Calls Tryz.prog k (Value.int .i64 x :: cap.toList).toArray W (SX.Ret fun v w' => v = .bool (p x) ∧ SX.St W [] w' [])) :
    Calls Tryz.prog 182 #[.slice A n c, .func (.func k) #[] cap] w (SX.Ret fun v w' => v = .int .i64 (idxG p l) ∧ SX.St w [] w' []) := by
  have hs := SX.St.start w
  refine Z.enter Tryz.func182 rfl Tryz.ntmps182 rfl rfl ?_
  refine Z.g243 ?_
  refine Z.g123 ?_
  refine Z.g227 ?_
  refine Z.only [0, 1, 7, 8] rfl ?_
  refine Z.g313 ?_
  refine Z.g102 ?_
  clear hs
  rintro i w1 ⟨⟨hi, hj⟩, hs⟩
  refine Z.g228 ?_
  refine Z.cond rfl (fun hc2 => ?_) (fun hc2 => ?_)
  · (try simp at hc2)
    have hlt : i < l.length := by omega
    have hel : elt l (i : Int) = l[i] := by simp [elt, hlt]
    obtain ⟨b, off, rfl, hb0, hx2⟩ := Z.Sl.some hx Z.b74
    refine Z.g91 ?_
    refine Z.g152 ?_
    refine Z.only [0, 1, 5, 7, 8] rfl ?_
    refine Z.g92 ?_
    refine Z.g24 ?_
    refine Z.l rfl rfl (by rfl) (Z.keepS hs) (Z.Yd.load rfl Tryz.isAgg3 (fun hG => Z.cellS hx2 rfl Z.b3 Z.b3)) ?_
    refine Z.g3 ?_
    refine Z.ZO.call rfl rfl (by rfl) rfl rfl hk Z.b24 (hp (elt l (i : Int)) _ hs) ?_
    rintro v4_5 w4_5 ⟨rfl, hy⟩
    replace hs := Z.w1 (hs.call hy); clear hy
    refine Z.g314 ?_
    refine Z.only [0, 1, 5, 7, 8, 16] rfl ?_
    refine Z.g313 ?_
    refine Z.cond rfl (fun hc4 => ?_) (fun hc4 => ?_)
    · (try simp at hc4)
      refine Z.g152 ?_
      refine Z.g62 ?_
      repeat (first | refine Z.rthen ?_ | refine Z.rblock ?_ | refine Z.rscope ?_)
      refine Z.g52 ?_
      refine ⟨_, rfl, ?_, hs⟩
      rw [idxG_some hj hlt (by rw [← hel]; assumption)]
    (try simp at hc4)
    refine Z.g235 ?_
    refine Z.only [0, 1, 7, 8] rfl ?_
    refine Z.g313 ?_
    refine Z.again (i + 1) Z.b10 ⟨⟨by omega, fun x hm => ?_⟩, hs⟩ Z.b9
    rw [List.take_add_one, List.getElem?_eq_getElem hlt] at hm
    rcases List.mem_append.1 hm with hm | hm
    · exact hj x hm
    obtain rfl : x = l[i] := by simpa using hm
    rw [← hel]; assumption
  (try simp at hc2)
  refine Z.g244 ?_
  refine Z.g52 ?_
  rw [List.take_of_length_le Z.b9] at hj
  refine ⟨_, rfl, ?_, hs⟩
  rw [idxG_none hj]
theorem bk_containsI (A : Option Addr) (n c : Nat) (l : List Int) (k : Nat) (cap : Array Value) (p : Int → Bool) (w : World) (hx : Sl w A (ints .i64 l)) (hl : l.length = n) (hn : n ≤ 1000)
    (hk : ∀ args w, (callFunc k args).run Tryz.prog w = .ok (.enter k args) w) (hp : ∀ x W, SX.St w [] W [] → Calls Tryz.prog k (Value.int .i64 x :: cap.toList).toArray W (SX.Ret fun v w' => v = .bool (p x) ∧ SX.St W [] w' [])) :
    Calls Tryz.prog 133 #[.slice A n c, .func (.func k) #[] cap] w (SX.Ret fun v w' => v = .bool (l.any p) ∧ SX.St w [] w' []) := by
  have hs := SX.St.start w
  refine Z.enter Tryz.func133 rfl Tryz.ntmps133 rfl rfl ?_
  refine Z.g243 ?_
  refine Z.g276 ?_
  refine Z.ZO.call rfl rfl (by rfl) rfl rfl Tryz.call182 rfl (bk_indexI A n c l k cap p _ hx hl hn hk hp) ?_
  rintro v1_2 w1_2 ⟨rfl, hy⟩
  replace hs := Z.w1 (hs.call hy); clear hy
  refine Z.g31 ?_
  refine Z.g62 ?_
  refine Z.g52 ?_
  exact ⟨_, rfl, by rw [← idxG_any], hs⟩
theorem bk_indexL (A : Option Addr) (n c : Nat) (l : List LgV) (k : Nat) (cap : Array Value) (p : LgV → Bool) (w : World) (hx : Sl w A (l.flatMap LgV.cells)) (hl : l.length = n) (hn : n ≤ 1000)
    (hk : ∀ args w, (callFunc k args).run Tryz.prog w = .ok (.enter k args) w) (hp : ∀ x W, SX.St w [] W [] → Calls Tryz.prog k (Value.agg (LgV.cells x).toArray :: cap.toList).toArray W (SX.Ret fun v w' => v = .bool (p x) ∧ SX.St W [] w' [])) :
    Calls Tryz.prog 130 #[.slice A n c, .func (.func k) #[] cap] w (SX.Ret fun v w' => v = .int .i64 (idxG p l) ∧ SX.St w [] w' []) := by
  have hs := SX.St.start w
  refine Z.enter Tryz.func130 rfl Tryz.ntmps130 rfl rfl ?_
  refine Z.g243 ?_
  refine Z.g123 ?_
  refine Z.l rfl rfl (by rfl) (Z.keepS hs) (Z.Yd.lenS rfl Tryz.underlying22) ?_
  refine Z.g1 ?_
  refine Z.only [0, 1, 7, 8] rfl ?_
  refine Z.g313 ?_
  refine Z.g102 ?_
  clear hs
  rintro i w1 ⟨⟨hi, hj⟩, hs⟩
  refine Z.g228 ?_
  refine Z.cond rfl (fun hc2 => ?_) (fun hc2 => ?_)
  · (try simp at hc2)
    have hlt : i < l.length := by omega
    have hel : l[i]? = some l[i] := List.getElem?_eq_getElem hlt
    obtain ⟨b, off, rfl, hb0, hx2⟩ := Z.Sl.some hx (by rw [flat_len lg_len]; omega)
    refine Z.g91 ?_
    refine Z.g152 ?_
    refine Z.only [0, 1, 5, 7, 8] rfl ?_
    refine Z.g92 ?_
    refine Z.g132 ?_
    refine Z.l rfl rfl (by rfl) (Z.keepS hs) (Z.Yd.loadA _ rfl Tryz.isAgg75 (fun _ W hK j u hu => Z.cellXq (enc := LgV.cells) hx2.sx lg_len hel hu W hK) (by exact Tryz.sizeOf75)) ?_
    refine Z.g3 ?_
    refine Z.ZO.call rfl rfl (by rfl) rfl rfl hk Z.b24 (hp l[i] _ hs) ?_
    rintro v4_5 w4_5 ⟨rfl, hy⟩
    replace hs := Z.w1 (hs.call hy); clear hy
    refine Z.g314 ?_
    refine Z.only [0, 1, 5, 7, 8, 16] rfl ?_
    refine Z.g313 ?_
    refine Z.cond rfl (fun hc4 => ?_) (fun hc4 => ?_)
    · (try simp at hc4)
      refine Z.g152 ?_
      refine Z.g62 ?_
      repeat (first | refine Z.rthen ?_ | refine Z.rblock ?_ | refine Z.rscope ?_)
      refine Z.g52 ?_
      refine ⟨_, rfl, ?_, hs⟩
      rw [idxG_some hj hlt Z.b63]
    (try simp at hc4)
    refine Z.g235 ?_
    refine Z.only [0, 1, 7, 8] rfl ?_
    refine Z.g313 ?_
    refine Z.again (i + 1) Z.b10 ⟨⟨by omega, fun x hm => ?_⟩, hs⟩ Z.b9
    rw [List.take_add_one, hel] at hm
    rcases List.mem_append.1 hm with hm | hm
    · exact hj x hm
    obtain rfl : x = l[i] := by simpa using hm
    assumption
  (try simp at hc2)
  refine Z.g244 ?_
  refine Z.g52 ?_
  rw [List.take_of_length_le Z.b9] at hj
  refine ⟨_, rfl, ?_, hs⟩
  rw [idxG_none hj]
theorem bk_containsL (A : Option Addr) (n c : Nat) (l : List LgV) (k : Nat) (cap : Array Value) (p : LgV → Bool) (w : World) (hx : Sl w A (l.flatMap LgV.cells)) (hl : l.length = n) (hn : n ≤ 1000)
    (hk : ∀ args w, (callFunc k args).run Tryz.prog w = .ok (.enter k args) w) (hp : ∀ x W, SX.St w [] W [] → Calls Tryz.prog k (Value.agg (LgV.cells x).toArray :: cap.toList).toArray W (SX.Ret fun v w' => v = .bool (p x) ∧ SX.St W [] w' [])) :
    Calls Tryz.prog 72 #[.slice A n c, .func (.func k) #[] cap] w (SX.Ret fun v w' => v = .bool (l.any p) ∧ SX.St w [] w' []) := by
  have hs := SX.St.start w
  refine Z.enter Tryz.func72 rfl Tryz.ntmps72 rfl rfl ?_
  refine Z.g243 ?_
  refine Z.g276 ?_
  refine Z.ZO.call rfl rfl (by rfl) rfl rfl Tryz.call130 rfl (bk_indexL A n c l k cap p _ hx hl hn hk hp) ?_
  rintro v1_2 w1_2 ⟨rfl, hy⟩
  replace hs := Z.w1 (hs.call hy); clear hy
  refine Z.g31 ?_
  refine Z.g62 ?_
  refine Z.g52 ?_
  exact ⟨_, rfl, by rw [← idxG_any], hs⟩
theorem bk_between (x a b : Int) (w : World) : Calls Tryz.prog 69 #[.int .i64 x, .int .i64 a, .int .i64 b] w (SX.Ret fun v w' => v = .bool (decide (a ≤ x ∧ x ≤ b)) ∧ SX.St w [] w' []) := by
  have hs := SX.St.start w
  refine Z.enter Tryz.func69 rfl Tryz.ntmps69 rfl rfl ?_
  refine Z.g120 ?_
  refine Z.only [0, 1, 2] rfl ?_
  refine Z.g30 ?_
  refine Z.lb 9 rfl ?_
  refine Z.g314 ?_
  refine Z.only [6] rfl ?_
  refine Z.g6 ?_
  refine Z.g52 ?_
  exact ⟨_, rfl, by congr 1; simp, hs⟩
theorem bk_valid (x : LgV) (w : World) : Calls Tryz.prog 71 #[.agg x.cells.toArray] w (SX.Ret fun v w' => v = .bool (decide (okLg x)) ∧ SX.St w [] w' []) := by
  have hs := SX.St.start w
  show Calls Tryz.prog 71 #[.agg #[.int .i64 x.id, .int .i64 x.pr, .int .i64 x.rt, .int .i64 x.dp, .int .i64 x.gr]] w _
  have e : ∀ u : Bool, u = decide (okLg x) → ∀ w', SX.St w [] w' [] → ∃ v, Ending.returned (.bool u) = .returned v ∧ v = .bool (decide (okLg x)) ∧ SX.St w [] w' [] := fun u hx w' hw => ⟨_, rfl, by rw [hx], hw⟩
  refine Z.enter Tryz.func71 rfl Tryz.ntmps71 rfl rfl ?_
  refine Z.g90 ?_
  clear hs; intro g1 w1 hs
  refine Z.g1 ?_
  refine Z.only [1] rfl ?_
  refine Z.g263 ?_
  refine Z.ZO.call rfl rfl (by rfl) rfl rfl Tryz.call69 rfl (bk_between x.id 1 10 _) ?_
  rintro v1_2 w1_2 ⟨rfl, hy⟩
  replace hs := Z.w1 (hs.call hy); clear hy
  refine Z.g64 ?_
  refine Z.split (s := 6) rfl (fun hsp6 => ?_) (fun hsp6 => ?_)
  · refine Z.yes (s := 6) (b := true) rfl hsp6 rfl ?_
    (try simp at hsp6)
    refine Z.g140 ?_
    refine Z.yes (s := 6) (b := true) rfl rfl rfl ?_
    refine Z.g117 ?_
    refine Z.ZO.call rfl rfl (by rfl) rfl rfl Tryz.call69 rfl (bk_between x.pr 1 16 _) ?_
    rintro v1_6 w1_6 ⟨rfl, hy⟩
    replace hs := Z.w1 (hs.call hy); clear hy
    refine Z.g15 ?_
    refine Z.g64 ?_
    refine Z.split (s := 11) rfl (fun hsp11 => ?_) (fun hsp11 => ?_)
    · refine Z.yes (s := 11) (b := true) rfl hsp11 rfl ?_
      (try simp at hsp11)
      refine Z.g21 ?_
      refine Z.g14 ?_
      refine Z.yes (s := 11) (b := true) rfl rfl rfl ?_
      refine Z.g117 ?_
      refine Z.ZO.call rfl rfl (by rfl) rfl rfl Tryz.call69 rfl (bk_between x.rt 0 1048576 _) ?_
      rintro v1_11 w1_11 ⟨rfl, hy⟩
      replace hs := Z.w1 (hs.call hy); clear hy
      refine Z.g15 ?_
      refine Z.g64 ?_
      refine Z.split (s := 16) rfl (fun hsp16 => ?_) (fun hsp16 => ?_)
      · refine Z.yes (s := 16) (b := true) rfl hsp16 rfl ?_
        (try simp at hsp16)
        refine Z.g72 ?_
        refine Z.g14 ?_
        refine Z.yes (s := 16) (b := true) rfl rfl rfl ?_
        refine Z.g117 ?_
        refine Z.ZO.call rfl rfl (by rfl) rfl rfl Tryz.call69 rfl (bk_between x.dp 0 16777216 _) ?_
        rintro v1_16 w1_16 ⟨rfl, hy⟩
        replace hs := Z.w1 (hs.call hy); clear hy
        refine Z.g15 ?_
        refine Z.g64 ?_
        refine Z.split (s := 21) rfl (fun hsp21 => ?_) (fun hsp21 => ?_)
        · refine Z.yes (s := 21) (b := true) rfl hsp21 rfl ?_
          (try simp at hsp21)
          refine Z.l rfl rfl (by rfl) (Z.keepS hs) (Z.Yd.fieldA (m := 4) rfl Z.b4) ?_
          refine Z.g14 ?_
          refine Z.yes (s := 21) (b := true) rfl rfl rfl ?_
          refine Z.g117 ?_
          refine Z.ZO.call rfl rfl (by rfl) rfl rfl Tryz.call69 rfl (bk_between x.gr 0 3 _) ?_
          rintro v1_21 w1_21 ⟨rfl, hy⟩
          replace hs := Z.w1 (hs.call hy); clear hy
          refine Z.g15 ?_
          refine Z.g154 ?_
          refine Z.g52 ?_
          refine e _ ?_ _ (hs.sub (List.nil_sublist _))
          rw [Bool.eq_iff_iff]
          simp only [decide_eq_true_eq]
          unfold okLg
          simp_all
          try omega
        refine Z.yes (s := 21) (b := false) rfl hsp21 rfl ?_
        (try simp at hsp21)
        refine Z.g193 ?_
        refine Z.g154 ?_
        refine Z.g52 ?_
        refine e _ ?_ _ (hs.sub (List.nil_sublist _))
        rw [Bool.eq_iff_iff]
        simp only [decide_eq_true_eq]
        unfold okLg
        simp_all
        try omega
      refine Z.yes (s := 16) (b := false) rfl hsp16 rfl ?_
      (try simp at hsp16)
      refine Z.g193 ?_
      refine Z.g64 ?_
      refine Z.split (s := 21) rfl (fun hsp21 => ?_) (fun hsp21 => ?_)
      · (exfalso; simp at hsp21 <;> omega)
      refine Z.yes (s := 21) (b := false) rfl hsp21 rfl ?_
      (try simp at hsp21)
      refine Z.g193 ?_
      refine Z.g154 ?_
      refine Z.g52 ?_
      refine e _ ?_ _ (hs.sub (List.nil_sublist _))
      rw [Bool.eq_iff_iff]
      simp only [decide_eq_true_eq]
      unfold okLg
      simp_all
      try omega
    refine Z.yes (s := 11) (b := false) rfl hsp11 rfl ?_
    (try simp at hsp11)
    refine Z.g193 ?_
    refine Z.g64 ?_
    refine Z.split (s := 16) rfl (fun hsp16 => ?_) (fun hsp16 => ?_)
    · (exfalso; simp at hsp16 <;> omega)
    refine Z.yes (s := 16) (b := false) rfl hsp16 rfl ?_
    (try simp at hsp16)
    refine Z.g193 ?_
    refine Z.g64 ?_
    refine Z.split (s := 21) rfl (fun hsp21 => ?_) (fun hsp21 => ?_)
    · (exfalso; simp at hsp21 <;> omega)
    refine Z.yes (s := 21) (b := false) rfl hsp21 rfl ?_
    (try simp at hsp21)
    refine Z.g193 ?_
    refine Z.g154 ?_
    refine Z.g52 ?_
    refine e _ ?_ _ (hs.sub (List.nil_sublist _))
    rw [Bool.eq_iff_iff]
    simp only [decide_eq_true_eq]
    unfold okLg
    simp_all
    try omega
  refine Z.yes (s := 6) (b := false) rfl hsp6 rfl ?_
  (try simp at hsp6)
  refine Z.g193 ?_
  refine Z.g64 ?_
  refine Z.split (s := 11) rfl (fun hsp11 => ?_) (fun hsp11 => ?_)
  · (exfalso; simp at hsp11 <;> omega)
  refine Z.yes (s := 11) (b := false) rfl hsp11 rfl ?_
  (try simp at hsp11)
  refine Z.g193 ?_
  refine Z.g64 ?_
  refine Z.split (s := 16) rfl (fun hsp16 => ?_) (fun hsp16 => ?_)
  · (exfalso; simp at hsp16 <;> omega)
  refine Z.yes (s := 16) (b := false) rfl hsp16 rfl ?_
  (try simp at hsp16)
  refine Z.g193 ?_
  refine Z.g64 ?_
  refine Z.split (s := 21) rfl (fun hsp21 => ?_) (fun hsp21 => ?_)
  · (exfalso; simp at hsp21 <;> omega)
  refine Z.yes (s := 21) (b := false) rfl hsp21 rfl ?_
  (try simp at hsp21)
  refine Z.g193 ?_
  refine Z.g154 ?_
  refine Z.g52 ?_
  refine e _ ?_ _ (hs.sub (List.nil_sublist _))
  rw [Bool.eq_iff_iff]
  simp only [decide_eq_true_eq]
  unfold okLg
  simp_all
  try omega
theorem bk_everyL1 (g k : Nat) (cap : Array Value) (p : LgV → Bool) (x : LgV) (w : World) (hc : Cel w g [.func (.func k) #[] cap])
    (hk : ∀ args w, (callFunc k args).run Tryz.prog w = .ok (.enter k args) w) (hp : ∀ x W, SX.St w [] W [] → Calls Tryz.prog k (Value.agg (LgV.cells x).toArray :: cap.toList).toArray W (SX.Ret fun v w' => v = .bool (p x) ∧ SX.St W [] w' [])) :
    Calls Tryz.prog 129 #[.agg x.cells.toArray, .pointer (some ⟨g, 0, none⟩)] w (SX.Ret fun v w' => v = .bool (!p x) ∧ SX.St w [] w' []) := by
  have hs := SX.St.start w
  refine Z.enter Tryz.func129 rfl Tryz.ntmps129 rfl rfl ?_
  refine Z.g90 ?_
  clear hs; intro g2 w2 hs
  refine Z.g231 ?_
  refine Z.l rfl rfl (by rfl) (Z.keepS hs) (Z.Yd.load rfl Tryz.isAgg144 (fun _ => Z.cellO hc.1 Z.b17 (hc.2 0 _ rfl))) ?_
  refine Z.l rfl rfl (by rfl) (Z.keepS hs) (Z.Yd.loadA _ rfl Tryz.isAgg75 (fun _ => Z.cellsB (cs := LgV.cells x) Z.b0) (by exact Tryz.sizeOf75)) ?_
  refine Z.g3 ?_
  refine Z.ZO.call rfl rfl (by rfl) rfl rfl hk Z.b24 (hp x _ (hs.sub (List.nil_sublist _))) ?_
  rintro v1_2 w1_2 ⟨rfl, hy⟩
  replace hs := Z.w1 (hs.call hy); clear hy
  refine Z.g31 ?_
  refine Z.only [3] rfl ?_
  refine Z.g6 ?_
  refine Z.g52 ?_
  exact ⟨_, rfl, rfl, hs.sub (List.nil_sublist _)⟩
theorem bk_everyL (A : Option Addr) (n c : Nat) (l : List LgV) (k : Nat) (cap : Array Value) (p : LgV → Bool) (w : World) (hx : Sl w A (l.flatMap LgV.cells)) (hl : l.length = n) (hn : n ≤ 1000)
    (hk : ∀ args w, (callFunc k args).run Tryz.prog w = .ok (.enter k args) w) (hp : ∀ x W, SX.St w [] W [] → Calls Tryz.prog k (Value.agg (LgV.cells x).toArray :: cap.toList).toArray W (SX.Ret fun v w' => v = .bool (p x) ∧ SX.St W [] w' [])) :
    Calls Tryz.prog 70 #[.slice A n c, .func (.func k) #[] cap] w (SX.Ret fun v w' => v = .bool (l.all p) ∧ SX.St w [] w' []) := by
  have hs := SX.St.start w
  refine Z.enter Tryz.func70 rfl Tryz.ntmps70 rfl rfl ?_
  refine Z.g90 ?_
  clear hs; intro g3 w3 hs
  refine Z.g1 ?_
  refine Z.only [0, 3] rfl ?_
  refine Z.g276 ?_
  refine Z.ZO.call rfl rfl (by rfl) rfl rfl Tryz.call72 rfl (bk_containsL A n c l 129 _ (fun x ↦ !p x) _ (hx.st (hs.sub (List.nil_sublist _))) hl hn Tryz.call129 (fun x W hW ↦ bk_everyL1 g3 k cap p x W (Cel.st (hs.celOf Z.b0) hW) hk (fun y V hV ↦ hp y V (SX.St.sub (hs.call (hW.call hV)) (List.nil_sublist _))))) ?_
  rintro v1_2 w1_2 ⟨rfl, hy⟩
  replace hs := Z.w1 (hs.call hy); clear hy
  refine Z.g31 ?_
  refine Z.g62 ?_
  refine Z.g52 ?_
  exact ⟨_, rfl, by congr 1; rw [Bool.eq_iff_iff]; simp, hs.sub (List.nil_sublist _)⟩
theorem bk_everyI1 (g k : Nat) (cap : Array Value) (p : Int → Bool) (x : Int) (w : World) (hc : Cel w g [.func (.func k) #[] cap])
    (hk : ∀ args w, (callFunc k args).run Tryz.prog w = .ok (.enter k args) w) (hp : ∀ x W, SX.St w [] W [] → Calls Tryz.prog k (Value.int .i64 x :: cap.toList).toArray W (SX.Ret fun v w' => v = .bool (p x) ∧ SX.St W [] w' [])) :
    Calls Tryz.prog 151 #[.int .i64 x, .pointer (some ⟨g, 0, none⟩)] w (SX.Ret fun v w' => v = .bool (!p x) ∧ SX.St w [] w' []) := by
  have hs := SX.St.start w
  refine Z.enter Tryz.func151 rfl Tryz.ntmps151 rfl rfl ?_
  refine Z.g243 ?_
  refine Z.g30 ?_
  refine Z.l rfl rfl (by rfl) (Z.keepS hs) (Z.Yd.load rfl Tryz.isAgg133 (fun _ => Z.cellO hc.1 Z.b17 (hc.2 0 _ rfl))) ?_
  refine Z.g32 ?_
  refine Z.ZO.call rfl rfl (by rfl) rfl rfl hk Z.b24 (hp x _ hs) ?_
  rintro v1_2 w1_2 ⟨rfl, hy⟩
  replace hs := Z.w1 (hs.call hy); clear hy
  refine Z.g31 ?_
  refine Z.only [3] rfl ?_
  refine Z.g6 ?_
  refine Z.g52 ?_
  exact ⟨_, rfl, rfl, hs⟩
theorem bk_everyI (A : Option Addr) (n c : Nat) (l : List Int) (k : Nat) (cap : Array Value) (p : Int → Bool) (w : World) (hx : Sl w A (ints .i64 l)) (hl : l.length = n) (hn : n ≤ 1000)
    (hk : ∀ args w, (callFunc k args).run Tryz.prog w = .ok (.enter k args) w) (hp : ∀ x W, SX.St w [] W [] → Calls Tryz.prog k (Value.int .i64 x :: cap.toList).toArray W (SX.Ret fun v w' => v = .bool (p x) ∧ SX.St W [] w' [])) :
    Calls Tryz.prog 98 #[.slice A n c, .func (.func k) #[] cap] w (SX.Ret fun v w' => v = .bool (l.all p) ∧ SX.St w [] w' []) := by
  have hs := SX.St.start w
  refine Z.enter Tryz.func98 rfl Tryz.ntmps98 rfl rfl ?_
  refine Z.g90 ?_
  clear hs; intro g3 w3 hs
  refine Z.g1 ?_
  refine Z.only [0, 3] rfl ?_
  refine Z.g276 ?_
  refine Z.ZO.call rfl rfl (by rfl) rfl rfl Tryz.call133 rfl (bk_containsI A n c l 151 _ (fun x ↦ !p x) _ (hx.st (hs.sub (List.nil_sublist _))) hl hn Tryz.call151 (fun x W hW ↦ bk_everyI1 g3 k cap p x W (Cel.st (hs.celOf Z.b0) hW) hk (fun y V hV ↦ hp y V (SX.St.sub (hs.call (hW.call hV)) (List.nil_sublist _))))) ?_
  rintro v1_2 w1_2 ⟨rfl, hy⟩
  replace hs := Z.w1 (hs.call hy); clear hy
  refine Z.g31 ?_
  refine Z.g62 ?_
  refine Z.g52 ?_
  exact ⟨_, rfl, by congr 1; rw [Bool.eq_iff_iff]; simp, hs.sub (List.nil_sublist _)⟩
end Go.Proofs.YtbojkoiopkaciaaGreat

/- Buckets: New. -/
namespace Go.Proofs.YtbojkoiopkaciaaGreat
open Go.RowKit
set_option linter.unusedSimpArgs false
set_option linter.unusedVariables false
--newlaws

theorem bk_new1 (g : Nat) (x y : LgV) (w : World) (hc : Cel w g x.cells) :
    Calls Tryz.prog 73 #[.agg y.cells.toArray, .pointer (some ⟨g, 0, none⟩)] w (SX.Ret fun v w' => v = .bool (decide (y.id = x.id)) ∧ SX.St w [] w' []) := by
  have hs := SX.St.start w
  show Calls Tryz.prog 73 #[.agg #[.int .i64 y.id, .int .i64 y.pr, .int .i64 y.rt, .int .i64 y.dp, .int .i64 y.gr], _] w _
  refine Z.enter Tryz.func73 rfl Tryz.ntmps73 rfl rfl ?_
  refine Z.g90 ?_
  clear hs; intro g2 w2 hs
  refine Z.g231 ?_
  refine Z.g97 ?_
  refine Z.g4 ?_
  refine Z.l rfl rfl (by rfl) (Z.keepS hs) (Z.Yd.load rfl Tryz.isAgg3 (fun _ => Z.cellO hc.1 Z.b17 (hc.2 0 _ rfl))) ?_
  refine Z.g31 ?_
  refine Z.only [3] rfl ?_
  refine Z.g6 ?_
  refine Z.g52 ?_
  exact ⟨_, rfl, rfl, hs.sub (List.nil_sublist _)⟩
theorem bk_or (A : Option Addr) (c : Nat) (a b : Int) (w : World) (hx : Sl w A (ints .i64 [a, b])) :
    Calls Tryz.prog 76 #[.slice A 2 c] w (SX.Ret fun v w' => v = .int .i64 (if a ≠ 0 then a else b) ∧ SX.St w [] w' []) := by
  have hs := SX.St.start w
  obtain ⟨bb, off, rfl, hb0, hx2⟩ := Z.Sl.some hx (by simp [ints])
  refine Z.enter Tryz.func76 rfl Tryz.ntmps76 rfl rfl ?_
  refine Z.g241 ?_
  refine Z.g1 ?_
  refine Z.only [0, 3] rfl ?_
  refine Z.g123 ?_
  refine Z.g227 ?_
  refine Z.only [3, 6, 7, 8] rfl ?_
  refine Z.g210 ?_
  refine Z.loopk (ι := Nat) [3, 6, 7] rfl (fun k => [(8, [], .int .i64 (k : Int))]) (fun k wr => (k ≤ 2 ∧ (0 < k → a = 0) ∧ (1 < k → b = 0)) ∧ SX.St w [] wr []) (fun k => 2 - k) 0 Z.b6 ⟨⟨by omega, by omega, by omega⟩, hs⟩ ?_
  clear hs
  rintro i w1 ⟨⟨hi, h1, h2⟩, hs⟩
  refine Z.only [3, 6, 7, 8] rfl ?_
  refine Z.g120 ?_
  refine Z.only [3, 6, 7, 8, 9] rfl ?_
  refine Z.g150 ?_
  refine Z.cond rfl (fun hc3 => ?_) (fun hc3 => ?_)
  · (try simp at hc3)
    have hi2 : i = 0 ∨ i = 1 := by omega
    have hel : elt [a, b] (i : Int) = if i = 0 then a else b := by rcases hi2 with rfl | rfl <;> rfl
    refine Z.g238 ?_
    refine Z.g24 ?_
    refine Z.l rfl rfl (by rfl) (Z.keepS hs) (Z.Yd.load rfl Tryz.isAgg3 (fun hG => Z.cellS hx2 rfl Z.b9 Z.b41)) ?_
    refine Z.g1 ?_
    refine Z.only [3, 5, 6, 7, 8] rfl ?_
    refine Z.g92 ?_
    refine Z.g314 ?_
    refine Z.only [3, 5, 6, 7, 8, 14] rfl ?_
    refine Z.g313 ?_
    refine Z.cond rfl (fun hc5 => ?_) (fun hc5 => ?_)
    · (try simp at hc5)
      refine Z.g152 ?_
      refine Z.g33 ?_
      repeat (first | refine Z.rthen ?_ | refine Z.rblock ?_ | refine Z.rscope ?_)
      refine Z.g52 ?_
      refine ⟨_, rfl, ?_, hs⟩
      rcases hi2 with rfl | rfl
      · rw [hel] at *; simp_all
      rw [hel] at *; have := h1 Z.b9; simp_all
    (try simp at hc5)
    refine Z.g235 ?_
    refine Z.only [3, 6, 7, 8] rfl ?_
    refine Z.g313 ?_
    refine Z.again (i + 1) Z.b10 ⟨⟨by omega, ?_, ?_⟩, hs⟩ Z.b9
    · intro _
      rcases hi2 with rfl | rfl
      · simp_all
      exact h1 Z.b9
    intro _
    rcases hi2 with rfl | rfl
    · omega
    simp_all
  (try simp at hc3)
  refine Z.g211 ?_
  refine Z.g31 ?_
  refine Z.g33 ?_
  refine Z.g52 ?_
  refine ⟨_, rfl, ?_, hs⟩
  rw [if_neg (by have := h1 Z.b9; simp_all)]
  congr 1
  exact (h2 Z.b9).symm
set_option maxRecDepth 100000 in
theorem bk_new2 (gb gk n c : Nat) (A : Option Addr) (so nw : Value) (ls : List LgV) (x y : Int) (w : World) (hb : Cel w gb [.pointer (some ⟨gk, 0, none⟩)]) (hk : Cel w gk [.slice A n c, so, nw])
    (hA : Sl w A ((ls.map fun x => (x, (0 : Int))).flatMap chC)) (hl : ls.length = n) (hset : okSet ls) (hx : ∃ i : Nat, i < n ∧ x = (i : Int)) (hy : ∃ i : Nat, i < n ∧ y = (i : Int)) :
    Calls Tryz.prog 75 #[.int .i64 x, .int .i64 y, .pointer (some ⟨gb, 0, none⟩)] w (SX.Ret fun v w' => (∃ z : Int, v = .int .i64 z ∧ (z < 0 ↔ key ls x < key ls y)) ∧ SX.St w [] w' []) := by
  obtain ⟨i, hi, rfl⟩ := hx
  obtain ⟨k, hk1, rfl⟩ := hy
  have hs := SX.St.start w
  obtain ⟨bb, off, rfl, hb0, hx2⟩ := Z.Sl.some hA (by rw [flat_len ch_len]; simp; omega)
  have ei : (ls.map fun x => (x, (0 : Int)))[i]? = some (ls[i]!, 0) := by rw [List.getElem?_map, getElem!_pos ls i Z.b9]; simp [List.getElem?_eq_getElem (show i < ls.length by omega)]
  have ek : (ls.map fun x => (x, (0 : Int)))[k]? = some (ls[k]!, 0) := by rw [List.getElem?_map, getElem!_pos ls k Z.b9]; simp [List.getElem?_eq_getElem (show k < ls.length by omega)]
  have o1 := hset.lg (i := i) Z.b9
  have o2 := hset.lg (i := k) Z.b9
  simp only [key, Int.toNat_natCast]
  generalize ls[i]! = a at *
  generalize ls[k]! = b at *
  obtain ⟨⟨a1, a2⟩, ⟨a3, a4⟩, -⟩ := o1
  obtain ⟨⟨b1, b2⟩, ⟨b3, b4⟩, -⟩ := o2
  have hone1 := ch_one (a, 0)
  have hone2 := ch_one (b, 0)
  refine Z.enter Tryz.func75 rfl Tryz.ntmps75 rfl rfl ?_
  refine Z.g120 ?_
  refine Z.only [0, 1, 2] rfl ?_
  refine Z.g150 ?_
  refine Z.drawL [] (fun _ => true) mixed hs ?_
  clear hs; intro wd1 hs
  refine Z.t 0 rfl rfl rfl (by rfl) Z.b4 ⟨_, hs, Z.b2⟩ (Z.Yd.load rfl Tryz.isAgg52 (fun _ => Z.cellO hb.1 Z.b17 (hb.2 0 _ rfl))) ?_
  refine Z.t 1 rfl rfl rfl (by rfl) Z.b4 ⟨_, hs, Z.b2⟩ (Z.Yd.nilc rfl rfl) ?_
  refine Z.t 2 rfl rfl rfl (by rfl) Z.b4 ⟨_, hs, Z.b2⟩ (Z.Yd.fieldA (m := 0) rfl Z.b4) ?_
  refine Z.t 3 rfl rfl rfl (by rfl) Z.b4 ⟨_, hs, Z.b2⟩ (Z.Yd.load rfl Tryz.isAgg145 (fun _ => Z.cellO hk.1 Z.b17 (hk.2 0 _ rfl))) ?_
  refine Z.tb [4] Z.b4 rfl ⟨_, hs, Z.b2⟩ rfl ?_
  refine Z.t 5 rfl rfl rfl (by rfl) Z.b4 ⟨_, hs, Z.b2⟩ (Z.Yd.elem rfl rfl Tryz.underlying145 Tryz.sizeOf149 (fun hG => ⟨Z.b3, Z.b3⟩)) ?_
  refine Z.t 6 rfl rfl rfl (by rfl) Z.b4 ⟨_, hs, Z.b2⟩ (Z.Yd.loadA _ rfl Tryz.isAgg149 (fun _ W hK j u hu => Z.cellXq (enc := chC) hx2.sx ch_len ei hu W hK) (by exact Tryz.sizeOf149)) ?_
  refine Z.t 7 rfl rfl rfl (by rfl) Z.b4 ⟨_, hs, Z.b2⟩ (Z.Yd.load rfl Tryz.isAgg52 (fun _ => Z.cellO hb.1 Z.b17 (hb.2 0 _ rfl))) ?_
  refine Z.t 8 rfl rfl rfl (by rfl) Z.b4 ⟨_, hs, Z.b2⟩ (Z.Yd.nilc rfl rfl) ?_
  refine Z.t 9 rfl rfl rfl (by rfl) Z.b4 ⟨_, hs, Z.b2⟩ (Z.Yd.fieldA (m := 0) rfl Z.b4) ?_
  refine Z.t 10 rfl rfl rfl (by rfl) Z.b4 ⟨_, hs, Z.b2⟩ (Z.Yd.load rfl Tryz.isAgg145 (fun _ => Z.cellO hk.1 Z.b17 (hk.2 0 _ rfl))) ?_
  refine Z.tb [11] Z.b4 rfl ⟨_, hs, Z.b2⟩ rfl ?_
  refine Z.t 12 rfl rfl rfl (by rfl) Z.b4 ⟨_, hs, Z.b2⟩ (Z.Yd.elem rfl rfl Tryz.underlying145 Tryz.sizeOf149 (fun hG => ⟨Z.b3, Z.b3⟩)) ?_
  refine Z.t 13 rfl rfl rfl (by rfl) Z.b4 ⟨_, hs, Z.b2⟩ (Z.Yd.loadA _ rfl Tryz.isAgg149 (fun _ W hK j u hu => Z.cellXq (enc := chC) hx2.sx ch_len ek hu W hK) (by exact Tryz.sizeOf149)) ?_
  refine Z.fork2 14 15 rfl rfl rfl Z.b4 rfl rfl trivial trivial ?_ ?_
  · skip
    refine Z.ZO.alloc rfl rfl (by rfl) Tryz.zeroValue149 rfl hs ?_
    clear hs; intro g6 w6 hs
    refine Z.tk (Dn := fun _ => true) (i := 14) (fun _ => ⟨_, hs, Z.b2⟩) ?_
    refine Z.tn 15 rfl rfl Z.b4 rfl trivial ?_
    refine Z.ZO.alloc rfl rfl (by rfl) Tryz.zeroValue149 rfl hs ?_
    clear hs; intro g7 w7 hs
    refine Z.tk (Dn := fun _ => true) (i := 15) (fun _ => ⟨_, hs, Z.b2⟩) ?_
    refine Z.tn 16 rfl rfl Z.b4 rfl trivial ?_
    refine Z.g7 ?_
    clear hs; intro ws hs
    replace hs := Z.w0 hs
    replace hs := Z.w3 hs
    refine Z.tk (Dn := fun _ => true) (i := 16) (fun _ => ⟨_, hs, Z.b2⟩) ?_
    refine Z.tn 17 rfl rfl Z.b4 rfl trivial ?_
    refine Z.g7 ?_
    clear hs; intro ws hs
    replace hs := Z.w0 hs
    replace hs := Z.w3 hs
    refine Z.g175 ?_
    refine Z.only [6, 7] rfl ?_
    refine Z.g30 ?_
    simp only [chC] at hs
    refine Z.g4 ?_
    refine Z.g140 ?_
    refine Z.g4 ?_
    refine Z.g140 ?_
    refine Z.g19 ?_
    refine Z.g4 ?_
    refine Z.g97 ?_
    refine Z.g4 ?_
    refine Z.g97 ?_
    refine Z.g19 ?_
    refine Z.g3 ?_
    refine Z.ZO.litL (T' := 3) [(0, 1), (1, 1)] [.int .i64 0, .int .i64 0] rfl rfl (by rfl) rfl rfl Z.b19 hs ?_
    clear hs; intro g36 w36 hs
    refine Z.g3 ?_
    refine Z.ZO.call rfl rfl (by rfl) rfl rfl Tryz.call76 rfl (bk_or _ _ (a.pr - b.pr) (a.id - b.id) _ (hs.blkSl Z.b0)) ?_
    rintro v2_15 w2_15 ⟨rfl, hy⟩
    replace hs := Z.w1 (hs.call hy); clear hy
    refine Z.g1 ?_
    refine Z.only [5] rfl ?_
    refine Z.g6 ?_
    refine Z.g52 ?_
    refine ⟨_, rfl, ⟨_, rfl, ?_⟩, hs.sub (List.nil_sublist _)⟩
    split <;> omega
  skip
  refine Z.ZO.alloc rfl rfl (by rfl) Tryz.zeroValue149 rfl hs ?_
  clear hs; intro g7 w7 hs
  refine Z.tk (Dn := fun _ => true) (i := 15) (fun _ => ⟨_, hs, Z.b2⟩) ?_
  refine Z.tn 14 rfl rfl Z.b4 rfl trivial ?_
  refine Z.ZO.alloc rfl rfl (by rfl) Tryz.zeroValue149 rfl hs ?_
  clear hs; intro g6 w6 hs
  refine Z.tk (Dn := fun _ => true) (i := 14) (fun _ => ⟨_, hs, Z.b2⟩) ?_
  refine Z.tn 16 rfl rfl Z.b4 rfl trivial ?_
  refine Z.g7 ?_
  clear hs; intro ws hs
  replace hs := Z.w0 hs
  replace hs := Z.w3 hs
  refine Z.tk (Dn := fun _ => true) (i := 16) (fun _ => ⟨_, hs, Z.b2⟩) ?_
  refine Z.tn 17 rfl rfl Z.b4 rfl trivial ?_
  refine Z.g7 ?_
  clear hs; intro ws hs
  replace hs := Z.w0 hs
  replace hs := Z.w3 hs
  refine Z.g175 ?_
  refine Z.only [6, 7] rfl ?_
  refine Z.g30 ?_
  simp only [chC] at hs
  refine Z.g4 ?_
  refine Z.g140 ?_
  refine Z.g4 ?_
  refine Z.g140 ?_
  refine Z.g19 ?_
  refine Z.g4 ?_
  refine Z.g97 ?_
  refine Z.g4 ?_
  refine Z.g97 ?_
  refine Z.g19 ?_
  refine Z.g3 ?_
  refine Z.ZO.litL (T' := 3) [(0, 1), (1, 1)] [.int .i64 0, .int .i64 0] rfl rfl (by rfl) rfl rfl Z.b19 hs ?_
  clear hs; intro g36 w36 hs
  refine Z.g3 ?_
  refine Z.ZO.call rfl rfl (by rfl) rfl rfl Tryz.call76 rfl (bk_or _ _ (a.pr - b.pr) (a.id - b.id) _ (hs.blkSl Z.b0)) ?_
  rintro v2_15 w2_15 ⟨rfl, hy⟩
  replace hs := Z.w1 (hs.call hy); clear hy
  refine Z.g1 ?_
  refine Z.only [5] rfl ?_
  refine Z.g6 ?_
  refine Z.g52 ?_
  refine ⟨_, rfl, ⟨_, rfl, ?_⟩, hs.sub (List.nil_sublist _)⟩
  split <;> omega
theorem flat_pre {α β : Type} (f : α → List β) (l : List α) (i : Nat) : (l.take i).flatMap f <+: l.flatMap f := by
  conv => rhs; rw [← List.take_append_drop i l, List.flatMap_append]
  exact List.prefix_append _ _
def newB (ls : List LgV) : BkV := ⟨ls, List.replicate ls.length 0, 0⟩
theorem newB_chs (ls : List LgV) : (newB ls).chs = ls.map fun x => (x, (0 : Int)) := by
  unfold BkV.chs newB
  dsimp only
  refine List.ext_getElem Z.b17 fun i h1 h2 => by simp
theorem newB_ok {ls : List LgV} (h : okSet ls) : (newB ls).ok := by
  refine ⟨h, by simp [newB], fun i hi => ?_, by simp [newB]⟩
  have := (h.lg hi).2.2.2.1
  have e : elt (newB ls).b (i : Int) = 0 := by
    have : i < ls.length := hi
    simp [newB, elt, this]
  rw [e]
  exact ⟨by omega, this.1⟩
def bkE (g : Nat) (sv so : Value) (m : BkV) : List SX.Ent := [SX.Ent.blk g 147 #[sv, so, .int .i64 m.now], SX.Ent.row sv 149 6 m.l.length (m.chs.flatMap chC), SX.Ent.row so 3 1 m.l.length (ints .i64 (natI (ordL m.l)))]
theorem any_prefix {ls : List LgV} {i : Nat} (hi : i < ls.length) (h : ids (ls.take i)) : ids (ls.take (i + 1)) ↔ (ls.take i).any (fun y => decide (y.id = ls[i].id)) = false := by
  have e : ls.take (i + 1) = ls.take i ++ [ls[i]] := by rw [List.take_add_one, List.getElem?_eq_getElem hi]; rfl
  rw [e]
  unfold ids at *
  rw [List.pairwise_append, List.any_eq_false]
  constructor
  · rintro ⟨-, -, h3⟩ y hy
    simpa using h3 y hy _ Z.b17
  intro h3
  refine ⟨h, List.pairwise_singleton _ _, fun y hy z hz => ?_⟩
  obtain rfl : z = ls[i] := by simpa using hz
  simpa using h3 y hy
set_option maxHeartbeats 1000000 in
set_option maxRecDepth 100000 in
theorem bk_new (A : Option Addr) (n c : Nat) (ls : List LgV) (w : World) (hx : Sl w A (ls.flatMap LgV.cells)) (hl : ls.length = n) (hn : n ≤ 1000) (hc : n ≤ c) :
    Calls Tryz.prog 29 #[.slice A n c] w (SX.Ret fun v w' => if okSet ls then ∃ g sv so, v = .tuple #[.pointer (some ⟨g, 0, none⟩), .int .i64 0] ∧ SX.St w [] w' (bkE g sv so (newB ls)) else v = .tuple #[.pointer none, .int .i64 2] ∧ SX.St w [] w' []) := by
  have hs := SX.St.start w
  refine Z.enter Tryz.func29 rfl Tryz.ntmps29 rfl rfl ?_
  refine Z.g152 ?_
  refine Z.g82 ?_
  refine Z.g313 ?_
  refine Z.scopeJ (ι := Unit) 0 rfl [] rfl (fun _ => []) (fun _ wr => (¬ okSet ls) ∧ SX.St w [] wr []) ?_ ?_
  · skip
    refine Z.g230 ?_
    refine Z.ZO.alloc rfl rfl (by rfl) Tryz.zeroValue52 rfl hs ?_
    clear hs; intro g4 w4 hs
    refine Z.g314 ?_
    refine Z.only [0, 4] rfl ?_
    refine Z.g123 ?_
    refine Z.l rfl rfl (by rfl) (Z.keepS hs) (Z.Yd.lenS rfl Tryz.underlying22) ?_
    refine Z.g3 ?_
    refine Z.ZO.call rfl rfl (by rfl) rfl rfl Tryz.call69 rfl (bk_between (n : Int) 1 10 _) ?_
    rintro v2_2 w2_2 ⟨rfl, hy⟩
    replace hs := Z.w1 (hs.call hy); clear hy
    refine Z.g22 ?_
    refine Z.split (s := 11) rfl (fun hsp11 => ?_) (fun hsp11 => ?_)
    · refine Z.yes (s := 11) (b := true) rfl hsp11 rfl ?_
      (try simp at hsp11)
      refine Z.g2 ?_
      refine Z.g15 ?_
      refine Z.g314 ?_
      refine Z.only [0, 4, 15] rfl ?_
      refine Z.g313 ?_
      refine Z.cond rfl (fun hc2 => ?_) (fun hc2 => ?_)
      · (try simp at hc2)
        have hno : ¬ okSet ls := by rintro ⟨h1, h2, -⟩; first | omega | (obtain ⟨x, hx1, hx2⟩ := hc2; exact hx2 (h2 x hx1))
        refine Z.goto ?_
        refine Z.gthen ?_
        refine Z.gjump ?_
        exact Z.meet () trivial ⟨by assumption, hs.sub (List.nil_sublist _)⟩
      (exfalso; simp at hc2 <;> omega)
    refine Z.yes (s := 11) (b := false) rfl hsp11 rfl ?_
    (try simp at hsp11)
    refine Z.g64 ?_
    refine Z.yes (s := 11) (b := false) rfl rfl rfl ?_
    refine Z.g117 ?_
    refine Z.ZO.call rfl rfl (by rfl) rfl rfl Tryz.call70 rfl (bk_everyL A n c ls 71 _ (fun x ↦ decide (okLg x)) _ (hx.st (hs.sub (List.nil_sublist _))) hl hn Tryz.call71 (fun x W hW ↦ bk_valid x W)) ?_
    rintro v2_6 w2_6 ⟨rfl, hy⟩
    replace hs := Z.w1 (hs.call hy); clear hy
    refine Z.g64 ?_
    refine Z.yes (s := 11) (b := false) rfl rfl rfl ?_
    refine Z.g13 ?_
    refine Z.g314 ?_
    refine Z.only [0, 4, 15] rfl ?_
    refine Z.g313 ?_
    refine Z.cond rfl (fun hc2 => ?_) (fun hc2 => ?_)
    · (try simp at hc2)
      have hno : ¬ okSet ls := by rintro ⟨h1, h2, -⟩; first | omega | (obtain ⟨x, hx1, hx2⟩ := hc2; exact hx2 (h2 x hx1))
      refine Z.goto ?_
      refine Z.gthen ?_
      refine Z.gjump ?_
      exact Z.meet () trivial ⟨by assumption, hs.sub (List.nil_sublist _)⟩
    (try simp at hc2)
    have hn1 : 1 ≤ n ∧ n ≤ 10 := by omega
    have hlg : ∀ x ∈ ls, okLg x := by simp_all
    obtain ⟨bb, off, rfl, hb0, hx2⟩ := Z.Sl.some hx (by rw [flat_len lg_len]; omega)
    refine Z.g151 ?_
    refine Z.l rfl rfl (by rfl) (Z.keepS hs) (Z.Yd.buildL [(0, 1), (1, 1), (2, 1)] [.slice none 0 0, .slice none 0 0, .int .i64 0] rfl rfl Z.b15) ?_
    refine Z.g3 ?_
    refine Z.g17 ?_
    clear hs; intro g17 w17 hs
    refine Z.g3 ?_
    refine Z.ZO.store rfl rfl hs Tryz.sizeOf52 rfl rfl rfl Z.b1 Z.b8 ?_
    clear hs; intro ws hs
    replace hs := Z.w0 hs
    refine Z.g314 ?_
    refine Z.only [0, 4] rfl ?_
    refine Z.g60 ?_
    replace hs : SX.St w [] _ [SX.Ent.blk g4 _ _, SX.Ent.blk g17 _ _, SX.Ent.row _ _ _ _ _, SX.Ent.row _ _ _ _ _] := ((hs.nil 3 1).nil 149 6).sel [3, 2, 0, 1] Z.b12
    refine Z.g18 ?_
    refine Z.l rfl rfl (by rfl) (Z.keepS hs) (Z.Yd.lenS rfl Tryz.underlying22) ?_
    refine Z.g1 ?_
    refine Z.only [0, 4, 18, 19, 20] rfl ?_
    refine Z.g210 ?_
    refine Z.loopk (ι := Nat × Value × Value) [0, 4, 18, 19] rfl (fun x => [(20, [], .int .i64 (x.1 : Int))]) (fun x wr => (x.1 ≤ n ∧ ids (ls.take x.1)) ∧ SX.St w [] wr [SX.Ent.blk g4 52 #[.pointer (some ⟨g17, 0, none⟩)], SX.Ent.blk g17 147 #[x.2.1, x.2.2, .int .i64 0], SX.Ent.row x.2.1 149 6 x.1 (((ls.take x.1).map fun x => (x, (0 : Int))).flatMap chC), SX.Ent.row x.2.2 3 1 x.1 (ints .i64 (natI (List.range x.1)))]) (fun x => n - x.1) (0, .slice none 0 0, .slice none 0 0) Z.b6 ⟨⟨by simp only; omega, by simp [ids]⟩, hs⟩ ?_
    clear hs
    rintro ⟨i, sv, so⟩ w5 ⟨⟨hi, hids⟩, hs⟩
    refine Z.only [0, 4, 18, 19, 20] rfl ?_
    (try dsimp only at hs)
    dsimp only at hi hids hs
    refine Z.g120 ?_
    refine Z.only [0, 4, 18, 19, 20, 21] rfl ?_
    refine Z.g150 ?_
    refine Z.cond rfl (fun hc5 => ?_) (fun hc5 => ?_)
    · (try simp at hc5)
      have hlt : i < ls.length := by omega
      have hel : ls[i]? = some ls[i] := List.getElem?_eq_getElem hlt
      have hpre := any_prefix hlt hids
      generalize ls[i] = xi at hel hpre
      have hone := lg_one xi
      have htk : ls.take (i + 1) = ls.take i ++ [xi] := by rw [List.take_add_one, hel]; rfl
      refine Z.g91 ?_
      refine Z.g182 ?_
      refine Z.g132 ?_
      refine Z.l rfl rfl (by rfl) (Z.keepS hs) (Z.Yd.loadA _ rfl Tryz.isAgg75 (fun _ W hK j u hu => Z.cellXq (enc := LgV.cells) hx2.sx lg_len hel hu W hK) (by exact Tryz.sizeOf75)) ?_
      refine Z.g3 ?_
      refine Z.ZO.alloc rfl rfl (by rfl) Tryz.zeroValue75 rfl hs ?_
      clear hs; intro g6 w6 hs
      refine Z.g32 ?_
      refine Z.g7 ?_
      clear hs; intro ws hs
      replace hs := Z.w0 hs
      replace hs := Z.w3 hs
      refine Z.g314 ?_
      refine Z.only [0, 4, 5, 6, 18, 19, 20] rfl ?_
      refine Z.g60 ?_
      refine Z.g221 ?_
      refine Z.l rfl rfl (by rfl) (Z.keepS hs) (Z.Yd.cut3 0 i i rfl rfl rfl rfl Tryz.underlying22 Tryz.sizeOf75 (fun hG => ⟨Z.b3, Z.b3, Z.b3, Z.b3, Z.b3⟩)) ?_
      refine Z.g32 ?_
      refine Z.ZO.call rfl rfl (by rfl) rfl rfl Tryz.call72 rfl (bk_containsL _ i i (ls.take i) 73 _ (fun y ↦ decide (y.id = xi.id)) _ (by rw [slA_zero]; exact Sl.pre (hx2.st hs) (flat_pre _ _ _)) Z.b41 Z.b9 Tryz.call73 (fun y W hW ↦ bk_new1 g6 xi y W (Cel.st (hs.celOf Z.b0) hW))) ?_
      rintro v7_5 w7_5 ⟨rfl, hy⟩
      replace hs := Z.w1 (hs.call hy); clear hy
      refine Z.g314 ?_
      refine Z.only [0, 4, 5, 6, 18, 19, 20, 30] rfl ?_
      refine Z.g313 ?_
      refine Z.cond rfl (fun hc7 => ?_) (fun hc7 => ?_)
      · (try simp at hc7)
        have hno : ¬ okSet ls := fun h => by
          have h2 := hpre.1 (h.2.2.sublist (List.take_sublist _ _))
          obtain ⟨x, hx1, hx3⟩ := hc7
          have h3 := List.any_eq_false.1 h2 x hx1
          simp [hx3] at h3
        refine Z.goto ?_
        refine Z.gthen ?_
        refine Z.gblock ?_
        refine Z.gthen ?_
        refine Z.gthen ?_
        refine Z.gblock ?_
        refine Z.gthen ?_
        refine Z.gjump ?_
        exact Z.meet () trivial ⟨by assumption, hs.sub (List.nil_sublist _)⟩
      (try simp at hc7)
      have hids2 := hpre.2 (by simp_all)
      refine Z.skip ?_
      refine Z.g313 ?_
      refine Z.drawC [SX.Ent.blk g6 75 xi.cells.toArray, SX.Ent.blk g4 52 #[.pointer (some ⟨g17, 0, none⟩)]] mixed hs ?_
      clear hs; intro wd8 hs
      refine Z.tC1 1 [1, 20, 21, 22] rfl rfl rfl (by rfl) Z.b4 ⟨_, hs, Z.b2⟩ Z.b34 ?_
      refine Z.twoC [SX.Ent.blk g6 75 xi.cells.toArray, SX.Ent.blk g4 52 #[.pointer (some ⟨g17, 0, none⟩)], SX.Ent.blk g17 147 #[sv, so, .int .i64 0]] [17, 18, 19, 20, 21, 22] ?_
      refine Z.tC2 0 [0, 17, 18, 19, 20, 21, 22] rfl rfl rfl (by rfl) Z.b4 rfl ⟨_, hs, Z.b2⟩ ⟨_, hs, Z.b2⟩ (Z.yd2 Z.b34) ?_
      refine Z.tC2 2 [2, 3, 4, 5, 9, 16, 17, 18, 19, 20, 21, 22] rfl rfl rfl (by rfl) Z.b4 rfl ⟨_, hs, Z.b2⟩ ⟨_, hs, Z.b2⟩ (Z.yd2 Z.b34) ?_
      refine Z.tC2 3 [3, 4, 5, 9, 16, 17, 18, 19, 20, 21, 22] rfl rfl rfl (by rfl) Z.b4 rfl ⟨_, hs, Z.b2⟩ ⟨_, hs, Z.b2⟩ (Z.yd2 (Z.Yd.nilc rfl rfl)) ?_
      refine Z.tC2 4 [4, 5, 9, 16, 17, 18, 19, 20, 21, 22] rfl rfl rfl (by rfl) Z.b4 rfl ⟨_, hs, Z.b2⟩ ⟨_, hs, Z.b2⟩ (Z.yd2 (Z.Yd.fieldA (m := 0) rfl Z.b4)) ?_
      refine Z.tC2 5 [5, 9, 16, 17, 18, 19, 20, 21, 22] rfl rfl rfl (by rfl) Z.b4 rfl ⟨_, hs, Z.b2⟩ ⟨_, hs, Z.b2⟩ (Z.yd2 Z.b64) ?_
      refine Z.tC2 6 [6, 7, 8, 9, 16, 17, 18, 19, 20, 21, 22] rfl rfl rfl (by rfl) Z.b4 rfl ⟨_, hs, Z.b2⟩ ⟨_, hs, Z.b2⟩ (Z.yd2 (Z.Yd.loadA _ rfl Tryz.isAgg75 (fun _ => Z.cellsB (cs := LgV.cells xi) Z.b0) (by exact Tryz.sizeOf75))) ?_
      refine Z.tC2 7 [7, 8, 9, 16, 17, 18, 19, 20, 21, 22] rfl rfl rfl (by rfl) Z.b4 rfl ⟨_, hs, Z.b2⟩ ⟨_, hs, Z.b2⟩ (Z.yd2 (Z.Yd.buildL [(0, 5), (5, 1)] [.int .i64 0, .int .i64 0, .int .i64 0, .int .i64 0, .int .i64 0, .int .i64 0] rfl rfl Z.b15)) ?_
      refine Z.tC2 10 [10, 11, 12, 13, 16, 17, 18, 19, 20, 21, 22] rfl rfl rfl (by rfl) Z.b4 rfl ⟨_, hs, Z.b2⟩ ⟨_, hs, Z.b2⟩ (Z.yd2 Z.b34) ?_
      refine Z.tC2 11 [11, 12, 13, 16, 17, 18, 19, 20, 21, 22] rfl rfl rfl (by rfl) Z.b4 rfl ⟨_, hs, Z.b2⟩ ⟨_, hs, Z.b2⟩ (Z.yd2 (Z.Yd.nilc rfl rfl)) ?_
      refine Z.tC2 12 [12, 13, 16, 17, 18, 19, 20, 21, 22] rfl rfl rfl (by rfl) Z.b4 rfl ⟨_, hs, Z.b2⟩ ⟨_, hs, Z.b2⟩ (Z.yd2 (Z.Yd.fieldA (m := 1) rfl Z.b4)) ?_
      refine Z.tC2 13 [13, 16, 17, 18, 19, 20, 21, 22] rfl rfl rfl (by rfl) Z.b4 rfl ⟨_, hs, Z.b2⟩ ⟨_, hs, Z.b2⟩ (Z.yd2 Z.b29) ?_
      refine Z.tC2 14 [14, 15, 16, 17, 18, 19, 20, 21, 22] rfl rfl rfl (by rfl) Z.b4 rfl ⟨_, hs, Z.b2⟩ ⟨_, hs, Z.b2⟩ (Z.yd2 (Z.Yd.pure rfl)) ?_
      refine Z.forkC [8, 15] rfl Z.b4 rfl ⟨⟨_, _, rfl, rfl, trivial, ?_⟩, ⟨_, _, rfl, rfl, trivial, ?_⟩, trivial⟩
      · skip
        refine Z.ZO.litL (T' := 149) [(0, 6)] [.int .i64 0, .int .i64 0, .int .i64 0, .int .i64 0, .int .i64 0, .int .i64 0] rfl rfl (by rfl) rfl rfl Z.b19 hs ?_
        clear hs; intro g39 w39 hs
        refine Z.tkC (C := Z.lv2 _ _ [17, 18, 19, 20, 21, 22]) (i := 8) ⟨⟨_, hs, Z.b2⟩, fun _ => ⟨_, hs, Z.b2⟩⟩ ?_
        refine Z.forkC [9, 15] rfl Z.b4 rfl ⟨⟨_, _, rfl, rfl, trivial, ?_⟩, ⟨_, _, rfl, rfl, trivial, ?_⟩, trivial⟩
        · skip
          refine Z.g133 ?_
          clear hs; intro g40 cap40 w40 hs
          simp only [List.set_cons_zero, List.set_cons_succ, List.eraseIdx_cons_zero, List.eraseIdx_cons_succ] at hs
          refine Z.g207 ?_
          refine Z.forkC [15] rfl Z.b4 rfl ⟨⟨_, _, rfl, rfl, trivial, ?_⟩, trivial⟩
          refine Z.g58 ?_
          clear hs; intro g46 w46 hs
          refine Z.g202 ?_
          refine Z.forkC [16] rfl Z.b4 rfl ⟨⟨_, _, rfl, rfl, trivial, ?_⟩, trivial⟩
          refine Z.g38 ?_
          clear hs; intro g47 cap47 w47 hs
          simp only [List.set_cons_zero, List.set_cons_succ, List.eraseIdx_cons_zero, List.eraseIdx_cons_succ] at hs
          refine Z.g203 ?_
          refine Z.forkC [17] rfl Z.b4 rfl ⟨⟨_, _, rfl, rfl, trivial, ?_⟩, trivial⟩
          refine Z.g176 ?_
          refine Z.forkC [18] rfl Z.b4 rfl ⟨⟨_, _, rfl, rfl, trivial, ?_⟩, trivial⟩
          refine Z.g173 ?_
          refine Z.forkC [19] rfl Z.b4 rfl ⟨⟨_, _, rfl, rfl, trivial, ?_⟩, trivial⟩
          refine Z.ZO.store rfl rfl hs Tryz.sizeOf145 rfl rfl rfl Z.b1 Z.b8 ?_
          clear hs; intro ws hs
          replace hs := Z.w0 hs
          refine Z.g220 ?_
          refine Z.forkC [20] rfl Z.b4 rfl ⟨⟨_, _, rfl, rfl, trivial, ?_⟩, trivial⟩
          refine Z.g190 ?_
          refine Z.forkC [21] rfl Z.b4 rfl ⟨⟨_, _, rfl, rfl, trivial, ?_⟩, trivial⟩
          refine Z.g114 ?_
          refine Z.forkC [22] rfl Z.b4 rfl ⟨⟨_, _, rfl, rfl, trivial, ?_⟩, trivial⟩
          refine Z.g109 ?_
          clear hs; intro ws hs
          replace hs := Z.w0 hs
          refine Z.g108 ?_
          refine Z.g121 ?_
          have e1 : ((ls.take (i + 1)).map fun x => (x, (0 : Int))).flatMap chC = ((ls.take i).map fun x => (x, (0 : Int))).flatMap chC ++ [.int .i64 xi.id, .int .i64 xi.pr, .int .i64 xi.rt, .int .i64 xi.dp, .int .i64 xi.gr, .int .i64 0] := by
            rw [htk, List.map_append, List.flatMap_append]
            rfl
          have e2 : ints .i64 (natI (List.range (i + 1))) = ints .i64 (natI (List.range i)) ++ [.int .i64 (i : Int)] := by
            rw [List.range_succ]
            simp [natI, ints]
          simp only [List.map_take] at e1 hs
          refine Z.g187 ?_
          refine Z.only [0, 4, 18, 19, 20] rfl ?_
          refine Z.g313 ?_
          exact Z.again (i + 1, _, _) Z.b11 ⟨⟨by simp only; omega, hids2⟩, by simp only [List.map_take]; rw [e1, e2]; exact hs.sel [1, 2, 3, 4] Z.b12⟩ Z.b21
        skip
        refine Z.g58 ?_
        clear hs; intro g46 w46 hs
        refine Z.g202 ?_
        refine Z.forkC [9] rfl Z.b4 rfl ⟨⟨_, _, rfl, rfl, trivial, ?_⟩, trivial⟩
        refine Z.g133 ?_
        clear hs; intro g40 cap40 w40 hs
        simp only [List.set_cons_zero, List.set_cons_succ, List.eraseIdx_cons_zero, List.eraseIdx_cons_succ] at hs
        refine Z.g207 ?_
        refine Z.forkC [16] rfl Z.b4 rfl ⟨⟨_, _, rfl, rfl, trivial, ?_⟩, trivial⟩
        refine Z.g38 ?_
        clear hs; intro g47 cap47 w47 hs
        simp only [List.set_cons_zero, List.set_cons_succ, List.eraseIdx_cons_zero, List.eraseIdx_cons_succ] at hs
        refine Z.g203 ?_
        refine Z.forkC [17] rfl Z.b4 rfl ⟨⟨_, _, rfl, rfl, trivial, ?_⟩, trivial⟩
        refine Z.g176 ?_
        refine Z.forkC [18] rfl Z.b4 rfl ⟨⟨_, _, rfl, rfl, trivial, ?_⟩, trivial⟩
        refine Z.g173 ?_
        refine Z.forkC [19] rfl Z.b4 rfl ⟨⟨_, _, rfl, rfl, trivial, ?_⟩, trivial⟩
        refine Z.ZO.store rfl rfl hs Tryz.sizeOf145 rfl rfl rfl Z.b1 Z.b8 ?_
        clear hs; intro ws hs
        replace hs := Z.w0 hs
        refine Z.g220 ?_
        refine Z.forkC [20] rfl Z.b4 rfl ⟨⟨_, _, rfl, rfl, trivial, ?_⟩, trivial⟩
        refine Z.g190 ?_
        refine Z.forkC [21] rfl Z.b4 rfl ⟨⟨_, _, rfl, rfl, trivial, ?_⟩, trivial⟩
        refine Z.g114 ?_
        refine Z.forkC [22] rfl Z.b4 rfl ⟨⟨_, _, rfl, rfl, trivial, ?_⟩, trivial⟩
        refine Z.g109 ?_
        clear hs; intro ws hs
        replace hs := Z.w0 hs
        refine Z.g108 ?_
        refine Z.g121 ?_
        have e1 : ((ls.take (i + 1)).map fun x => (x, (0 : Int))).flatMap chC = ((ls.take i).map fun x => (x, (0 : Int))).flatMap chC ++ [.int .i64 xi.id, .int .i64 xi.pr, .int .i64 xi.rt, .int .i64 xi.dp, .int .i64 xi.gr, .int .i64 0] := by
          rw [htk, List.map_append, List.flatMap_append]
          rfl
        have e2 : ints .i64 (natI (List.range (i + 1))) = ints .i64 (natI (List.range i)) ++ [.int .i64 (i : Int)] := by
          rw [List.range_succ]
          simp [natI, ints]
        simp only [List.map_take] at e1 hs
        refine Z.g187 ?_
        refine Z.only [0, 4, 18, 19, 20] rfl ?_
        refine Z.g313 ?_
        exact Z.again (i + 1, _, _) Z.b11 ⟨⟨by simp only; omega, hids2⟩, by simp only [List.map_take]; rw [e1, e2]; exact hs.sel [1, 2, 3, 4] Z.b12⟩ Z.b21
      skip
      refine Z.g58 ?_
      clear hs; intro g46 w46 hs
      refine Z.g202 ?_
      refine Z.forkC [8] rfl Z.b4 rfl ⟨⟨_, _, rfl, rfl, trivial, ?_⟩, trivial⟩
      refine Z.ZO.litL (T' := 149) [(0, 6)] [.int .i64 0, .int .i64 0, .int .i64 0, .int .i64 0, .int .i64 0, .int .i64 0] rfl rfl (by rfl) rfl rfl Z.b19 hs ?_
      clear hs; intro g39 w39 hs
      refine Z.tkC (C := Z.lv2 _ _ [17, 18, 19, 20, 21, 22]) (i := 8) ⟨⟨_, hs, Z.b2⟩, fun _ => ⟨_, hs, Z.b2⟩⟩ ?_
      refine Z.forkC [9] rfl Z.b4 rfl ⟨⟨_, _, rfl, rfl, trivial, ?_⟩, trivial⟩
      refine Z.g133 ?_
      clear hs; intro g40 cap40 w40 hs
      simp only [List.set_cons_zero, List.set_cons_succ, List.eraseIdx_cons_zero, List.eraseIdx_cons_succ] at hs
      refine Z.g207 ?_
      refine Z.forkC [16] rfl Z.b4 rfl ⟨⟨_, _, rfl, rfl, trivial, ?_⟩, trivial⟩
      refine Z.g38 ?_
      clear hs; intro g47 cap47 w47 hs
      simp only [List.set_cons_zero, List.set_cons_succ, List.eraseIdx_cons_zero, List.eraseIdx_cons_succ] at hs
      refine Z.g203 ?_
      refine Z.forkC [17] rfl Z.b4 rfl ⟨⟨_, _, rfl, rfl, trivial, ?_⟩, trivial⟩
      refine Z.g176 ?_
      refine Z.forkC [18] rfl Z.b4 rfl ⟨⟨_, _, rfl, rfl, trivial, ?_⟩, trivial⟩
      refine Z.g173 ?_
      refine Z.forkC [19] rfl Z.b4 rfl ⟨⟨_, _, rfl, rfl, trivial, ?_⟩, trivial⟩
      refine Z.ZO.store rfl rfl hs Tryz.sizeOf145 rfl rfl rfl Z.b1 Z.b8 ?_
      clear hs; intro ws hs
      replace hs := Z.w0 hs
      refine Z.g220 ?_
      refine Z.forkC [20] rfl Z.b4 rfl ⟨⟨_, _, rfl, rfl, trivial, ?_⟩, trivial⟩
      refine Z.g190 ?_
      refine Z.forkC [21] rfl Z.b4 rfl ⟨⟨_, _, rfl, rfl, trivial, ?_⟩, trivial⟩
      refine Z.g114 ?_
      refine Z.forkC [22] rfl Z.b4 rfl ⟨⟨_, _, rfl, rfl, trivial, ?_⟩, trivial⟩
      refine Z.g109 ?_
      clear hs; intro ws hs
      replace hs := Z.w0 hs
      refine Z.g108 ?_
      refine Z.g121 ?_
      have e1 : ((ls.take (i + 1)).map fun x => (x, (0 : Int))).flatMap chC = ((ls.take i).map fun x => (x, (0 : Int))).flatMap chC ++ [.int .i64 xi.id, .int .i64 xi.pr, .int .i64 xi.rt, .int .i64 xi.dp, .int .i64 xi.gr, .int .i64 0] := by
        rw [htk, List.map_append, List.flatMap_append]
        rfl
      have e2 : ints .i64 (natI (List.range (i + 1))) = ints .i64 (natI (List.range i)) ++ [.int .i64 (i : Int)] := by
        rw [List.range_succ]
        simp [natI, ints]
      simp only [List.map_take] at e1 hs
      refine Z.g187 ?_
      refine Z.only [0, 4, 18, 19, 20] rfl ?_
      refine Z.g313 ?_
      exact Z.again (i + 1, _, _) Z.b11 ⟨⟨by simp only; omega, hids2⟩, by simp only [List.map_take]; rw [e1, e2]; exact hs.sel [1, 2, 3, 4] Z.b12⟩ Z.b21
    (try simp at hc5)
    refine Z.g211 ?_
    obtain rfl : i = ls.length := by omega
    rw [List.take_length] at hids hs
    have hset : okSet ls := ⟨by omega, hlg, hids⟩
    obtain ⟨gr, cr, rfl, hcr⟩ := row_form hs (j := 3) rfl Z.b9
    obtain ⟨Ac, cc, rfl, -, -, -⟩ := SX.row_slv hs (j := 2) rfl
    have hmem : ∀ x ∈ natI (List.range ls.length), ∃ i : Nat, i < ls.length ∧ x = (i : Int) := fun x hx => by
      simp only [natI, List.mem_map, List.mem_range] at hx
      obtain ⟨i, hi, rfl⟩ := hx
      exact ⟨i, hi, rfl⟩
    refine Z.l rfl rfl (by rfl) (Z.keepS hs) Z.b34 ?_
    refine Z.g10 ?_
    refine Z.g9 ?_
    refine Z.g130 ?_
    refine Z.g64 ?_
    replace hs : SX.St w [] _ ([SX.Ent.row _ 3 1 ls.length (ints .i64 (natI (List.range ls.length)))] ++ [SX.Ent.blk g4 52 #[.pointer (some ⟨g17, 0, none⟩)], SX.Ent.blk g17 147 #[.slice Ac ls.length cc, .slice (some ⟨gr, 0, none⟩) ls.length cr, .int .i64 0], SX.Ent.row _ 149 6 ls.length (List.flatMap chC (List.map (fun x => (x, (0 : Int))) ls))]) := hs.sel [3, 0, 1, 2] Z.b12
    refine Z.g3 ?_
    refine Z.ZO.call rfl rfl (by rfl) rfl rfl Tryz.call74 rfl (sortfunc gr ls.length cr 3 75 _ (key ls) (natI (List.range ls.length)) _ hs.lend (by simp [natI]) Z.b9 Z.b9 Tryz.call75 (fun x hx y hy W L hW ↦ bk_new2 g4 g17 ls.length cc Ac (.slice (some ⟨gr, 0, none⟩) ls.length cr) (.int .i64 0) ls x y W ((hs.regain hW).celOf (T := 52) Z.b17) ((hs.regain hW).celOf (T := 147) (cs := [_, _, _]) Z.b17) ((hs.regain hW).slm (T := 149) (size := 6) (k := ls.length) (c := cc) (m := ls.length) Z.b17) rfl hset (hmem x hx) (hmem y hy))) ?_
    rintro v10_5 w10_5 ⟨rfl, ys, hp, hS, hz⟩
    replace hs := hs.regain hz
    obtain rfl := ord_unique hset hp hS
    replace hs := Z.w2 hs
    refine Z.g314 ?_
    refine Z.only [4] rfl ?_
    refine Z.g60 ?_
    refine Z.l rfl rfl (by rfl) (Z.keepS hs) Z.b34 ?_
    refine Z.g31 ?_
    refine Z.g126 ?_
    repeat (first | refine Z.rthen ?_ | refine Z.rblock ?_ | refine Z.rscope ?_ | refine Z.rjump ?_)
    refine Z.out2 Z.b22 ?_
    refine ⟨_, rfl, ?_⟩
    dsimp only
    rw [if_pos hset]
    refine ⟨g17, .slice Ac ls.length cc, .slice (some ⟨gr, 0, none⟩) ls.length cr, rfl, ?_⟩
    unfold bkE
    rw [newB_chs]
    exact hs.sel [2, 3, 0] Z.b12
  clear hs
  rintro ⟨⟩ w9 ⟨hno, hs⟩
  refine Z.only [] rfl ?_
  (try dsimp only at hs)
  refine Z.seq ?_
  refine Z.g151 ?_
  refine Z.g31 ?_
  refine Z.g126 ?_
  repeat (first | refine Z.rthen ?_ | refine Z.rblock ?_ | refine Z.rscope ?_)
  refine Z.out2 Z.b22 ?_
  exact ⟨_, rfl, by dsimp only; rw [if_neg hno]; exact ⟨rfl, hs⟩⟩
end Go.Proofs.YtbojkoiopkaciaaGreat

/- Buckets: time and division, plainly. -/
namespace Go.Proofs.YtbojkoiopkaciaaGreat
open Go.RowKit
set_option linter.unusedSimpArgs false
set_option linter.unusedVariables false
--newlaws

def upTo (n : Nat) (f : Nat → Int) (b : List Int) (i : Nat) : List Int := (List.range n).map fun k => if k < i then f k else elt b (k : Int)
theorem upTo_len {n : Nat} {f : Nat → Int} {b : List Int} {i : Nat} : (upTo n f b i).length = n := by simp [upTo]
theorem upTo_elt {n : Nat} {f : Nat → Int} {b : List Int} {i k : Nat} (hk : k < n) : elt (upTo n f b i) (k : Int) = if k < i then f k else elt b (k : Int) := by
  rw [elt_get (by rw [upTo_len]; exact hk)]
  simp [upTo]
theorem upTo_zero {n : Nat} {f : Nat → Int} {b : List Int} (h : b.length = n) : upTo n f b 0 = b := by
  refine List.ext_getElem (by rw [upTo_len, h]) fun k h1 h2 => ?_
  simp [upTo, elt_get h2]
theorem upTo_set {n : Nat} {f : Nat → Int} {b : List Int} {i : Nat} : (upTo n f b i).set i (f i) = upTo n f b (i + 1) := by
  refine List.ext_getElem (by simp [upTo]) fun k h1 h2 => ?_
  have hk : k < n := by rw [upTo_len] at h2; exact h2
  rw [List.getElem_set]
  simp only [upTo, List.getElem_map, List.getElem_range]
  by_cases h : i = k
  · subst h; rw [if_pos rfl, if_pos Z.b9]
  rw [if_neg h]
  by_cases h3 : k < i
  · rw [if_pos h3, if_pos Z.b9]
  rw [if_neg h3, if_neg Z.b9]
theorem elt_set {l : List Int} {i k : Nat} {v : Int} (hi : i < l.length) : elt (l.set i v) (k : Int) = if i = k then v else elt l (k : Int) := by
  by_cases hk : k < l.length
  · rw [elt_get (by rw [List.length_set]; exact hk), List.getElem_set, elt_get hk]
  have h1 : elt (l.set i v) (k : Int) = 0 := by simp [elt, hk]
  have h2 : elt l (k : Int) = 0 := by simp [elt, hk]
  rw [h1, if_neg Z.b9, h2]
def tkF (m : BkV) (t : Int) (i : Nat) : Int := min m.l[i]!.dp (elt m.b (i : Int) + m.l[i]!.rt * (t - m.now))
def tickG (m : BkV) (t : Int) (i : Nat) : BkV := { m with b := upTo m.l.length (tkF m t) m.b i }
def okT (m : BkV) (t : Int) : Prop := m.now ≤ t ∧ t < 1073741824
instance (m : BkV) (t : Int) : Decidable (okT m t) := by unfold okT; infer_instance
def tickV (m : BkV) (t : Int) : BkV × Int := if okT m t then ({ tickG m t m.l.length with now := t }, 0) else (m, 2)
theorem tkF_bd {m : BkV} (hm : m.ok) {t : Int} (ht : okT m t) {i : Nat} (hi : i < m.l.length) : (0 ≤ m.l[i]!.rt * (t - m.now) ∧ m.l[i]!.rt * (t - m.now) ≤ 1125899906842624) ∧ 0 ≤ tkF m t i ∧ tkF m t i ≤ m.l[i]!.dp := by
  obtain ⟨-, -, ⟨r1, r2⟩, ⟨d1, d2⟩, -⟩ := hm.set.lg hi
  obtain ⟨n1, n2⟩ := hm.now
  obtain ⟨t1, t2⟩ := ht
  obtain ⟨b1, b2⟩ := hm.bd i hi
  have h1 : 0 ≤ m.l[i]!.rt * (t - m.now) := Int.mul_nonneg r1 Z.b9
  have h2 : m.l[i]!.rt * (t - m.now) ≤ 1048576 * 1073741824 := Int.mul_le_mul r2 Z.b9 Z.b9 Z.b9
  refine ⟨⟨h1, by omega⟩, ?_⟩
  unfold tkF
  omega
theorem BkV.ok.tickG {m : BkV} (hm : m.ok) {t : Int} (ht : okT m t) (i : Nat) : (tickG m t i).ok := by
  refine ⟨hm.set, by simp [Go.Proofs.YtbojkoiopkaciaaGreat.tickG, upTo_len], fun k hk => ?_, hm.now⟩
  have hk' : k < m.l.length := hk
  have h1 := (tkF_bd hm ht hk').2
  have h2 := hm.bd k hk'
  simp only [Go.Proofs.YtbojkoiopkaciaaGreat.tickG]
  rw [upTo_elt hk']
  split
  · exact h1
  exact h2
theorem BkV.ok.tick {m : BkV} (hm : m.ok) (t : Int) : (tickV m t).1.ok := by
  unfold tickV
  split
  · rename_i ht
    obtain ⟨h1, h2, h3, h4⟩ := hm.tickG ht m.l.length
    exact ⟨h1, h2, h3, by have := hm.now; unfold okT at ht; simp only; omega⟩
  exact hm
structure DvS where
  out : List Int
  b : List Int
  sz : Int
def amt (r : Nat) (dem : List Int) (s : DvS) (i : Nat) : Int := if r = 0 then min (min (elt dem (i : Int) - elt s.out (i : Int)) (elt s.b (i : Int))) s.sz else min (elt dem (i : Int) - elt s.out (i : Int)) s.sz
def dst (r : Nat) (dem : List Int) (s : DvS) (i : Nat) : DvS := ⟨s.out.set i (elt s.out (i : Int) + amt r dem s i), if r = 0 then s.b.set i (elt s.b (i : Int) - amt r dem s i) else s.b, s.sz - amt r dem s i⟩
def rnd (r : Nat) (dem : List Int) (s : DvS) (o : List Nat) : DvS := o.foldl (dst r dem) s
def dv0 (m : BkV) (size : Int) : DvS := ⟨List.replicate m.l.length 0, m.b, size⟩
def rounds (m : BkV) (size : Int) (dem : List Int) : Nat → DvS
  | 0 => dv0 m size
  | r + 1 => rnd r dem (rounds m size dem r) (ordL m.l)
def okDm (dem : List Int) : Prop := ∀ x ∈ dem, 0 ≤ x ∧ x ≤ 16777216
instance (dem : List Int) : Decidable (okDm dem) := by unfold okDm; infer_instance
def okD (m : BkV) (size : Int) (dem : List Int) : Prop := (0 ≤ size ∧ size ≤ 16777216) ∧ dem.length = m.l.length ∧ okDm dem
instance (m : BkV) (size : Int) (dem : List Int) : Decidable (okD m size dem) := by unfold okD; infer_instance
def divV (m : BkV) (size : Int) (dem : List Int) : BkV × List Int × Int := if okD m size dem then ({ m with b := (rounds m size dem 2).b }, (rounds m size dem 2).out, 0) else (m, [], 2)
structure DvS.ok (m : BkV) (dem : List Int) (s : DvS) : Prop where
  ol : s.out.length = m.l.length
  bl : s.b.length = m.l.length
  sz : 0 ≤ s.sz ∧ s.sz ≤ 16777216
  og : ∀ i : Nat, i < m.l.length → 0 ≤ elt s.out (i : Int) ∧ elt s.out (i : Int) ≤ elt dem (i : Int)
  bg : ∀ i : Nat, i < m.l.length → 0 ≤ elt s.b (i : Int) ∧ elt s.b (i : Int) ≤ elt m.b (i : Int)
theorem okDm.elt {dem : List Int} (h : okDm dem) {i : Nat} (hi : i < dem.length) : 0 ≤ elt dem (i : Int) ∧ elt dem (i : Int) ≤ 16777216 := by
  rw [elt_get hi]
  exact h _ (List.getElem_mem _)
theorem dv0_ok {m : BkV} (hm : m.ok) {size : Int} {dem : List Int} (h : okD m size dem) : (dv0 m size).ok m dem := by
  refine ⟨by simp [dv0], by simp [dv0, hm.len], h.1, fun i hi => ?_, fun i hi => ?_⟩
  · have h1 := h.2.2.elt (i := i) (by have := h.2.1; omega)
    have e : elt (dv0 m size).out (i : Int) = 0 := by simp [dv0, Go.Proofs.YtbojkoiopkaciaaGreat.elt, hi]
    rw [e]; exact ⟨by omega, h1.1⟩
  have := hm.bd i hi
  exact ⟨this.1, Int.le_refl _⟩
theorem amt_bd {m : BkV} {dem : List Int} {s : DvS} (hs : s.ok m dem) (r : Nat) {i : Nat} (hi : i < m.l.length) : 0 ≤ amt r dem s i ∧ amt r dem s i ≤ elt dem (i : Int) - elt s.out (i : Int) ∧ amt r dem s i ≤ s.sz ∧ (r = 0 → amt r dem s i ≤ elt s.b (i : Int)) := by
  have h1 := hs.og i hi
  have h2 := hs.bg i hi
  have h3 := hs.sz
  unfold amt
  split <;> omega
theorem DvS.ok.step {m : BkV} {dem : List Int} {s : DvS} (hs : s.ok m dem) (r : Nat) {i : Nat} (hi : i < m.l.length) : (dst r dem s i).ok m dem := by
  obtain ⟨a1, a2, a3, a4⟩ := amt_bd hs r hi
  have h0 := hs.sz
  refine ⟨by simp [dst, hs.ol], by simp only [dst]; split <;> simp [hs.bl], by simp only [dst]; omega, fun k hk => ?_, fun k hk => ?_⟩
  · have h1 := hs.og k hk
    simp only [dst]
    rw [elt_set (by rw [hs.ol]; exact hi)]
    split
    · rename_i e; subst e; omega
    exact h1
  have h1 := hs.bg k hk
  simp only [dst]
  split
  · rename_i hr
    rw [elt_set (by rw [hs.bl]; exact hi)]
    have := a4 hr
    split
    · rename_i e; subst e; omega
    exact h1
  exact h1
theorem DvS.ok.fold {m : BkV} {dem : List Int} (r : Nat) : ∀ {o : List Nat} {s : DvS}, s.ok m dem → (∀ i ∈ o, i < m.l.length) → (rnd r dem s o).ok m dem
  | [], _, h, _ => h
  | i :: o, s, h, ho => DvS.ok.fold r (o := o) (h.step r (ho i Z.b17)) fun k hk => ho k (by simp [hk])
theorem ord_lt {m : BkV} (hm : m.ok) : ∀ i ∈ ordL m.l, i < m.l.length := fun i hi => (mem_ordL hm.set).1 hi
theorem rounds_ok {m : BkV} (hm : m.ok) {size : Int} {dem : List Int} (h : okD m size dem) : ∀ r, (rounds m size dem r).ok m dem
  | 0 => dv0_ok hm h
  | r + 1 => (rounds_ok hm h r).fold r (ord_lt hm)
theorem BkV.ok.setB {m : BkV} (hm : m.ok) {dem : List Int} {s : DvS} (hs : s.ok m dem) : ({ m with b := s.b } : BkV).ok := by
  refine ⟨hm.set, hs.bl, fun i hi => ?_, hm.now⟩
  have h1 := hs.bg i hi
  have h2 := hm.bd i hi
  simp only
  omega
theorem BkV.ok.div {m : BkV} (hm : m.ok) (size : Int) (dem : List Int) : (divV m size dem).1.ok := by
  unfold divV
  split
  · rename_i h; exact hm.setB (rounds_ok hm h 2)
  exact hm
theorem rnd_take {r : Nat} {dem : List Int} {s : DvS} {o : List Nat} {k : Nat} (hk : k < o.length) : rnd r dem s (o.take (k + 1)) = dst r dem (rnd r dem s (o.take k)) o[k] := by
  unfold rnd
  rw [List.take_add_one, List.getElem?_eq_getElem hk, List.foldl_append]
  rfl
theorem chs_set {m : BkV} (hm : m.b.length = m.l.length) {i : Nat} (hi : i < m.l.length) (v : Int) : m.chs.set i (m.l[i]!, v) = ({ m with b := m.b.set i v } : BkV).chs := by
  unfold BkV.chs
  refine List.ext_getElem Z.b17 fun k h1 h2 => ?_
  have hk : k < m.l.length := by simp at h1; omega
  rw [List.getElem_set, List.getElem_zip, List.getElem_zip, List.getElem_set]
  by_cases h : i = k
  · subst h; simp [getElem!_pos, hi]
  simp [h]
end Go.Proofs.YtbojkoiopkaciaaGreat

/- Buckets: Tick, Divide. -/
namespace Go.Proofs.YtbojkoiopkaciaaGreat
open Go.RowKit
set_option linter.unusedSimpArgs false
set_option linter.unusedVariables false
--newlaws

theorem bk_none (g n c : Nat) (A : Option Addr) (so nw : Value) (w : World) (hc : Cel w g [.slice A n c, so, nw]) : Calls Tryz.prog 88 #[.pointer (some ⟨g, 0, none⟩)] w (SX.Ret fun v w' => v = .bool (decide (n = 0)) ∧ SX.St w [] w' []) := by
  have hs := SX.St.start w
  refine Z.enter Tryz.func88 rfl Tryz.ntmps88 rfl rfl ?_
  refine Z.g241 ?_
  refine Z.g64 ?_
  refine Z.l rfl rfl (by rfl) (Z.keepS hs) (Z.Yd.ptrNil rfl rfl Tryz.underlying52) ?_
  refine Z.g186 ?_
  refine Z.g4 ?_
  refine Z.l rfl rfl (by rfl) (Z.keepS hs) (Z.Yd.load rfl Tryz.isAgg145 (fun _ => Z.cellO hc.1 Z.b17 (hc.2 0 _ rfl))) ?_
  refine Z.l rfl rfl (by rfl) (Z.keepS hs) (Z.Yd.lenS rfl Tryz.underlying145) ?_
  refine Z.g247 ?_
  refine Z.g33 ?_
  refine Z.g52 ?_
  exact ⟨_, rfl, by congr 1; rw [Bool.eq_iff_iff]; simp, hs⟩
theorem BkV.ok.pos {m : BkV} (hm : m.ok) : 1 ≤ m.l.length ∧ m.l.length ≤ 10 := hm.set.1
set_option maxHeartbeats 1000000 in
set_option maxRecDepth 100000 in
theorem bk_tick (g : Nat) (sv so : Value) (m : BkV) (t : Int) (w : World) (hs : SX.St w (SX.idsOf (bkE g sv so m)) w (bkE g sv so m)) (hm : m.ok) :
    Calls Tryz.prog 42 #[.pointer (some ⟨g, 0, none⟩), .int .i64 t] w (SX.Ret fun v w' => v = .int .i64 (tickV m t).2 ∧ SX.St w (SX.idsOf (bkE g sv so m)) w' (bkE g sv so (tickV m t).1)) := by
  generalize hM : SX.idsOf (bkE g sv so m) = M at *
  have hpos := hm.pos
  have hnow := hm.now
  unfold bkE at hs
  obtain ⟨gs, cs, rfl, hcs⟩ := row_form hs (j := 1) rfl Z.b9
  refine Z.enter Tryz.func42 rfl Tryz.ntmps42 rfl rfl ?_
  refine Z.g243 ?_
  refine Z.g313 ?_
  refine Z.g35 ?_
  refine Z.g0 ?_
  refine Z.g32 ?_
  refine Z.ZO.call rfl rfl (by rfl) rfl rfl Tryz.call88 rfl (bk_none g _ _ _ _ _ _ (hs.celOf (cs := [_, _, _]) Z.b0)) ?_
  rintro v1_1 w1_1 ⟨rfl, hy⟩
  replace hs := Z.w1 (hs.call hy); clear hy
  refine Z.g1 ?_
  refine Z.only [0, 1, 7] rfl ?_
  refine Z.g313 ?_
  refine Z.cond rfl (fun h => absurd h (by simp only [decide_eq_true_eq]; omega)) (fun hc1 => ?_)
  refine Z.g0 ?_
  refine Z.g186 ?_
  refine Z.g21 ?_
  refine Z.g14 ?_
  refine Z.lb 6 rfl ?_
  refine Z.g314 ?_
  refine Z.only [0, 1, 10] rfl ?_
  refine Z.g313 ?_
  refine Z.cond rfl (fun hc3 => ?_) (fun hc3 => ?_)
  · (try simp at hc3)
    have hno : ¬ okT m t := by unfold okT; omega
    have eT : tickV m t = (m, 2) := if_neg hno
    refine Z.g120 ?_
    refine Z.g62 ?_
    repeat (first | refine Z.rthen ?_ | refine Z.rblock ?_ | refine Z.rscope ?_)
    refine Z.g52 ?_
    exact ⟨_, rfl, by rw [eT], by rw [eT]; exact hs⟩
  (try simp at hc3)
  have hok : okT m t := by unfold okT; omega
  have eT : tickV m t = ({ tickG m t m.l.length with now := t }, 0) := if_pos hok
  refine Z.g71 ?_
  refine Z.g123 ?_
  refine Z.g218 ?_
  refine Z.l rfl rfl (by rfl) (Z.keepS hs) Z.b64 ?_
  refine Z.l rfl rfl (by rfl) (Z.keepS hs) (Z.Yd.lenS rfl Tryz.underlying145) ?_
  refine Z.g1 ?_
  refine Z.only [0, 1, 25, 26] rfl ?_
  refine Z.g210 ?_
  refine Z.loopk (ι := Nat) [0, 1, 25] rfl (fun x => [(26, [], .int .i64 (x : Int))]) (fun x wr => x ≤ m.l.length ∧ SX.St w M wr (bkE g (.slice (some ⟨gs, 0, none⟩) m.l.length cs) so (tickG m t x))) (fun x => m.l.length - x) 0 Z.b6 ⟨Nat.zero_le _, by rw [show tickG m t 0 = m by unfold tickG; rw [upTo_zero hm.len]]; exact hs⟩ ?_
  clear hs
  rintro i w6 ⟨hi, hs⟩
  refine Z.only [0, 1, 25, 26] rfl ?_
  refine Z.g120 ?_
  refine Z.only [0, 1, 25, 26, 27] rfl ?_
  refine Z.g150 ?_
  refine Z.cond rfl (fun hc6 => ?_) (fun hc6 => ?_)
  · (try simp at hc6)
    have hlt : i < m.l.length := by omega
    have hmi := hm.tickG hok i
    have hgi : (tickG m t i).chs[i]? = some (m.l[i]!, elt (tickG m t i).b (i : Int)) := hmi.chg (i := i) hlt
    have hfl : ((tickG m t i).chs.flatMap chC).length = m.l.length * 6 := by rw [flat_len ch_len, hmi.chl]; rfl
    have hbb := tkF_bd hm hok hlt
    have eb : elt (tickG m t i).b (i : Int) = elt m.b (i : Int) := by simp only [tickG]; rw [upTo_elt hlt, if_neg Z.b9]
    have hbd := hm.bd i hlt
    obtain ⟨-, -, ⟨r1, r2⟩, ⟨d1, d2⟩, -⟩ := hm.set.lg hlt
    rw [eb] at hgi
    replace hs : SX.St w M _ [SX.Ent.blk g 147 #[.slice (some ⟨gs, 0, none⟩) m.l.length cs, so, .int .i64 m.now], SX.Ent.row (.slice (some ⟨gs, 0, none⟩) m.l.length cs) 149 6 m.l.length ((tickG m t i).chs.flatMap chC), SX.Ent.row so 3 1 m.l.length (ints .i64 (natI (ordL m.l)))] := hs
    refine Z.g91 ?_
    refine Z.g152 ?_
    refine Z.only [0, 1, 5, 25, 26] rfl ?_
    refine Z.g30 ?_
    refine Z.g157 ?_
    refine Z.g4 ?_
    refine Z.l rfl rfl (by rfl) (Z.keepS hs) Z.b64 ?_
    refine Z.g64 ?_
    refine Z.l rfl rfl (by rfl) (Z.keepS hs) (Z.Yd.elem rfl rfl Tryz.underlying145 Tryz.sizeOf149 (fun hG => ⟨Z.b3, Z.b3⟩)) ?_
    refine Z.g1 ?_
    refine Z.only [0, 1, 6, 25, 26] rfl ?_
    refine Z.g313 ?_
    refine Z.drawK (fun j => j != 26) mixed hs ?_
    clear hs; intro wd9 hs
    refine Z.g49 ?_
    refine Z.t 4 rfl rfl rfl (by rfl) Z.b4 ⟨_, hs, Z.b2⟩ (Z.Yd.fieldA (m := 3) rfl Z.b4) ?_
    refine Z.t 5 rfl rfl rfl (by rfl) Z.b4 ⟨_, hs, Z.b2⟩ (Z.Yd.load rfl Tryz.isAgg3 (fun _ => Z.cellR Z.b0 (Z.flat_pos ch_len hgi rfl))) ?_
    refine Z.g178 ?_
    refine Z.t 8 rfl rfl rfl (by rfl) Z.b4 ⟨_, hs, Z.b2⟩ (Z.Yd.fieldA (m := 5) rfl Z.b4) ?_
    refine Z.t 9 rfl rfl rfl (by rfl) Z.b4 ⟨_, hs, Z.b2⟩ (Z.Yd.load rfl Tryz.isAgg3 (fun _ => Z.cellR Z.b0 (Z.flat_pos ch_len hgi rfl))) ?_
    refine Z.tb [10] Z.b4 rfl ⟨_, hs, Z.b2⟩ rfl ?_
    refine Z.t 11 rfl rfl rfl (by rfl) Z.b4 ⟨_, hs, Z.b2⟩ (Z.Yd.nilc rfl rfl) ?_
    refine Z.t 12 rfl rfl rfl (by rfl) Z.b4 ⟨_, hs, Z.b2⟩ (Z.Yd.fieldA (m := 0) rfl Z.b4) ?_
    refine Z.t 13 rfl rfl rfl (by rfl) Z.b4 ⟨_, hs, Z.b2⟩ (Z.Yd.fieldA (m := 2) rfl Z.b4) ?_
    refine Z.t 14 rfl rfl rfl (by rfl) Z.b4 ⟨_, hs, Z.b2⟩ (Z.Yd.load rfl Tryz.isAgg3 (fun _ => Z.cellR Z.b0 (Z.flat_pos ch_len hgi rfl))) ?_
    refine Z.tb [15, 16] Z.b4 rfl ⟨_, hs, Z.b2⟩ rfl ?_
    refine Z.t 17 rfl rfl rfl (by rfl) Z.b4 ⟨_, hs, Z.b2⟩ (Z.Yd.nilc rfl rfl) ?_
    refine Z.t 18 rfl rfl rfl (by rfl) Z.b4 ⟨_, hs, Z.b2⟩ (Z.Yd.fieldA (m := 2) rfl Z.b4) ?_
    refine Z.t 19 rfl rfl rfl (by rfl) Z.b4 ⟨_, hs, Z.b2⟩ Z.b25 ?_
    refine Z.t 20 rfl rfl rfl (by rfl) Z.b4 ⟨_, hs, Z.b2⟩ (Z.Yd.sub rfl rfl (fun hG => Z.wi64 Z.b3)) ?_
    refine Z.t 21 rfl rfl rfl (by rfl) Z.b4 ⟨_, hs, Z.b2⟩ (Z.Yd.mul rfl rfl (fun hG => Z.wi64 Z.b3)) ?_
    refine Z.t 22 rfl rfl rfl (by rfl) Z.b4 ⟨_, hs, Z.b2⟩ (Z.Yd.add rfl rfl (fun hG => Z.wi64 Z.b3)) ?_
    refine Z.t 23 rfl rfl rfl (by rfl) Z.b4 ⟨_, hs, Z.b2⟩ (Z.Yd.min rfl rfl) ?_
    refine Z.tn 24 rfl rfl Z.b4 rfl trivial ?_
    refine Z.g80 ?_
    refine Z.tk (Dn := fun j => j != 26) (i := 24) (fun _ => ⟨_, hs, Z.b2⟩) ?_
    refine Z.t 25 rfl rfl rfl (by rfl) Z.b4 ⟨_, hs, Z.b2⟩ (Z.Yd.fieldA (m := 5) rfl Z.b4) ?_
    refine Z.tn 26 rfl rfl Z.b4 rfl trivial ?_
    refine Z.g137 ?_
    clear hs; intro ws hs
    replace hs := Z.w0 hs
    refine Z.tk (Dn := fun j => j != 26) (i := 26) (fun h => absurd h Z.b12) ?_
    refine Z.g68 ?_
    refine Z.only [0, 1, 25, 26] rfl ?_
    refine Z.g180 ?_
    refine Z.only [0, 1, 25, 26] rfl ?_
    refine Z.g313 ?_
    refine Z.again (i + 1) Z.b10 ⟨by omega, ?_⟩ Z.b9
    rw [Int.toNat_natCast, Z.flat_set (x' := (m.l[i]!, tkF m t i)) ch_len hgi Z.b12 rfl] at hs
    have e := chs_set (m := tickG m t i) hmi.len hlt (tkF m t i)
    rw [show (tickG m t i).l[i]! = m.l[i]! from rfl] at e
    rw [e, show ({ tickG m t i with b := (tickG m t i).b.set i (tkF m t i) } : BkV) = tickG m t (i + 1) by simp only [tickG]; rw [upTo_set]] at hs
    exact hs
  (try simp at hc6)
  refine Z.g211 ?_
  obtain rfl : i = m.l.length := by omega
  unfold bkE at hs
  refine Z.g18 ?_
  refine Z.g157 ?_
  refine Z.g21 ?_
  refine Z.g156 ?_
  clear hs; intro ws hs
  replace hs := Z.w0 hs
  refine Z.g153 ?_
  refine Z.g30 ?_
  refine Z.g1 ?_
  refine Z.g62 ?_
  refine Z.g52 ?_
  exact ⟨_, rfl, by rw [eT], by rw [eT]; exact hs⟩
end Go.Proofs.YtbojkoiopkaciaaGreat

/- Buckets: Divide. -/
namespace Go.Proofs.YtbojkoiopkaciaaGreat
open Go.RowKit
set_option linter.unusedSimpArgs false
set_option linter.unusedVariables false
--newlaws

theorem bk_guar (g i n c : Nat) (xs : List (LgV × Int)) (x : LgV) (b d sz : Int) (w : World) (hs : SX.St w (SX.idsOf [SX.Ent.row (.slice (some ⟨g, 0, none⟩) n c) 149 6 n (xs.flatMap chC)]) w [SX.Ent.row (.slice (some ⟨g, 0, none⟩) n c) 149 6 n (xs.flatMap chC)])
    (hg : xs[i]? = some (x, b)) (hl : xs.length = n) (hb : 0 ≤ b ∧ b ≤ 16777216) (hd : 0 ≤ d ∧ d ≤ 16777216) (hz : 0 ≤ sz ∧ sz ≤ 16777216) :
    Calls Tryz.prog 100 #[.pointer (some ⟨g, 0 + (i : Int).toNat * 6, none⟩), .int .i64 d, .int .i64 sz] w (SX.Ret fun v w' => v = .int .i64 (min (min d b) sz) ∧ SX.St w (SX.idsOf [SX.Ent.row (.slice (some ⟨g, 0, none⟩) n c) 149 6 n (xs.flatMap chC)]) w' [SX.Ent.row (.slice (some ⟨g, 0, none⟩) n c) 149 6 n ((xs.set i (x, b - min (min d b) sz)).flatMap chC)]) := by
  generalize hM : SX.idsOf [SX.Ent.row (.slice (some ⟨g, 0, none⟩) n c) 149 6 n (xs.flatMap chC)] = M at *
  have hfl : (xs.flatMap chC).length = n * 6 := by rw [flat_len ch_len, hl]
  have hin : i < n := by rw [← hl]; exact (List.getElem?_eq_some_iff.1 hg).1
  refine Z.enter Tryz.func100 rfl Tryz.ntmps100 rfl rfl ?_
  refine Z.g120 ?_
  refine Z.only [0, 1, 2] rfl ?_
  refine Z.g30 ?_
  refine Z.g186 ?_
  refine Z.g118 ?_
  refine Z.l rfl rfl (by rfl) (Z.keepS hs) (Z.Yd.load rfl Tryz.isAgg3 (fun _ => Z.cellR Z.b0 (Z.flat_pos ch_len hg rfl))) ?_
  refine Z.g64 ?_
  refine Z.l rfl rfl (by rfl) (Z.keepS hs) (Z.Yd.min rfl rfl) ?_
  refine Z.g1 ?_
  refine Z.only [0, 7] rfl ?_
  refine Z.g30 ?_
  refine Z.g157 ?_
  refine Z.g118 ?_
  refine Z.l rfl rfl (by rfl) (Z.keepS hs) (Z.Yd.load rfl Tryz.isAgg3 (fun _ => Z.cellR Z.b0 (Z.flat_pos ch_len hg rfl))) ?_
  refine Z.g64 ?_
  refine Z.g19 ?_
  refine Z.g10 ?_
  refine Z.g118 ?_
  refine Z.g3 ?_
  refine Z.g137 ?_
  clear hs; intro ws hs
  replace hs := Z.w0 hs
  refine Z.g314 ?_
  refine Z.only [7] rfl ?_
  refine Z.g30 ?_
  refine Z.g31 ?_
  refine Z.only [6] rfl ?_
  refine Z.g6 ?_
  refine Z.g52 ?_
  rw [Int.toNat_natCast, Z.flat_set (x' := (x, b - min (min d b) sz)) ch_len hg Z.b12 rfl] at hs
  exact ⟨_, rfl, rfl, hs⟩
theorem bk_rest (g i : Nat) (d sz : Int) (w : World) :
    Calls Tryz.prog 101 #[.pointer (some ⟨g, 0 + (i : Int).toNat * 6, none⟩), .int .i64 d, .int .i64 sz] w (SX.Ret fun v w' => v = .int .i64 (min d sz) ∧ SX.St w [] w' []) := by
  have hs := SX.St.start w
  refine Z.enter Tryz.func101 rfl Tryz.ntmps101 rfl rfl ?_
  refine Z.g120 ?_
  refine Z.only [1, 2] rfl ?_
  refine Z.g30 ?_
  refine Z.g22 ?_
  refine Z.l rfl rfl (by rfl) (Z.keepS hs) (Z.Yd.min rfl rfl) ?_
  refine Z.g1 ?_
  refine Z.only [6] rfl ?_
  refine Z.g6 ?_
  refine Z.g52 ?_
  exact ⟨_, rfl, rfl, hs⟩
def rfn (r : Nat) : Nat := if r = 0 then 100 else 101
theorem rfn_call (r : Nat) (args : Array Value) (w : World) : (callFunc (rfn r) args).run Tryz.prog w = .ok (.enter (rfn r) args) w := by
  unfold rfn
  split
  · exact Tryz.call100 args w
  exact Tryz.call101 args w
theorem bk_round (r g i c : Nat) (m : BkV) (dem : List Int) (s : DvS) (w : World) (hs : SX.St w (SX.idsOf [SX.Ent.row (.slice (some ⟨g, 0, none⟩) m.l.length c) 149 6 m.l.length (({ m with b := s.b } : BkV).chs.flatMap chC)]) w [SX.Ent.row (.slice (some ⟨g, 0, none⟩) m.l.length c) 149 6 m.l.length (({ m with b := s.b } : BkV).chs.flatMap chC)])
    (hm : m.ok) (hso : s.ok m dem) (hdm : okDm dem) (hdl : dem.length = m.l.length) (hi : i < m.l.length) :
    Calls Tryz.prog (rfn r) #[.pointer (some ⟨g, 0 + (i : Int).toNat * 6, none⟩), .int .i64 (elt dem (i : Int) - elt s.out (i : Int)), .int .i64 s.sz] w (SX.Ret fun v w' => v = .int .i64 (amt r dem s i) ∧ SX.St w (SX.idsOf [SX.Ent.row (.slice (some ⟨g, 0, none⟩) m.l.length c) 149 6 m.l.length (({ m with b := s.b } : BkV).chs.flatMap chC)]) w' [SX.Ent.row (.slice (some ⟨g, 0, none⟩) m.l.length c) 149 6 m.l.length (({ m with b := (dst r dem s i).b } : BkV).chs.flatMap chC)]) := by
  have hms := hm.setB hso
  have hgi : ({ m with b := s.b } : BkV).chs[i]? = some (m.l[i]!, elt s.b (i : Int)) := hms.chg hi
  have h1 := hso.og i hi
  have h2 := hso.bg i hi
  have h3 := hm.bd i hi
  have h4 := (hm.set.lg hi).2.2.2.1
  have h5 := hdm.elt (i := i) Z.b9
  have h6 := hso.sz
  by_cases hr : r = 0
  · subst hr
    have e1 : amt 0 dem s i = min (min (elt dem (i : Int) - elt s.out (i : Int)) (elt s.b (i : Int))) s.sz := rfl
    have e2 : (dst 0 dem s i).b = s.b.set i (elt s.b (i : Int) - amt 0 dem s i) := rfl
    have e3 := chs_set (m := { m with b := s.b }) hms.len (i := i) hi (elt s.b (i : Int) - amt 0 dem s i)
    rw [e2, e1]
    rw [e1] at e3
    rw [← e3]
    exact bk_guar g i m.l.length c _ m.l[i]! (elt s.b (i : Int)) _ _ w hs hgi hms.chl ⟨h2.1, by omega⟩ ⟨by omega, by omega⟩ h6
  have e1 : amt r dem s i = min (elt dem (i : Int) - elt s.out (i : Int)) s.sz := if_neg hr
  have e2 : (dst r dem s i).b = s.b := if_neg hr
  rw [e1, e2, show rfn r = 101 from if_neg hr]
  refine (bk_rest g i _ _ w).mono fun e w' ⟨v, h1, h2, h3⟩ => ⟨v, h1, h2, ?_⟩
  exact (hs.call h3).sub Z.b17
theorem bk_div1 (x : Int) (w : World) : Calls Tryz.prog 99 #[.int .i64 x] w (SX.Ret fun v w' => v = .bool (decide (0 ≤ x ∧ x ≤ 16777216)) ∧ SX.St w [] w' []) := by
  have hs := SX.St.start w
  refine Z.enter Tryz.func99 rfl Tryz.ntmps99 rfl rfl ?_
  refine Z.g241 ?_
  refine Z.g32 ?_
  refine Z.ZO.call rfl rfl (by rfl) rfl rfl Tryz.call69 rfl (bk_between x 0 16777216 _) ?_
  rintro v1_1 w1_1 ⟨rfl, hy⟩
  replace hs := Z.w1 (hs.call hy); clear hy
  refine Z.g154 ?_
  refine Z.g52 ?_
  exact ⟨_, rfl, rfl, hs⟩
theorem natI_elt {o : List Nat} {k : Nat} (hk : k < o.length) : elt (natI o) (k : Int) = (o[k] : Int) := by
  rw [elt_get (by simp [natI]; exact hk)]
  simp [natI]
set_option maxHeartbeats 1000000 in
set_option maxRecDepth 100000 in
theorem bk_divide (g : Nat) (sv so : Value) (m : BkV) (size : Int) (A : Option Addr) (nd cd : Nat) (dem : List Int) (w : World) (hs : SX.St w (SX.idsOf (bkE g sv so m)) w (bkE g sv so m)) (hm : m.ok)
    (hd : Sx w (SX.idsOf (bkE g sv so m)) A (ints .i64 dem)) (hdl : dem.length = nd) :
    Calls Tryz.prog 49 #[.pointer (some ⟨g, 0, none⟩), .int .i64 size, .slice A nd cd] w (SX.Ret fun v w' => ∃ ov, v = .tuple #[ov, .int .i64 (divV m size dem).2.2] ∧ SX.St w (SX.idsOf (bkE g sv so m)) w' (SX.Ent.row ov 3 1 (divV m size dem).2.1.length (ints .i64 (divV m size dem).2.1) :: bkE g sv so (divV m size dem).1)) := by
  generalize hM : SX.idsOf (bkE g sv so m) = M at *
  have hpos := hm.pos
  unfold bkE at hs
  obtain ⟨gs, cs, rfl, hcs⟩ := row_form hs (j := 1) rfl Z.b9
  obtain ⟨gq, cq, rfl, hcq⟩ := row_form hs (j := 2) rfl Z.b9
  refine Z.enter Tryz.func49 rfl Tryz.ntmps49 rfl rfl ?_
  refine Z.g152 ?_
  refine Z.only [0, 1, 2] rfl ?_
  refine Z.g159 ?_
  refine Z.ZO.call rfl rfl (by rfl) rfl rfl Tryz.call88 rfl (bk_none g _ _ _ _ _ _ (hs.celOf (cs := [_, _, _]) Z.b0)) ?_
  rintro v1_1 w1_1 ⟨rfl, hy⟩
  replace hs := Z.w1 (hs.call hy); clear hy
  refine Z.g314 ?_
  refine Z.only [0, 1, 2, 15] rfl ?_
  refine Z.g313 ?_
  refine Z.cond rfl (fun h => absurd h (by simp only [decide_eq_true_eq]; omega)) (fun hc1 => ?_)
  refine Z.skip ?_
  refine Z.g159 ?_
  refine Z.ZO.call rfl rfl (by rfl) rfl rfl Tryz.call69 rfl (bk_between size 0 16777216 _) ?_
  rintro v3_1 w3_1 ⟨rfl, hy⟩
  replace hs := Z.w1 (hs.call hy); clear hy
  refine Z.g22 ?_
  refine Z.split (s := 19) rfl (fun hsp19 => ?_) (fun hsp19 => ?_)
  · refine Z.yes (s := 19) (b := true) rfl hsp19 rfl ?_
    (try simp at hsp19)
    refine Z.g2 ?_
    refine Z.g134 ?_
    refine Z.g64 ?_
    refine Z.split (s := 29) rfl (fun hsp29 => ?_) (fun hsp29 => ?_)
    · refine Z.yes (s := 29) (b := true) rfl hsp29 rfl ?_
      (try simp at hsp29)
      refine Z.g2 ?_
      refine Z.g15 ?_
      refine Z.g314 ?_
      refine Z.only [0, 1, 2, 33] rfl ?_
      refine Z.g313 ?_
      refine Z.cond rfl (fun hc3 => ?_) (fun hc3 => ?_)
      · (try simp at hc3)
        have hno : ¬ okD m size dem := by
          rintro ⟨h1, h2, h3⟩
          omega
        have eD : divV m size dem = (m, [], 2) := if_neg hno
        refine Z.g152 ?_
        refine Z.g188 ?_
        repeat (first | refine Z.rthen ?_ | refine Z.rblock ?_ | refine Z.rscope ?_)
        refine Z.out2 Z.b22 ?_
        exact ⟨_, rfl, .slice none 0 0, by rw [eD], by rw [eD]; exact hs.nil 3 1⟩
      (exfalso; simp at hc3 <;> omega)
    (exfalso; simp at hsp29 <;> omega)
  refine Z.yes (s := 19) (b := false) rfl hsp19 rfl ?_
  (try simp at hsp19)
  refine Z.g64 ?_
  refine Z.g16 ?_
  refine Z.g157 ?_
  refine Z.g4 ?_
  refine Z.l rfl rfl (by rfl) (Z.keepS hs) Z.b64 ?_
  refine Z.l rfl rfl (by rfl) (Z.keepS hs) (Z.Yd.lenS rfl Tryz.underlying145) ?_
  refine Z.g64 ?_
  refine Z.yes (s := 19) (b := false) rfl rfl rfl ?_
  refine Z.g13 ?_
  refine Z.g64 ?_
  refine Z.split (s := 29) rfl (fun hsp29 => ?_) (fun hsp29 => ?_)
  · refine Z.yes (s := 29) (b := true) rfl hsp29 rfl ?_
    (try simp at hsp29)
    refine Z.g2 ?_
    refine Z.g15 ?_
    refine Z.g314 ?_
    refine Z.only [0, 1, 2, 33] rfl ?_
    refine Z.g313 ?_
    refine Z.cond rfl (fun hc3 => ?_) (fun hc3 => ?_)
    · (try simp at hc3)
      have hno : ¬ okD m size dem := by
        rintro ⟨h1, h2, h3⟩
        omega
      have eD : divV m size dem = (m, [], 2) := if_neg hno
      refine Z.g152 ?_
      refine Z.g188 ?_
      repeat (first | refine Z.rthen ?_ | refine Z.rblock ?_ | refine Z.rscope ?_)
      refine Z.out2 Z.b22 ?_
      exact ⟨_, rfl, .slice none 0 0, by rw [eD], by rw [eD]; exact hs.nil 3 1⟩
    (exfalso; simp at hc3 <;> omega)
  refine Z.yes (s := 29) (b := false) rfl hsp29 rfl ?_
  (try simp at hsp29)
  refine Z.g64 ?_
  refine Z.yes (s := 29) (b := false) rfl rfl rfl ?_
  refine Z.g117 ?_
  refine Z.ZO.call rfl rfl (by rfl) rfl rfl Tryz.call98 rfl (bk_everyI A nd cd dem 99 #[] (fun x ↦ decide (0 ≤ x ∧ x ≤ 16777216)) _ (hd.st hs) hdl Z.b9 Tryz.call99 (fun x W hW ↦ bk_div1 x W)) ?_
  rintro v3_15 w3_15 ⟨rfl, hy⟩
  replace hs := Z.w1 (hs.call hy); clear hy
  refine Z.g64 ?_
  refine Z.yes (s := 29) (b := false) rfl rfl rfl ?_
  refine Z.g13 ?_
  refine Z.g314 ?_
  refine Z.only [0, 1, 2, 33] rfl ?_
  refine Z.g313 ?_
  refine Z.cond rfl (fun hc3 => ?_) (fun hc3 => ?_)
  · (try simp at hc3)
    have hno : ¬ okD m size dem := by
      rintro ⟨h1, h2, h3⟩
      (obtain ⟨x, hx1, hx2⟩ := hc3; have := h3 x hx1; omega)
    have eD : divV m size dem = (m, [], 2) := if_neg hno
    refine Z.g152 ?_
    refine Z.g188 ?_
    repeat (first | refine Z.rthen ?_ | refine Z.rblock ?_ | refine Z.rscope ?_)
    refine Z.out2 Z.b22 ?_
    exact ⟨_, rfl, .slice none 0 0, by rw [eD], by rw [eD]; exact hs.nil 3 1⟩
  (try simp at hc3)
  have hok : okD m size dem := ⟨by omega, by omega, fun x hx => by have := hc3 x hx; omega⟩
  have eD : divV m size dem = ({ m with b := (rounds m size dem 2).b }, (rounds m size dem 2).out, 0) := if_pos hok
  have hnd : nd = m.l.length := by omega
  obtain ⟨bd, od, rfl, hdx⟩ := hd.some Z.b65
  refine Z.g151 ?_
  refine Z.g64 ?_
  refine Z.g16 ?_
  refine Z.g3 ?_
  refine Z.ZO.make1 (i0 := Tryz.t3) (bytes := 8) rfl rfl (by rfl) hs Tryz.underlying34 Z.b4 rfl rfl rfl rfl rfl rfl Z.b9 Z.b23 ?_
  clear hs; intro g36 w36 hs
  refine Z.g1 ?_
  refine Z.only [0, 1, 2, 8] rfl ?_
  refine Z.g60 ?_
  have ez : List.replicate nd (Value.int .i64 0) = ints .i64 (List.replicate m.l.length 0) := by subst hnd; simp [ints]
  rw [ez] at hs
  subst hnd
  replace hs : SX.St w M _ [SX.Ent.row (.slice (some ⟨g36, 0, none⟩) m.l.length m.l.length) 3 1 m.l.length (ints .i64 (dv0 m size).out), SX.Ent.blk g _ _, SX.Ent.row _ _ _ _ _, SX.Ent.row _ _ _ _ _] := hs
  refine Z.l rfl rfl (by rfl) (Z.keepS hs) (Z.Yd.buildL [(0, 1), (1, 1)] [.nilFunc, .nilFunc] rfl rfl Z.b15) ?_
  refine Z.g1 ?_
  refine Z.only [0, 1, 2, 8, 37, 38] rfl ?_
  refine Z.g210 ?_
  refine Z.loopk (ι := Nat) [0, 2, 8, 37] rfl (fun x => [(1, [], .int .i64 (rounds m size dem x).sz), (38, [], .int .i64 (x : Int))]) (fun x wr => x ≤ 2 ∧ SX.St w M wr [SX.Ent.row (.slice (some ⟨g36, 0, none⟩) m.l.length m.l.length) 3 1 m.l.length (ints .i64 (rounds m size dem x).out), SX.Ent.blk g 147 #[.slice (some ⟨gs, 0, none⟩) m.l.length cs, .slice (some ⟨gq, 0, none⟩) m.l.length cq, .int .i64 m.now], SX.Ent.row (.slice (some ⟨gs, 0, none⟩) m.l.length cs) 149 6 m.l.length (({ m with b := (rounds m size dem x).b } : BkV).chs.flatMap chC), SX.Ent.row (.slice (some ⟨gq, 0, none⟩) m.l.length cq) 3 1 m.l.length (ints .i64 (natI (ordL m.l)))]) (fun x => 2 - x) 0 Z.b14 ⟨by omega, hs⟩ ?_
  clear hs
  rintro r w7 ⟨hr, hs⟩
  refine Z.only [0, 1, 2, 8, 37, 38] rfl ?_
  refine Z.g120 ?_
  refine Z.only [0, 1, 2, 8, 37, 38, 39] rfl ?_
  refine Z.g150 ?_
  refine Z.cond rfl (fun hc7 => ?_) (fun hc7 => ?_)
  · (try simp at hc7)
    have hr2 : r < 2 := by omega
    have hrf := rfn_call r
    have hidx : (#[Value.func (.func 100) #[] #[], Value.func (.func 101) #[] #[]] : Array Value)[r]? = some (.func (.func (rfn r)) #[] #[]) := by
      have : r = 0 ∨ r = 1 := by omega
      rcases this with rfl | rfl <;> rfl
    refine Z.g238 ?_
    refine Z.l rfl rfl (by rfl) (Z.keepS hs) (Z.Yd.idx1 rfl rfl Tryz.underlying179 Tryz.sizeOf178 Tryz.isAgg178 (fun _ => ⟨by omega, by omega, by rw [Int.toNat_natCast]; exact hidx⟩)) ?_
    refine Z.g1 ?_
    refine Z.only [0, 1, 2, 8, 10, 37, 38] rfl ?_
    refine Z.g30 ?_
    refine Z.g157 ?_
    refine Z.g9 ?_
    refine Z.g130 ?_
    refine Z.g227 ?_
    refine Z.only [0, 1, 2, 8, 10, 37, 38, 44, 45, 46] rfl ?_
    refine Z.g210 ?_
    refine Z.loopk (ι := Nat) [0, 2, 8, 10, 37, 38, 44, 45] rfl (fun x => [(1, [], .int .i64 (rnd r dem (rounds m size dem r) ((ordL m.l).take x)).sz), (46, [], .int .i64 (x : Int))]) (fun x wr => x ≤ m.l.length ∧ SX.St w M wr [SX.Ent.row (.slice (some ⟨g36, 0, none⟩) m.l.length m.l.length) 3 1 m.l.length (ints .i64 (rnd r dem (rounds m size dem r) ((ordL m.l).take x)).out), SX.Ent.blk g 147 #[.slice (some ⟨gs, 0, none⟩) m.l.length cs, .slice (some ⟨gq, 0, none⟩) m.l.length cq, .int .i64 m.now], SX.Ent.row (.slice (some ⟨gs, 0, none⟩) m.l.length cs) 149 6 m.l.length (({ m with b := (rnd r dem (rounds m size dem r) ((ordL m.l).take x)).b } : BkV).chs.flatMap chC), SX.Ent.row (.slice (some ⟨gq, 0, none⟩) m.l.length cq) 3 1 m.l.length (ints .i64 (natI (ordL m.l)))]) (fun x => m.l.length - x) 0 Z.b14 ⟨Nat.zero_le _, hs⟩ ?_
    clear hs
    rintro k w10 ⟨hk, hs⟩
    refine Z.only [0, 1, 2, 8, 10, 37, 38, 44, 45, 46] rfl ?_
    refine Z.g120 ?_
    refine Z.only [0, 1, 2, 8, 10, 37, 38, 44, 45, 46, 47] rfl ?_
    refine Z.g150 ?_
    refine Z.cond rfl (fun hc10 => ?_) (fun hc10 => ?_)
    · (try simp at hc10)
      have hkl : k < (ordL m.l).length := by rw [ordL_len hm.set]; omega
      have hnl : (natI (ordL m.l)).length = m.l.length := by simp [natI, ordL_len hm.set]
      have hst := rnd_take (r := r) (dem := dem) (s := rounds m size dem r) hkl
      have hso : (rnd r dem (rounds m size dem r) ((ordL m.l).take k)).ok m dem := (rounds_ok hm hok r).fold r fun i hi => ord_lt hm i (List.mem_of_mem_take hi)
      generalize hsd : rnd r dem (rounds m size dem r) ((ordL m.l).take k) = s at hs hst hso ⊢
      have hel : elt (natI (ordL m.l)) (k : Int) = ((ordL m.l)[k] : Int) := natI_elt hkl
      have hil : (ordL m.l)[k] < m.l.length := ord_lt hm _ (List.getElem_mem _)
      obtain ⟨i, hid⟩ : ∃ i, i = (ordL m.l)[k] := ⟨_, rfl⟩
      rw [← hid] at hel hil hst
      have h1 := hso.og i hil
      have h5 := hok.2.2.elt (i := i) Z.b9
      have h6 := hso.sz
      have hol := hso.ol
      obtain ⟨a1, a2, a3, -⟩ := amt_bd hso r hil
      have hcl : (ints .i64 (natI (ordL m.l)))[0 + (k : Int).toNat * 1]? = some (.int .i64 (i : Int)) := by rw [← hel]; exact Z.ints_at Z.b9 Z.b9
      refine Z.g238 ?_
      refine Z.g24 ?_
      refine Z.l rfl rfl (by rfl) (Z.keepS hs) (Z.Yd.load rfl Tryz.isAgg3 (fun _ => Z.cellR Z.b0 hcl)) ?_
      refine Z.g1 ?_
      refine Z.only [0, 1, 2, 8, 10, 12, 37, 38, 44, 45, 46] rfl ?_
      refine Z.g150 ?_
      refine Z.drawL [SX.Ent.row (.slice (some ⟨g36, 0, none⟩) m.l.length m.l.length) 3 1 m.l.length (ints .i64 s.out), SX.Ent.blk g 147 #[.slice (some ⟨gs, 0, none⟩) m.l.length cs, .slice (some ⟨gq, 0, none⟩) m.l.length cq, .int .i64 m.now]] (fun _ => true) mixed hs ?_
      clear hs; intro wd12 hs
      refine Z.g49 ?_
      refine Z.t 4 rfl rfl rfl (by rfl) Z.b4 ⟨_, hs, Z.b2⟩ Z.b64 ?_
      refine Z.tb [5] Z.b4 rfl ⟨_, hs, Z.b2⟩ rfl ?_
      refine Z.t 6 rfl rfl rfl (by rfl) Z.b4 ⟨_, hs, Z.b2⟩ (Z.Yd.elem rfl rfl Tryz.underlying145 Tryz.sizeOf149 (fun hG => ⟨Z.b3, Z.b3⟩)) ?_
      refine Z.tb [7, 8] Z.b4 rfl ⟨_, hs, Z.b2⟩ rfl ?_
      refine Z.t 9 rfl rfl rfl (by rfl) Z.b4 ⟨_, hs, Z.b2⟩ (Z.Yd.elem rfl rfl Tryz.underlying34 Tryz.sizeOf3 (fun hG => ⟨Z.b3, Z.b3⟩)) ?_
      refine Z.t 10 rfl rfl rfl (by rfl) Z.b4 ⟨_, hs, Z.b2⟩ (Z.Yd.load rfl Tryz.isAgg3 (fun _ => Z.cellXi hdx Z.b9 Z.b9)) ?_
      refine Z.tb [11, 12] Z.b4 rfl ⟨_, hs, Z.b2⟩ rfl ?_
      refine Z.t 13 rfl rfl rfl (by rfl) Z.b4 ⟨_, hs, Z.b2⟩ (Z.Yd.elem rfl rfl Tryz.underlying34 Tryz.sizeOf3 (fun hG => ⟨Z.b3, Z.b3⟩)) ?_
      refine Z.t 14 rfl rfl rfl (by rfl) Z.b4 ⟨_, hs, Z.b2⟩ (Z.Yd.load rfl Tryz.isAgg3 (fun _ => Z.cellR Z.b0 (Z.ints_at Z.b9 Z.b9))) ?_
      refine Z.t 15 rfl rfl rfl (by rfl) Z.b4 ⟨_, hs, Z.b2⟩ (Z.Yd.sub rfl rfl (fun hG => Z.wi64 Z.b3)) ?_
      refine Z.tb [16] Z.b4 rfl ⟨_, hs, Z.b2⟩ rfl ?_
      replace hs : SX.St w M _ ([SX.Ent.row _ _ _ _ _] ++ [SX.Ent.row _ _ _ _ _, SX.Ent.blk g _ _, SX.Ent.row _ _ _ _ _]) := hs.sel [2, 0, 1, 3] Z.b12
      refine Z.tn 17 rfl rfl Z.b4 rfl trivial ?_
      refine Z.ZO.call rfl rfl (by rfl) rfl rfl hrf Z.b24 (bk_round r gs i cs m dem s _ hs.lend hm hso hok.2.2 Z.b9 hil) ?_
      rintro v12_17 w12_17 ⟨rfl, hz⟩
      replace hs := hs.regain hz
      replace hs := Z.w2 hs
      refine Z.tk (Dn := fun _ => true) (i := 17) (fun _ => ⟨_, hs, Z.b2⟩) ?_
      refine Z.tb [18] Z.b4 rfl ⟨_, hs, Z.b2⟩ rfl ?_
      refine Z.g68 ?_
      refine Z.only [0, 1, 2, 8, 10, 12, 13, 37, 38, 44, 45, 46] rfl ?_
      refine Z.g30 ?_
      refine Z.g22 ?_
      refine Z.g24 ?_
      refine Z.l rfl rfl (by rfl) (Z.keepS hs) (Z.Yd.load rfl Tryz.isAgg3 (fun _ => Z.cellR Z.b0 (Z.ints_at Z.b9 Z.b9))) ?_
      refine Z.g64 ?_
      refine Z.g5 ?_
      refine Z.g24 ?_
      refine Z.g3 ?_
      refine Z.g137 ?_
      clear hs; intro ws hs
      replace hs := Z.w0 hs
      refine Z.g314 ?_
      refine Z.only [0, 1, 2, 8, 10, 13, 37, 38, 44, 45, 46] rfl ?_
      refine Z.g121 ?_
      rw [Int.toNat_natCast, Nat.mul_one] at hs
      have eo : (ints .i64 s.out).set i (.int .i64 (elt s.out (i : Int) + amt r dem s i)) = ints .i64 (dst r dem s i).out := by simp only [ints, dst, List.map_set]
      rw [eo] at hs
      refine Z.g18 ?_
      refine Z.g64 ?_
      refine Z.g19 ?_
      refine Z.g1 ?_
      refine Z.only [0, 1, 2, 8, 10, 37, 38, 44, 45, 46] rfl ?_
      refine Z.g180 ?_
      refine Z.only [0, 1, 2, 8, 10, 37, 38, 44, 45, 46] rfl ?_
      refine Z.g313 ?_
      refine Z.again (k + 1) (by refine ⟨?_, ?_, ?_, ?_, ?_, ?_, ?_, ?_, ?_, ?_, trivial⟩ <;> first | rfl | (rw [hst]; rfl)) ⟨by omega, by rw [hst]; exact hs.sel [1, 2, 0, 3] Z.b12⟩ Z.b9
    (try simp at hc10)
    refine Z.g11 ?_
    refine Z.g180 ?_
    refine Z.only [0, 1, 2, 8, 37, 38] rfl ?_
    refine Z.g313 ?_
    have hkk : (ordL m.l).take k = ordL m.l := List.take_of_length_le (by rw [ordL_len hm.set]; omega)
    refine Z.again (r + 1) (by refine ⟨?_, ?_, ?_, ?_, ?_, ?_, trivial⟩ <;> first | rfl | (rw [hkk]; rfl)) ⟨by omega, ?_⟩ Z.b9
    rw [hkk] at hs
    exact hs
  (try simp at hc7)
  refine Z.g211 ?_
  obtain rfl : r = 2 := by omega
  have hol2 := (rounds_ok hm hok 2).ol
  refine Z.g18 ?_
  refine Z.g31 ?_
  refine Z.g188 ?_
  refine Z.out2 Z.b22 ?_
  exact ⟨_, rfl, _, by rw [eD], by rw [eD]; dsimp only; rw [hol2]; exact hs⟩
end Go.Proofs.YtbojkoiopkaciaaGreat

/- Buckets: what only reads: Level, Now, Order, Copy, Same. -/
namespace Go.Proofs.YtbojkoiopkaciaaGreat
open Go.RowKit
set_option linter.unusedSimpArgs false
set_option linter.unusedVariables false
--newlaws

def BkR (w : World) (g : Nat) (m : BkV) : Prop := ∃ A c B d, Cel w g [.slice A m.l.length c, .slice B m.l.length d, .int .i64 m.now] ∧ Sl w A (m.chs.flatMap chC) ∧ Sl w B (ints .i64 (natI (ordL m.l)))
theorem BkR.st {w W : World} {L : List SX.Ent} {g : Nat} {m : BkV} (h : BkR w g m) (hW : SX.St w [] W L) : BkR W g m := by
  obtain ⟨A, c, B, d, h1, h2, h3⟩ := h
  exact ⟨A, c, B, d, h1.st hW, h2.st hW, h3.st hW⟩
theorem bkE_form {w0 w : World} {M : List Nat} {L : List SX.Ent} {g : Nat} {sv so : Value} {m : BkV} (hs : SX.St w0 M w L) (h : ∀ e ∈ bkE g sv so m, e ∈ L) : ∃ A c B d, sv = .slice A m.l.length c ∧ so = .slice B m.l.length d ∧ Sl w A (m.chs.flatMap chC) ∧ Sl w B (ints .i64 (natI (ordL m.l))) := by
  have h2 := h _ (show _ ∈ bkE g sv so m from List.mem_cons_of_mem _ List.mem_cons_self)
  have h3 := h _ (show _ ∈ bkE g sv so m from List.mem_cons_of_mem _ (List.mem_cons_of_mem _ List.mem_cons_self))
  obtain ⟨j2, hj2⟩ := List.mem_iff_getElem?.1 h2
  obtain ⟨j3, hj3⟩ := List.mem_iff_getElem?.1 h3
  obtain ⟨A, c, e1, -, -, r1⟩ := SX.row_slv hs hj2
  obtain ⟨B, d, e2, -, -, r2⟩ := SX.row_slv hs hj3
  exact ⟨A, c, B, d, e1, e2, r1, r2⟩
theorem SX.St.bkR {w0 w : World} {M : List Nat} {L : List SX.Ent} {g : Nat} {sv so : Value} {m : BkV} (hs : SX.St w0 M w L) (h : ∀ e ∈ bkE g sv so m, e ∈ L) : BkR w g m := by
  obtain ⟨A, c, B, d, rfl, rfl, r1, r2⟩ := bkE_form hs h
  exact ⟨A, c, B, d, hs.celOf (T := 147) (cs := [_, _, _]) (h _ List.mem_cons_self), r1, r2⟩
def lvV (m : BkV) (id : Int) : Int × Bool := if 0 ≤ idxG (fun x : LgV => decide (x.id = id)) m.l then (elt m.b (idxG (fun x : LgV => decide (x.id = id)) m.l), true) else (0, false)
theorem lvV_some {m : BkV} {id : Int} {k : Nat} (h0 : ∀ x ∈ m.l.take k, decide (x.id = id) = false) (hk : k < m.l.length) (h1 : m.l[k]!.id = id) : lvV m id = (elt m.b (k : Int), true) := by
  unfold lvV
  rw [idxG_some h0 hk (by rw [← getElem!_pos m.l k hk]; simpa using h1), if_pos Z.b9]
theorem lvV_none {m : BkV} {id : Int} (h0 : ∀ x ∈ m.l, decide (x.id = id) = false) : lvV m id = (0, false) := by
  unfold lvV
  rw [idxG_none h0, if_neg Z.b9]
theorem take_none {m : BkV} {id : Int} {k : Nat} (h0 : ∀ x ∈ m.l.take k, decide (x.id = id) = false) (hk : k < m.l.length) (h1 : ¬ m.l[k]!.id = id) : ∀ x ∈ m.l.take (k + 1), decide (x.id = id) = false := by
  intro x hx
  rw [List.take_add_one, List.getElem?_eq_getElem hk] at hx
  rcases List.mem_append.1 hx with hx | hx
  · exact h0 x hx
  obtain rfl : x = m.l[k] := by simpa using hx
  rw [getElem!_pos m.l k hk] at h1
  simpa using h1
theorem bk_level (g : Nat) (m : BkV) (id : Int) (w : World) (hr : BkR w g m) (hm : m.ok) : Calls Tryz.prog 64 #[.pointer (some ⟨g, 0, none⟩), .int .i64 id] w (SX.Ret fun v w' => v = .tuple #[.int .i64 (lvV m id).1, .bool (lvV m id).2] ∧ SX.St w [] w' []) := by
  obtain ⟨A, c, B, d, hc, hA, hB⟩ := hr
  have hpos := hm.pos
  have hs := SX.St.start w
  obtain ⟨bb, off, rfl, hb0, hx2⟩ := Z.Sl.some hA (by rw [flat_len ch_len, hm.chl]; omega)
  refine Z.enter Tryz.func64 rfl Tryz.ntmps64 rfl rfl ?_
  refine Z.g152 ?_
  refine Z.only [0, 1] rfl ?_
  refine Z.g159 ?_
  refine Z.ZO.call rfl rfl (by rfl) rfl rfl Tryz.call88 rfl (bk_none g _ _ _ _ _ _ hc) ?_
  rintro v1_1 w1_1 ⟨rfl, hy⟩
  replace hs := Z.w1 (hs.call hy); clear hy
  refine Z.g314 ?_
  refine Z.only [0, 1, 9] rfl ?_
  refine Z.g313 ?_
  refine Z.cond rfl (fun h => absurd h (by simp only [decide_eq_true_eq]; omega)) (fun hc1 => ?_)
  refine Z.skip ?_
  refine Z.g123 ?_
  refine Z.g218 ?_
  refine Z.l rfl rfl (by rfl) (Z.keepS hs) (Z.Yd.load rfl Tryz.isAgg145 (fun _ => Z.cellO hc.1 Z.b17 (hc.2 0 _ rfl))) ?_
  refine Z.l rfl rfl (by rfl) (Z.keepS hs) (Z.Yd.lenS rfl Tryz.underlying145) ?_
  refine Z.g1 ?_
  refine Z.only [1, 13, 14, 15] rfl ?_
  refine Z.g210 ?_
  refine Z.loopk (ι := Nat) [1, 13, 14] rfl (fun k => [(15, [], .int .i64 (k : Int))]) (fun k wr => (k ≤ m.l.length ∧ ∀ x ∈ m.l.take k, decide (x.id = id) = false) ∧ SX.St w [] wr []) (fun k => m.l.length - k) 0 Z.b6 ⟨⟨by omega, by simp⟩, hs⟩ ?_
  clear hs
  rintro k w4 ⟨⟨hk, h0⟩, hs⟩
  refine Z.only [1, 13, 14, 15] rfl ?_
  refine Z.g120 ?_
  refine Z.only [1, 13, 14, 15, 16] rfl ?_
  refine Z.g150 ?_
  refine Z.cond rfl (fun hc4 => ?_) (fun hc4 => ?_)
  · (try simp at hc4)
    have hlt : k < m.l.length := by omega
    have hg := hm.chg hlt
    have hone := ch_one (m.l[k]!, elt m.b (k : Int))
    refine Z.g238 ?_
    refine Z.l rfl rfl (by rfl) (Z.keepS hs) (Z.Yd.elem rfl rfl Tryz.underlying145 Tryz.sizeOf149 (fun hG => ⟨Z.b3, Z.b3⟩)) ?_
    refine Z.l rfl rfl (by rfl) (Z.keepS hs) (Z.Yd.loadA _ rfl Tryz.isAgg149 (fun _ W hK j u hu => Z.cellXq (enc := chC) hx2.sx ch_len hg hu W hK) (by exact Tryz.sizeOf149)) ?_
    refine Z.g3 ?_
    refine Z.ZO.alloc rfl rfl (by rfl) Tryz.zeroValue149 rfl hs ?_
    clear hs; intro g7 w7 hs
    refine Z.g124 ?_
    clear hs; intro ws hs
    replace hs := Z.w0 hs
    replace hs := Z.w3 hs
    refine Z.g314 ?_
    refine Z.only [1, 7, 13, 14, 15] rfl ?_
    refine Z.g30 ?_
    refine Z.g4 ?_
    refine Z.g97 ?_
    refine Z.g31 ?_
    refine Z.only [1, 7, 13, 14, 15, 23] rfl ?_
    refine Z.g313 ?_
    refine Z.cond rfl (fun hc6 => ?_) (fun hc6 => ?_)
    · (try simp at hc6)
      have hid : m.l[k]!.id = id := by simpa using hc6
      refine Z.g0 ?_
      refine Z.g118 ?_
      refine Z.g14 ?_
      refine Z.g31 ?_
      refine Z.g158 ?_
      repeat (first | refine Z.rthen ?_ | refine Z.rblock ?_ | refine Z.rscope ?_)
      refine Z.out2 Z.b22 ?_
      exact ⟨_, rfl, by rw [lvV_some h0 hlt hid], hs.sub (List.nil_sublist _)⟩
    (try simp at hc6)
    have hid : ¬ m.l[k]!.id = id := by simpa using hc6
    refine Z.g235 ?_
    refine Z.only [1, 13, 14, 15] rfl ?_
    refine Z.g313 ?_
    exact Z.again (k + 1) Z.b10 ⟨⟨by omega, take_none h0 hlt hid⟩, hs.sub (List.nil_sublist _)⟩ Z.b9
  (try simp at hc4)
  refine Z.g211 ?_
  refine Z.g31 ?_
  refine Z.g158 ?_
  refine Z.out2 Z.b22 ?_
  exact ⟨_, rfl, by rw [lvV_none (by rw [List.take_of_length_le Z.b9] at h0; exact h0)], hs⟩
end Go.Proofs.YtbojkoiopkaciaaGreat

/- Buckets: the document's Valid, New, Order. -/
namespace Go.Proofs.YtbojkoiopkaciaaGreat
open Go.RowKit
set_option linter.unusedSimpArgs false
set_option linter.unusedVariables false
--newlaws

end Go.Proofs.YtbojkoiopkaciaaGreat

/- Buckets: the document's Tick, Divide, Level, Same. -/
namespace Go.Proofs.YtbojkoiopkaciaaGreat
open Go.RowKit
set_option linter.unusedSimpArgs false
set_option linter.unusedVariables false
--newlaws

end Go.Proofs.YtbojkoiopkaciaaGreat

/- Bits, fields and bytes: plain facts. -/
namespace Go.Proofs.YtbojkoiopkaciaaGreat
set_option linter.unusedVariables false
set_option linter.unusedSimpArgs false

def bi (b : Bool) : Int := if b then 1 else 0
def bits (bs : List Bool) : List Int := bs.map bi
def bt (bs : List Bool) (i : Nat) : Bool := bs.getD i false
def bn (bs : List Bool) (i : Nat) : Nat := (bt bs i).toNat
def byt (bs : List Bool) (j : Nat) : Nat := 128 * bn bs (8 * j) + 64 * bn bs (8 * j + 1) + 32 * bn bs (8 * j + 2) + 16 * bn bs (8 * j + 3) + 8 * bn bs (8 * j + 4) + 4 * bn bs (8 * j + 5) + 2 * bn bs (8 * j + 6) + bn bs (8 * j + 7)
def pkn (bs : List Bool) (m : Nat) : List Int := (List.range m).map fun j => (byt bs j : Int)
def pk (bs : List Bool) : List Int := pkn bs ((bs.length + 7) / 8)

theorem bn_le (bs : List Bool) (i : Nat) : bn bs i ≤ 1 := by unfold bn; cases bt bs i <;> simp
theorem byt_lt (bs : List Bool) (j : Nat) : byt bs j < 256 := by
  have h := bn_le bs
  have h0 := h (8 * j); have h1 := h (8 * j + 1); have h2 := h (8 * j + 2); have h3 := h (8 * j + 3)
  have h4 := h (8 * j + 4); have h5 := h (8 * j + 5); have h6 := h (8 * j + 6); have h7 := h (8 * j + 7)
  unfold byt
  omega
theorem bn_out {bs : List Bool} {i : Nat} (h : bs.length ≤ i) : bn bs i = 0 := by
  unfold bn bt
  rw [List.getD_eq_getElem?_getD, List.getElem?_eq_none h]
  rfl
theorem bn_app_lt {bs cs : List Bool} {i : Nat} (h : i < bs.length) : bn (bs ++ cs) i = bn bs i := by
  unfold bn bt
  rw [List.getD_eq_getElem?_getD, List.getD_eq_getElem?_getD, List.getElem?_append_left h]
theorem bn_app_ge {bs cs : List Bool} {i : Nat} : bn (bs ++ cs) (bs.length + i) = bn cs i := by
  unfold bn bt
  rw [List.getD_eq_getElem?_getD, List.getD_eq_getElem?_getD, List.getElem?_append_right Z.b9]
  congr 3
  omega
theorem bn_snoc {bs : List Bool} {b : Bool} {i : Nat} : bn (bs ++ [b]) i = if i = bs.length then b.toNat else bn bs i := by
  by_cases h : i < bs.length
  · rw [bn_app_lt h, if_neg Z.b9]
  by_cases h2 : i = bs.length
  · subst h2
    rw [if_pos rfl]
    have := bn_app_ge (bs := bs) (cs := [b]) (i := 0)
    rw [Nat.add_zero] at this
    rw [this]
    rfl
  rw [if_neg h2, bn_out Z.b41, bn_out Z.b9]
@[simp] theorem pkn_length (bs : List Bool) (m : Nat) : (pkn bs m).length = m := by simp [pkn]
theorem pk_length (bs : List Bool) : (pk bs).length = (bs.length + 7) / 8 := by simp [pk, pkn_length]
@[simp] theorem bits_length (bs : List Bool) : (bits bs).length = bs.length := by simp [bits]

theorem byt_snoc_ne {bs : List Bool} {b : Bool} {j : Nat} (h : j ≠ bs.length / 8) : byt (bs ++ [b]) j = byt bs j := by
  have e : ∀ i, 8 * j ≤ i → i < 8 * j + 8 → bn (bs ++ [b]) i = bn bs i := fun i h1 h2 => by
    rw [bn_snoc, if_neg Z.b9]
  unfold byt
  rw [e (8 * j) Z.b9 Z.b9, e (8 * j + 1) Z.b9 Z.b9, e (8 * j + 2) Z.b9 Z.b9, e (8 * j + 3) Z.b9 Z.b9,
    e (8 * j + 4) Z.b9 Z.b9, e (8 * j + 5) Z.b9 Z.b9, e (8 * j + 6) Z.b9 Z.b9, e (8 * j + 7) Z.b9 Z.b9]
theorem byt_snoc {bs : List Bool} {b : Bool} : byt (bs ++ [b]) (bs.length / 8) = byt bs (bs.length / 8) + b.toNat * 2 ^ (7 - bs.length % 8) ∧ 2 ^ (8 - bs.length % 8) ∣ byt bs (bs.length / 8) := by
  obtain ⟨q, r, hr, hl⟩ : ∃ q r, r < 8 ∧ bs.length = 8 * q + r := ⟨bs.length / 8, bs.length % 8, by omega, by omega⟩
  have e1 : bs.length / 8 = q := by omega
  have e2 : bs.length % 8 = r := by omega
  rw [e1, e2]
  have hb : b.toNat ≤ 1 := by cases b <;> simp
  have hs : ∀ i, bn (bs ++ [b]) i = if i = 8 * q + r then b.toNat else bn bs i := fun i => by rw [bn_snoc, hl]
  have ho : ∀ i, 8 * q + r ≤ i → bn bs i = 0 := fun i hi => bn_out Z.b9
  unfold byt
  have h8 : r = 0 ∨ r = 1 ∨ r = 2 ∨ r = 3 ∨ r = 4 ∨ r = 5 ∨ r = 6 ∨ r = 7 := by omega
  rcases h8 with rfl | rfl | rfl | rfl | rfl | rfl | rfl | rfl <;> simp only [hs] <;> (refine ⟨?_, ?_⟩)
  all_goals first
    | (simp; simp [ho]; omega)
    | (simp [ho]; done)
    | (simp [ho]; omega)
    | skip

theorem pkn_set {bs : List Bool} {b : Bool} {m : Nat} (hm : bs.length / 8 < m) : (pkn bs m).set (bs.length / 8) ((byt (bs ++ [b]) (bs.length / 8) : Nat) : Int) = pkn (bs ++ [b]) m := by
  apply List.ext_getElem?
  intro i
  simp only [pkn, List.getElem?_set, List.length_map, List.length_range, List.getElem?_map]
  by_cases h : bs.length / 8 = i
  · subst h
    simp [hm]
  rw [if_neg h]
  by_cases hi : i < m
  · rw [List.getElem?_range hi]
    simp only [Option.map_some]
    rw [byt_snoc_ne (Ne.symm h)]
  rw [List.getElem?_eq_none (by simpa using hi)]
  rfl
theorem byt_out {bs : List Bool} {j : Nat} (h : bs.length ≤ 8 * j) : byt bs j = 0 := by
  unfold byt
  rw [bn_out h, bn_out Z.b9, bn_out Z.b9, bn_out Z.b9, bn_out Z.b9, bn_out Z.b9, bn_out Z.b9, bn_out Z.b9]
theorem pkn_succ (bs : List Bool) (m : Nat) : pkn bs (m + 1) = pkn bs m ++ [(byt bs m : Int)] := by simp [pkn, List.range_succ]
theorem pk_grow {bs : List Bool} (h : bs.length % 8 = 0) : pk bs ++ [0] = pkn bs (bs.length / 8 + 1) := by
  unfold pk
  rw [show (bs.length + 7) / 8 = bs.length / 8 from by omega, pkn_succ, byt_out Z.b9]
  rfl
theorem pk_same {bs : List Bool} (h : bs.length % 8 ≠ 0) : pk bs = pkn bs (bs.length / 8 + 1) := by
  unfold pk
  rw [show (bs.length + 7) / 8 = bs.length / 8 + 1 from by omega]
theorem pk_snoc {bs : List Bool} {b : Bool} : (pkn bs (bs.length / 8 + 1)).set (bs.length / 8) ((byt (bs ++ [b]) (bs.length / 8) : Nat) : Int) = pk (bs ++ [b]) := by
  rw [pkn_set Z.b9]
  unfold pk
  congr 1
  simp
  omega

theorem u8_or (x y : Nat) (i m : Nat) (hx : x = 2 ^ i * m) (hy : y < 2 ^ i) (h : x + y < 256) : IntKind.u8.wrap ((BitVec.ofInt 8 (x : Int) ||| BitVec.ofInt 8 (y : Int)).toNat : Int) = ((x + y : Nat) : Int) := by
  have e1 : (BitVec.ofInt 8 (x : Int)).toNat = x := by rw [BitVec.ofInt_natCast, BitVec.toNat_ofNat]; exact Nat.mod_eq_of_lt Z.b9
  have e2 : (BitVec.ofInt 8 (y : Int)).toNat = y := by rw [BitVec.ofInt_natCast, BitVec.toNat_ofNat]; exact Nat.mod_eq_of_lt Z.b9
  rw [BitVec.toNat_or, e1, e2, hx, ← Nat.two_pow_add_eq_or_of_lt hy, ← hx]
  exact Z.wu8 Z.b9
theorem bi_nat (b : Bool) : bi b = (b.toNat : Int) := by cases b <;> rfl
theorem bi_bd (b : Bool) : 0 ≤ bi b ∧ bi b ≤ 1 := by cases b <;> simp [bi]
theorem or_byt (bs : List Bool) (b : Bool) : IntKind.u8.wrap ((BitVec.ofInt IntKind.u8.bits (byt bs (bs.length / 8) : Int) ||| BitVec.ofInt IntKind.u8.bits (bi b * 2 ^ (7 - bs.length % 8))).toNat : Int) = (byt (bs ++ [b]) (bs.length / 8) : Int) := by
  obtain ⟨h1, m, h2⟩ := byt_snoc (bs := bs) (b := b)
  have h3 := byt_lt (bs ++ [b]) (bs.length / 8)
  have hr : bs.length % 8 < 8 := Nat.mod_lt _ Z.b12
  have e : bi b * 2 ^ (7 - bs.length % 8) = ((b.toNat * 2 ^ (7 - bs.length % 8) : Nat) : Int) := by rw [bi_nat]; push_cast; rfl
  rw [e, h1]
  refine u8_or _ _ (8 - bs.length % 8) m h2 ?_ Z.b9
  have hb : b.toNat ≤ 1 := by cases b <;> simp
  have hp : 2 ^ (8 - bs.length % 8) = 2 * 2 ^ (7 - bs.length % 8) := by
    rw [show 8 - bs.length % 8 = (7 - bs.length % 8) + 1 from by omega, Nat.pow_succ, Nat.mul_comm]
  have hpos : 0 < 2 ^ (7 - bs.length % 8) := Nat.pow_pos Z.b12
  have := Nat.mul_le_mul_right (2 ^ (7 - bs.length % 8)) hb
  omega

def fld (v : Nat) : Nat → List Bool
  | 0 => []
  | w + 1 => v.testBit w :: fld v w
theorem fld_length (v : Nat) : ∀ w, (fld v w).length = w
  | 0 => rfl
  | w + 1 => by simp [fld, fld_length v w]
theorem fld_get (v : Nat) : ∀ (w i : Nat), i < w → (fld v w)[i]? = some (v.testBit (w - 1 - i))
  | 0, i, h => by omega
  | w + 1, 0, h => by simp [fld]
  | w + 1, i + 1, h => by
    have := fld_get v w i Z.b9
    simp only [fld, List.getElem?_cons_succ, this]
    congr 2
    omega
theorem testBit_bi (v i : Nat) : bi (v.testBit i) = ((v / 2 ^ i % 2 : Nat) : Int) := by
  rw [Nat.testBit_eq_decide_div_mod_eq]
  have : v / 2 ^ i % 2 = 0 ∨ v / 2 ^ i % 2 = 1 := by omega
  rcases this with h | h <;> simp [bi, h]
end Go.Proofs.YtbojkoiopkaciaaGreat

/- The writer: add. -/
namespace Go.Proofs.YtbojkoiopkaciaaGreat
open Go.RowKit
set_option linter.unusedSimpArgs false
set_option linter.unusedVariables false

def WrL (g T : Nat) (sv : Value) (bs : List Bool) : List SX.Ent := [SX.Ent.blk g T #[sv, .int .i64 (bs.length : Int)], SX.Ent.row sv 5 1 (pk bs).length (ints .u8 (pk bs))]

theorem elt_pkn {bs : List Bool} {m j : Nat} (h : j < m) : elt (pkn bs m) (j : Int) = (byt bs j : Int) := by
  simp [elt, pkn, h]
theorem pkn_at {bs : List Bool} {m j : Nat} {i : Int} (hi : i = (j : Int)) (h : j < m) : (ints .u8 (pkn bs m))[0 + i.toNat * 1]? = some (.int .u8 (byt bs j : Int)) := by
  subst hi
  have := Z.ints_at (k := .u8) (l := pkn bs m) (i := (j : Int)) Z.b9 (by rw [pkn_length]; omega)
  rwa [elt_pkn h] at this
theorem shl_bit (b : Bool) (r : Nat) (hr : r < 8) : IntKind.u8.wrap (bi b * 2 ^ (min ((7 : Int) - (r : Int)).toNat IntKind.u8.bits)) = bi b * 2 ^ (7 - r) := by
  have h8 : r = 0 ∨ r = 1 ∨ r = 2 ∨ r = 3 ∨ r = 4 ∨ r = 5 ∨ r = 6 ∨ r = 7 := by omega
  rcases h8 with rfl | rfl | rfl | rfl | rfl | rfl | rfl | rfl <;> cases b <;> decide
theorem set_byt (bs : List Bool) (b : Bool) : (ints .u8 (pkn bs (bs.length / 8 + 1))).set (((bs.length : Int) / 8).toNat * 1) (.int .u8 (byt (bs ++ [b]) (bs.length / 8) : Nat)) = ints .u8 (pk (bs ++ [b])) := by
  have e : (((bs.length : Int) / 8).toNat * 1) = bs.length / 8 := by omega
  rw [e, ← pk_snoc]
  simp only [ints]
  rw [List.map_set]

set_option maxRecDepth 100000 in
theorem add_any (g T : Nat) (sv : Value) (bs : List Bool) (b : Bool) (w : World) (hs : SX.St w (SX.idsOf (WrL g T sv bs)) w (WrL g T sv bs)) (hb : bs.length ≤ 10000000) :
    Calls Tryz.prog 195 #[.pointer (some ⟨g, 0, none⟩), .int .u8 (bi b)] w (SX.Ret fun v w' => ∃ sv', v = .tuple #[] ∧ SX.St w (SX.idsOf (WrL g T sv bs)) w' (WrL g T sv' (bs ++ [b]))) := by
  have hpl : (pk bs).length ≤ 2000000 := by rw [pk_length]; omega
  have hbb := bi_bd b
  generalize SX.idsOf (WrL g T sv bs) = M at *
  simp only [WrL] at hs
  refine Z.enter Tryz.func195 rfl Tryz.ntmps195 rfl rfl ?_
  refine Z.seq ?_
  refine Z.g0 ?_
  refine Z.g157 ?_
  refine Z.g140 ?_
  refine Z.l rfl rfl (by rfl) (Z.keepS hs) (Z.Yd.rem rfl rfl Z.b54 (by intro hG; first | exact Z.tmodn Z.b9 | exact rfl)) ?_
  refine Z.g1 ?_
  refine Z.only [0, 1, 9] rfl ?_
  refine Z.g313 ?_
  refine Z.cutt (ι := Value) [0, 1] rfl (fun _ => []) (fun sv1 wr => SX.St w M wr [SX.Ent.blk g T #[sv1, .int .i64 (bs.length : Int)], SX.Ent.row sv1 5 1 (bs.length / 8 + 1) (ints .u8 (pkn bs (bs.length / 8 + 1)))]) ?_ ?_
  · skip
    refine Z.cond rfl (fun hc0 => ?_) (fun hc0 => ?_)
    · (try simp at hc0)
      refine Z.region ?_
      refine Z.g186 ?_
      refine Z.g4 ?_
      refine Z.l rfl rfl (by rfl) (Z.keepS hs) Z.b28 ?_
      refine Z.g3 ?_
      refine Z.ZO.lit rfl rfl (by rfl) rfl (by intro W; go_simp; exact rfl) hs ?_
      clear hs; intro g15 w15 hs
      refine Z.g3 ?_
      refine Z.ZO.append (i0 := Tryz.t5) (size := 1) (bytes := 1) rfl rfl (by rfl) hs Tryz.underlying48 Z.b4 rfl rfl rfl rfl Z.b12 rfl rfl Z.b1 Z.b1 Z.b24 Z.b45 Z.b12 Z.b23 Z.b9 ?_
      clear hs; intro g16 cap16 w16 hs
      simp only [List.set_cons_zero, List.set_cons_succ, List.eraseIdx_cons_zero, List.eraseIdx_cons_succ] at hs
      refine Z.g218 ?_
      refine Z.g3 ?_
      refine Z.g84 ?_
      clear hs; intro ws hs
      replace hs := Z.w0 hs
      refine Z.g314 ?_
      refine Z.only [0, 1] rfl ?_
      refine Z.g313 ?_
      have e := pk_grow (bs := bs) Z.b9
      have e2 := pk_length bs
      rw [show (pk bs).length + 1 = bs.length / 8 + 1 from by omega] at hs
      have e3 : ints .u8 (pk bs) ++ [.int .u8 0] = ints .u8 (pkn bs (bs.length / 8 + 1)) := by rw [← e]; simp [ints]
      rw [e3] at hs
      exact Z.meet _ (by refine ⟨?_, ?_, trivial⟩ <;> rfl) hs
    (try simp at hc0)
    refine Z.skip ?_
    refine Z.g313 ?_
    have e := pk_same (bs := bs) Z.b9
    exact Z.meet _ (by refine ⟨?_, ?_, trivial⟩ <;> rfl) (by rw [e, pkn_length] at hs; exact hs)
  clear hs
  rintro sv1 w1 hs
  refine Z.only [0, 1] rfl ?_
  obtain ⟨g1, cap1, rfl, hc1, hc2⟩ := row_form (j := 1) hs rfl Z.b9
  refine Z.seq ?_
  refine Z.drawK (fun j => j != 21) mixed hs ?_
  clear hs; intro wd2 hs
  refine Z.g50 ?_
  refine Z.t 3 rfl rfl rfl (by rfl) Z.b4 ⟨_, hs, Z.b2⟩ Z.b28 ?_
  refine Z.tb [4] Z.b4 rfl ⟨_, hs, Z.b2⟩ rfl ?_
  refine Z.t 5 rfl rfl rfl (by rfl) Z.b4 ⟨_, hs, Z.b2⟩ (Z.Yd.nilc rfl rfl) ?_
  refine Z.t 6 rfl rfl rfl (by rfl) Z.b4 ⟨_, hs, Z.b2⟩ (Z.Yd.fieldA (m := 1) rfl Z.b4) ?_
  refine Z.t 7 rfl rfl rfl (by rfl) Z.b4 ⟨_, hs, Z.b2⟩ Z.b25 ?_
  refine Z.t 8 rfl rfl rfl (by rfl) Z.b4 ⟨_, hs, Z.b2⟩ (Z.Yd.quo rfl rfl Z.b54 Z.b58) ?_
  refine Z.t 9 rfl rfl rfl (by rfl) Z.b4 ⟨_, hs, Z.b2⟩ (Z.Yd.elem rfl rfl Tryz.underlying48 Tryz.sizeOf5 (fun hG => ⟨Z.b3, Z.b3⟩)) ?_
  refine Z.t 10 rfl rfl rfl (by rfl) Z.b4 ⟨_, hs, Z.b2⟩ (Z.Yd.load rfl Tryz.isAgg5 (fun _ => Z.cellR Z.b0 (pkn_at (j := bs.length / 8) Z.b9 Z.b9))) ?_
  refine Z.tb [11, 12] Z.b4 rfl ⟨_, hs, Z.b2⟩ rfl ?_
  refine Z.t 13 rfl rfl rfl (by rfl) Z.b4 ⟨_, hs, Z.b2⟩ (Z.Yd.nilc rfl rfl) ?_
  refine Z.t 14 rfl rfl rfl (by rfl) Z.b4 ⟨_, hs, Z.b2⟩ (Z.Yd.fieldA (m := 1) rfl Z.b4) ?_
  refine Z.t 15 rfl rfl rfl (by rfl) Z.b4 ⟨_, hs, Z.b2⟩ Z.b25 ?_
  refine Z.t 16 rfl rfl rfl (by rfl) Z.b4 ⟨_, hs, Z.b2⟩ (Z.Yd.rem rfl rfl Z.b54 (by intro hG; first | exact Z.tmodn Z.b9 | exact rfl)) ?_
  refine Z.t 17 rfl rfl rfl (by rfl) Z.b4 ⟨_, hs, Z.b2⟩ (Z.Yd.sub rfl rfl (fun hG => Z.wi64 Z.b3)) ?_
  refine Z.t 18 rfl rfl rfl (by rfl) Z.b4 ⟨_, hs, Z.b2⟩ (Z.Yd.shl rfl rfl Z.b54 (fun _ => shl_bit b (bs.length % 8) Z.b9)) ?_
  refine Z.t 19 rfl rfl rfl (by rfl) Z.b4 ⟨_, hs, Z.b2⟩ (Z.Yd.or rfl rfl (fun _ => or_byt bs b)) ?_
  refine Z.t 20 rfl rfl rfl (by rfl) Z.b4 ⟨_, hs, Z.b2⟩ (Z.Yd.elem rfl rfl Tryz.underlying48 Tryz.sizeOf5 (fun hG => ⟨Z.b3, Z.b3⟩)) ?_
  refine Z.tn 21 rfl rfl Z.b4 rfl trivial ?_
  refine Z.ZO.storeR rfl rfl hs Tryz.sizeOf5 rfl rfl rfl Z.b1 Z.b42 ?_
  clear hs; intro ws hs
  replace hs := Z.w0 hs
  refine Z.tk (Dn := fun j => j != 21) (i := 21) (fun h => absurd h Z.b12) ?_
  refine Z.g68 ?_
  refine Z.g82 ?_
  rw [set_byt] at hs
  refine Z.g121 ?_
  refine Z.g157 ?_
  refine Z.g140 ?_
  refine Z.g5 ?_
  refine Z.g10 ?_
  refine Z.g9 ?_
  refine Z.g156 ?_
  clear hs; intro ws hs
  replace hs := Z.w0 hs
  refine Z.g153 ?_
  refine Z.g128 ?_
  refine ⟨_, rfl, .slice (some ⟨g1, 0, none⟩) (bs.length / 8 + 1) cap1, rfl, ?_⟩
  have e1 : (pk (bs ++ [b])).length = bs.length / 8 + 1 := by rw [pk_length]; simp; omega
  have e2 : ((bs ++ [b]).length : Int) = bs.length + 1 := by simp
  simp only [WrL, e1, e2]
  exact hs
end Go.Proofs.YtbojkoiopkaciaaGreat

/- The bits of a field, one by one; put. -/
namespace Go.Proofs.YtbojkoiopkaciaaGreat
open Go.RowKit
set_option linter.unusedSimpArgs false
set_option linter.unusedVariables false

theorem prefix_take {α : Type} {l : List α} {j : Nat} {x : α} (h : l[j]? = some x) : (l.take j ++ [x]) <+: l := by
  have hj : j < l.length := (List.getElem?_eq_some_iff.1 h).1
  have hx : l[j] = x := (List.getElem?_eq_some_iff.1 h).2
  rw [← hx, ← List.take_succ_eq_append_getElem hj]
  exact List.take_prefix _ _
theorem take_snoc {α : Type} {l : List α} {j : Nat} {x : α} (h : l[j]? = some x) : l.take j ++ [x] = l.take (j + 1) := by
  have hj : j < l.length := (List.getElem?_eq_some_iff.1 h).1
  have hx : l[j] = x := (List.getElem?_eq_some_iff.1 h).2
  rw [← hx, ← List.take_succ_eq_append_getElem hj]

theorem shr_at (v wd j : Nat) (hj : j < wd) (hw : wd ≤ 64) : (v : Int).fdiv (2 ^ (min ((wd : Int) - 1 - (j : Int)).toNat IntKind.u64.bits)) = ((v / 2 ^ (wd - 1 - j) : Nat) : Int) := by
  have e : min ((wd : Int) - 1 - (j : Int)).toNat IntKind.u64.bits = wd - 1 - j := by
    have : IntKind.u64.bits = 64 := rfl
    omega
  rw [e, Int.fdiv_eq_ediv_of_nonneg _ (Int.le_of_lt (Int.pow_pos Z.b12))]
  push_cast
  rfl
theorem and_one (v i : Nat) (hv : v < 18446744073709551616) : IntKind.u64.wrap ((BitVec.ofInt IntKind.u64.bits ((v / 2 ^ i : Nat) : Int) &&& BitVec.ofInt IntKind.u64.bits 1).toNat : Int) = bi (v.testBit i) := by
  have h1 : v / 2 ^ i < 18446744073709551616 := Nat.lt_of_le_of_lt (Nat.div_le_self _ _) hv
  have e1 : (BitVec.ofInt 64 ((v / 2 ^ i : Nat) : Int)).toNat = v / 2 ^ i := by rw [BitVec.ofInt_natCast, BitVec.toNat_ofNat]; exact Nat.mod_eq_of_lt Z.b9
  have e2 : (BitVec.ofInt 64 (1 : Int)).toNat = 1 := by decide
  have e3 : ((BitVec.ofInt 64 ((v / 2 ^ i : Nat) : Int)) &&& (BitVec.ofInt 64 (1 : Int))).toNat = v / 2 ^ i % 2 := by rw [BitVec.toNat_and, e1, e2, Nat.and_one_is_mod]
  show IntKind.u64.wrap (((BitVec.ofInt 64 ((v / 2 ^ i : Nat) : Int)) &&& (BitVec.ofInt 64 (1 : Int))).toNat : Int) = _
  rw [e3, testBit_bi]
  exact Z.wu64 Z.b9
theorem u8_bi (b : Bool) : IntKind.u8.wrap (bi b) = bi b := by cases b <;> decide
def BitA (b : Bool) (args : Array Value) (Lx : List SX.Ent) : Prop := args = #[.int .u8 (bi b)] ∧ Lx = []

set_option maxRecDepth 100000 in
theorem bits_seq (gv gw Tv Tw : Nat) (v wd : Nat) (hv : v < 18446744073709551616) (hw : wd ≤ 64) :
    SX.SeqC Tryz.prog 204 #[.pointer (some ⟨gw, 0, none⟩), .pointer (some ⟨gv, 0, none⟩)] BitA [SX.Ent.blk gw Tw #[.int .i64 (wd : Int)], SX.Ent.blk gv Tv #[.int .u64 (v : Int)]] (fun _ _ => True) (fld v wd) := by
  intro l w0 M I Ix W L0 _ hY hI hs
  have hfl := fld_length v wd
  refine Z.enter Tryz.func204 rfl Tryz.ntmps204 rfl rfl ?_
  refine Z.scope ?_
  refine Z.seq ?_
  refine Z.label ?_
  refine Z.g30 ?_
  refine Z.g14 ?_
  refine Z.g19 ?_
  refine Z.g1 ?_
  refine Z.only [0, 2, 4] rfl ?_
  refine Z.g210 ?_
  refine Z.loopk (ι := Nat × List SX.Ent) [0, 2] rfl (fun j => [(4, [], .int .i64 ((wd : Int) - 1 - (j.1 : Int)))]) (fun j wr => j.1 ≤ wd ∧ I ((fld v wd).take j.1) j.2 ∧ SX.St w0 M wr (j.2 ++ [SX.Ent.blk gw Tw #[.int .i64 (wd : Int)], SX.Ent.blk gv Tv #[.int .u64 (v : Int)]])) (fun j => wd - j.1) (0, L0) Z.b6 ⟨by omega, hI, hs⟩ ?_
  clear hs
  rintro ⟨j, L1⟩ w1 ⟨hj, hi, hs⟩
  refine Z.only [0, 2, 4] rfl ?_
  (try dsimp only at hs)
  refine Z.seq ?_
  refine Z.g152 ?_
  refine Z.only [0, 2, 4, 8] rfl ?_
  refine Z.g313 ?_
  refine Z.cond rfl (fun hc1 => ?_) (fun hc1 => ?_)
  · (try simp at hc1)
    have hlt : j < wd := by omega
    have hg := fld_get v wd j hlt
    refine Z.g91 ?_
    refine Z.g182 ?_
    refine Z.l rfl rfl (by rfl) (Z.keepS hs) Z.b43 ?_
    refine Z.g64 ?_
    refine Z.l rfl rfl (by rfl) (Z.keepS hs) (Z.Yd.shr rfl rfl Z.b54 (fun _ => shr_at v wd j hlt hw)) ?_
    refine Z.l rfl rfl (by rfl) (Z.keepS hs) (Z.Yd.and rfl rfl (fun _ => and_one v (wd - 1 - j) hv)) ?_
    refine Z.l rfl rfl (by rfl) (Z.keepS hs) (Z.Yd.convI rfl ⟨_, Tryz.underlying123⟩ Tryz.underlying5 (fun _ => u8_bi _)) ?_
    refine Z.g3 ?_
    refine Z.ZO.yield rfl rfl (by rfl) rfl rfl rfl (hY _ ((fld v wd).take j) (v.testBit (wd - 1 - j)) _ _ L1 [] hi (prefix_take hg) ⟨rfl, rfl⟩ hs) ?_
    clear hs
    rintro e wy3_6 (⟨rfl, Ly3_6, hiy3_6, hs⟩ | ⟨rfl, Ly3_6, hiy3_6, hs⟩)
    · refine ⟨_, rfl, ?_⟩
      refine Z.g1 ?_
      refine Z.only [0, 2, 4, 18] rfl ?_
      refine Z.g313 ?_
      refine Z.cond rfl (fun hc3 => ?_) (fun hc3 => ?_)
      · (exfalso; simp at hc3 <;> omega)
      (try simp at hc3)
      refine Z.g71 ?_
      refine Z.g121 ?_
      refine Z.g64 ?_
      refine Z.g19 ?_
      refine Z.g1 ?_
      refine Z.only [0, 2, 4] rfl ?_
      refine Z.g313 ?_
      exact Z.again (j + 1, Ly3_6) Z.b16 ⟨by omega, by rw [← take_snoc hg]; exact hiy3_6, hs⟩ Z.b21
    refine ⟨_, rfl, ?_⟩
    refine Z.g1 ?_
    refine Z.only [0, 2, 4, 18] rfl ?_
    refine Z.g313 ?_
    refine Z.cond rfl (fun hc3 => ?_) (fun hc3 => ?_)
    · (try simp at hc3)
      refine Z.exit ?_
      refine Z.xblockn rfl ?_
      refine Z.xthen ?_
      refine Z.xthen ?_
      refine Z.xblock ?_
      refine Z.nscope ?_
      refine Z.g128 ?_
      exact ⟨⟨_, rfl⟩, Ly3_6, .inr hiy3_6, hs⟩
    (exfalso; simp at hc3 <;> omega)
  first
    | (exfalso; simp at hc1 <;> omega)
    | (
      (try simp at hc1)
      refine Z.g11 ?_
      refine Z.nscope ?_
      refine Z.g128 ?_
      exact ⟨⟨_, rfl⟩, L1, .inl (by rwa [List.take_of_length_le Z.b9] at hi), hs⟩
      )

theorem bits_any (v wd : Nat) (w : World) :
    Calls Tryz.prog 194 #[.int .u64 (v : Int), .int .i64 (wd : Int)] w (SX.Ret fun r w' => ∃ gv gw, r = .func (.func 204) #[] #[.pointer (some ⟨gw, 0, none⟩), .pointer (some ⟨gv, 0, none⟩)] ∧
      SX.St w [] w' [SX.Ent.blk gw 3 #[.int .i64 (wd : Int)], SX.Ent.blk gv 123 #[.int .u64 (v : Int)]]) := by
  have hs := SX.St.start w
  refine Z.enter Tryz.func194 rfl Tryz.ntmps194 rfl rfl ?_
  refine Z.g90 ?_
  clear hs; intro g2 w2 hs
  refine Z.g3 ?_
  refine Z.g17 ?_
  clear hs; intro g3 w3 hs
  refine Z.g1 ?_
  refine Z.only [2, 3] rfl ?_
  refine Z.g30 ?_
  refine Z.g31 ?_
  refine Z.g62 ?_
  refine Z.g52 ?_
  exact ⟨_, rfl, _, _, rfl, hs⟩

set_option maxRecDepth 100000 in
theorem put_any (g T : Nat) (sv : Value) (bs : List Bool) (v wd : Nat) (w : World) (hs : SX.St w (SX.idsOf (WrL g T sv bs)) w (WrL g T sv bs)) (hb : bs.length ≤ 9000000) (hv : v < 18446744073709551616) (hw : wd ≤ 64) :
    Calls Tryz.prog 171 #[.pointer (some ⟨g, 0, none⟩), .int .u64 (v : Int), .int .i64 (wd : Int)] w (SX.Ret fun r w' => ∃ sv', r = .tuple #[] ∧ SX.St w (SX.idsOf (WrL g T sv bs)) w' (WrL g T sv' (bs ++ fld v wd))) := by
  generalize hM : SX.idsOf (WrL g T sv bs) = M at *
  refine Z.enterM Tryz.func171 rfl Tryz.ntmps171 rfl rfl ?_
  refine Z.g90 ?_
  clear hs; intro g3 w3 hs
  refine Z.g314 ?_
  refine Z.only [1, 2, 3] rfl ?_
  refine Z.g276 ?_
  refine Z.ZO.call rfl rfl (by rfl) rfl rfl Tryz.call194 rfl (bits_any v wd _) ?_
  rintro v1_2 w1_2 ⟨gv, gw, rfl, hy⟩
  replace hs := Z.w1 (hs.call hy); clear hy
  refine Z.g314 ?_
  refine Z.only [3, 9] rfl ?_
  refine Z.g210 ?_
  refine Z.rangeFunc (ps := [10]) (L0 := SX.Ent.blk g3 245 #[.pointer (some ⟨g, 0, none⟩)] :: WrL g T sv bs) (bits_seq gv gw _ _ v wd hv hw) rfl Tryz.call204 (hs.rot (L1 := [_, _])) trivial (by rintro x args Lx ⟨rfl, rfl⟩; rfl) rfl (fun pre L => ∃ sv', L = SX.Ent.blk g3 245 #[.pointer (some ⟨g, 0, none⟩)] :: WrL g T sv' (bs ++ pre)) (fun _ _ => False) ⟨sv, by simp⟩ ?_ ?_ ?_
  · clear hs
    rintro l0 Z0 pre x args W0 L0 Lx ⟨sv', rfl⟩ hpre ⟨rfl, rfl⟩ hs
    refine ⟨_, rfl, ?_⟩
    refine Z.region ?_
    refine Z.g1 ?_
    refine Z.only [3, 6] rfl ?_
    refine Z.g313 ?_
    refine Z.assigned (SX.Ent.blk g3 245 #[.pointer (some ⟨g, 0, none⟩)] :: WrL g T sv' (bs ++ pre)) hs ?_
    clear hs
    intro Wb0 Zb0 hs
    refine Z.block ?_
    refine Z.region ?_
    refine Z.l rfl rfl (by rfl) (Z.keepS hs) (by exact Z.Yd.load rfl Tryz.isAgg245 (fun _ => Z.cellB Z.b0 rfl)) ?_
    refine Z.g218 ?_
    refine Z.g64 ?_
    have hpl := hpre.length_le
    have hfl := fld_length v wd
    simp only [List.length_append, List.length_cons, List.length_nil] at hpl
    replace hs := SX.St.unmid (L1 := WrL g T sv' (bs ++ pre)) hs
    refine Z.g3 ?_
    refine Z.ZO.call rfl rfl (by rfl) rfl rfl Tryz.call195 rfl (add_any g T sv' (bs ++ pre) x _ hs.lend Z.b41) ?_
    rintro v3_4 w3_4 ⟨sv2, rfl, hz⟩
    replace hs := (hs.regain hz).mid
    refine Z.g153 ?_
    refine Z.nblock ?_
    exact Z.rnorm _ ⟨sv2, by rw [← List.append_assoc]⟩ hs
  · clear hs
    rintro Dd W0 L0 hi hs
    obtain ⟨sv', rfl⟩ := hi
    refine Z.nblock ?_
    refine Z.outM1n (vs := []) hs (fun wr hs => trivial) trivial ?_
    clear hs
    intro wr hs
    exact ⟨_, rfl, sv', rfl, hs.tl.sub (List.sublist_append_left _ _)⟩
  clear hs
  rintro Dd c W0 L0 hi hs
  exact hi.elim
end Go.Proofs.YtbojkoiopkaciaaGreat

/- Copies of bytes; comparisons; the document's bits. -/
namespace Go.Proofs.YtbojkoiopkaciaaGreat
open Go.RowKit
set_option linter.unusedSimpArgs false
set_option linter.unusedVariables false

theorem clone8 (M : List Nat) (A : Option Addr) (n c : Nat) (l : List Int) (w : World) (hx : Sx w M A (ints .u8 l)) (hl : l.length = n) (hn : n ≤ 100000000) (hz : A = none → n = 0) :
    Calls Tryz.prog 161 #[.slice A n c] w (SX.Ret fun v w' => SX.St w [] w' [SX.Ent.row v 5 1 n (ints .u8 l)]) := by
  have hs := SX.St.start w
  cases A with
  | none =>
    obtain rfl := hz rfl
    have hl0 : l = [] := List.eq_nil_of_length_eq_zero hl
    subst hl0
    refine Z.enter Tryz.func161 rfl Tryz.ntmps161 rfl rfl ?_
    refine Z.g155 ?_
    refine Z.g123 ?_
    refine Z.l rfl rfl (by rfl) (Z.keepS hs) (Z.Yd.sliceNil rfl rfl Tryz.underlying48) ?_
    refine Z.g314 ?_
    refine Z.only [0, 4] rfl ?_
    refine Z.g313 ?_
    refine Z.cond rfl (fun hc1 => ?_) (fun h => absurd h Z.b17)
    refine Z.g120 ?_
    refine Z.g33 ?_
    repeat (first | refine Z.rthen ?_ | refine Z.rblock ?_ | refine Z.rscope ?_)
    refine Z.g52 ?_
    exact ⟨_, rfl, hs.nil _ _⟩
  | some ad =>
    refine Z.enter Tryz.func161 rfl Tryz.ntmps161 rfl rfl ?_
    refine Z.g155 ?_
    refine Z.g123 ?_
    refine Z.l rfl rfl (by rfl) (Z.keepS hs) (Z.Yd.sliceNil rfl rfl Tryz.underlying48) ?_
    refine Z.g314 ?_
    refine Z.only [0, 4] rfl ?_
    refine Z.g313 ?_
    refine Z.cond rfl (fun h => absurd h Z.b17) (fun hc1 => ?_)
    refine Z.g151 ?_
    refine Z.g3 ?_
    refine Z.ZO.empty rfl rfl (by rfl) Tryz.underlying48 Tryz.sizeOf5 hs ?_
    clear hs; intro g5 w5 hs
    refine Z.g32 ?_
    refine Z.ZO.appendG (i0 := Tryz.t5) (size := 1) (bytes := 1) rfl rfl (by rfl) hs Tryz.underlying48 Z.b4 rfl rfl rfl rfl Z.b12 rfl rfl Z.b1 (hx.sl.st hs) (by first | rfl | assumption | (simp [ints_length]; done) | (simp [ints_length]; omega)) (by first | exact Z.ints_one | assumption | simp [Value.oneCell']) Z.b23 Z.b9 ?_
    clear hs; intro v7 w7 hs
    simp only [List.set_cons_zero, List.set_cons_succ] at hs
    refine Z.g154 ?_
    refine Z.g52 ?_
    exact ⟨_, rfl, by simpa using hs⟩

end Go.Proofs.YtbojkoiopkaciaaGreat

/- The document's FromUint, Pack, Unpack. -/
namespace Go.Proofs.YtbojkoiopkaciaaGreat
open Go.RowKit
set_option linter.unusedSimpArgs false
set_option linter.unusedVariables false

def outj (v n j : Nat) : List Int := (List.range n).map fun i => if n - j ≤ i then bi (v.testBit (n - 1 - i)) else 0
@[simp] theorem outj_length (v n j : Nat) : (outj v n j).length = n := by simp [outj]
end Go.Proofs.YtbojkoiopkaciaaGreat

/- The document's Unpack, Put, PutBytes, PutAll, Align, Bytes. -/
namespace Go.Proofs.YtbojkoiopkaciaaGreat
open Go.RowKit
set_option linter.unusedSimpArgs false
set_option linter.unusedVariables false

def unb (l : List Int) : List Bool := l.flatMap fun x => fld x.toNat 8
theorem unb_length (l : List Int) : (unb l).length = l.length * 8 := Z.flat_length (fun x => fld_length _ 8)
theorem unb_get {l : List Int} {k : Nat} (hk : k < l.length * 8) : (unb l)[k]? = some ((elt l ((k : Int) / 8)).toNat.testBit (7 - k % 8)) := by
  have h1 : k / 8 < l.length := by omega
  have hx : l[k / 8]? = some (l[k / 8]) := List.getElem?_eq_getElem h1
  have := Z.flat_get (enc := fun x : Int => fld x.toNat 8) (s := 8) (fun x => fld_length _ 8) hx (j := k % 8) Z.b9
  rw [show k / 8 * 8 + k % 8 = k from by omega, fld_get _ 8 _ Z.b9] at this
  unfold unb
  rw [this]
  have e : elt l ((k : Int) / 8) = l[k / 8] := by
    have e1 : ((k : Int) / 8).toNat = k / 8 := by omega
    simp [elt, e1, h1]
  rw [e]
def pad (bs : List Bool) : List Bool := bs ++ List.replicate ((8 - bs.length % 8) % 8) false
theorem pad_length (bs : List Bool) : (pad bs).length = (bs.length + 7) / 8 * 8 := by simp [pad]; omega

end Go.Proofs.YtbojkoiopkaciaaGreat

/- The writer's calls and the document's PutAll. -/
namespace Go.Proofs.YtbojkoiopkaciaaGreat
open Go.RowKit
set_option linter.unusedSimpArgs false
set_option linter.unusedVariables false

def quoF (f : Int × Int) : Nat := f.1.toNat / 2 ^ f.2.toNat
def chkF (f : Int × Int) : Int := if f.2 < 0 ∨ 64 < f.2 then 2 else if quoF f = 0 then 0 else 4
def encF (f : Int × Int) : List Value := [.int .u64 f.1, .int .i64 f.2]
def fldF (f : Int × Int) : List Bool := fld f.1.toNat f.2.toNat
def GoodF (f : Int × Int) : Prop := 0 ≤ f.1 ∧ f.1 < 18446744073709551616 ∧ -9223372036854775808 ≤ f.2 ∧ f.2 ≤ 9223372036854775807
def chkA : List (Int × Int) → Int
  | [] => 0
  | f :: fs => if chkF f = 0 then chkA fs else chkF f
def resA (bs : List Bool) (fs : List (Int × Int)) : List Bool := if chkA fs = 0 then bs ++ fs.flatMap fldF else bs
theorem encF_length (f : Int × Int) : (encF f).length = 2 := rfl
theorem chkA_app : ∀ a b : List (Int × Int), chkA a = 0 → chkA (a ++ b) = chkA b
  | [], b, _ => rfl
  | f :: a, b, h => by
    by_cases hf : chkF f = 0
    · simp only [chkA, if_pos hf, List.cons_append] at h ⊢
      exact chkA_app a b h
    simp only [chkA, if_neg hf] at h
    exact absurd h hf
theorem chkA_at {fs : List (Int × Int)} {k : Nat} {f : Int × Int} (h : fs[k]? = some f) (h0 : chkA (fs.take k) = 0) (hf : chkF f ≠ 0) : chkA fs = chkF f := by
  have e : fs = fs.take (k + 1) ++ fs.drop (k + 1) := (List.take_append_drop _ _).symm
  rw [← take_snoc h] at e
  rw [e, List.append_assoc, chkA_app _ _ h0]
  simp [chkA, hf]
theorem chkA_snoc {fs : List (Int × Int)} {k : Nat} {f : Int × Int} (h : fs[k]? = some f) (h0 : chkA (fs.take k) = 0) (hf : chkF f = 0) : chkA (fs.take (k + 1)) = 0 := by
  rw [← take_snoc h, chkA_app _ _ h0]
  simp [chkA, hf]
theorem chkA_mem : ∀ {fs : List (Int × Int)}, chkA fs = 0 → ∀ f ∈ fs, chkF f = 0
  | [], _, f, h => by simp at h
  | g :: fs, h0, f, h => by
    by_cases hg : chkF g = 0
    · simp only [chkA, if_pos hg] at h0
      rcases List.mem_cons.1 h with rfl | h
      · exact hg
      exact chkA_mem h0 f h
    simp only [chkA, if_neg hg] at h0
    exact absurd h0 hg
theorem chkF_bd {f : Int × Int} (h : chkF f = 0) : 0 ≤ f.2 ∧ f.2 ≤ 64 ∧ quoF f = 0 := by
  unfold chkF at h
  split at h
  · simp at h
  split at h
  · rename_i h1 h2
    exact ⟨by omega, by omega, h2⟩
  simp at h
theorem flatF_length {fs : List (Int × Int)} (h : chkA fs = 0) : (fs.flatMap fldF).length ≤ fs.length * 64 := by
  induction fs with
  | nil => simp
  | cons f fs ih =>
    have h1 := chkF_bd (chkA_mem h f Z.b17)
    have h2 : chkA fs = 0 := by
      by_cases hf : chkF f = 0
      · simpa only [chkA, if_pos hf] using h
      simp only [chkA, if_neg hf] at h; exact absurd h hf
    have := ih h2
    simp only [List.flatMap_cons, List.length_append, List.length_cons, fldF, fld_length]
    omega
theorem take_zero {fs : List (Int × Int)} {k : Nat} (h : chkA fs = 0) : chkA (fs.take k) = 0 := by
  induction fs generalizing k with
  | nil => simp [chkA]
  | cons f fs ih =>
    cases k with
    | zero => rfl
    | succ k =>
      by_cases hf : chkF f = 0
      · simp only [chkA, if_pos hf, List.take_succ_cons] at h ⊢
        exact ih h
      simp only [chkA, if_neg hf] at h; exact absurd h hf
theorem shr_chk (v wd : Int) (h0 : 0 ≤ v) (hw : 0 ≤ wd) (h64 : wd < 64) : v.fdiv (2 ^ (min wd.toNat IntKind.u64.bits)) = (quoF (v, wd) : Int) := by
  obtain ⟨n, rfl⟩ := Int.eq_ofNat_of_zero_le h0
  have e : min wd.toNat IntKind.u64.bits = wd.toNat := by
    have : IntKind.u64.bits = 64 := rfl
    omega
  rw [e, Int.fdiv_eq_ediv_of_nonneg _ (Int.le_of_lt (Int.pow_pos Z.b12))]
  simp [quoF]

theorem quo64 {v wd : Int} (h : wd = 64) (h1 : v < 18446744073709551616) : quoF (v, wd) = 0 := by
  subst h
  exact Nat.div_eq_of_lt (by simp only; have : (2 : Nat) ^ (64 : Int).toNat = 18446744073709551616 := by decide
                             omega)

theorem check_any (v wd : Int) (w : World) (hg : GoodF (v, wd)) :
    Calls Tryz.prog 170 #[.agg #[.int .u64 v, .int .i64 wd]] w (SX.Ret fun r w' => r = .int .i64 (chkF (v, wd)) ∧ SX.St w [] w' []) := by
  have hs := SX.St.start w
  obtain ⟨h0, h1, h2, h3⟩ := hg
  simp only at h0 h1 h2 h3
  refine Z.enter Tryz.func170 rfl Tryz.ntmps170 rfl rfl ?_
  refine Z.g90 ?_
  clear hs; intro g1 w1 hs
  refine Z.g1 ?_
  refine Z.only [1] rfl ?_
  refine Z.g313 ?_
  refine Z.g35 ?_
  refine Z.g0 ?_
  refine Z.g140 ?_
  refine Z.g22 ?_
  refine Z.g140 ?_
  refine Z.g247 ?_
  refine Z.only [1, 3] rfl ?_
  refine Z.g313 ?_
  refine Z.cond rfl (fun hc1 => ?_) (fun hc1 => ?_)
  · (try simp at hc1)
    refine Z.g120 ?_
    refine Z.g33 ?_
    repeat (first | refine Z.rthen ?_ | refine Z.rblock ?_ | refine Z.rscope ?_)
    refine Z.g52 ?_
    exact ⟨_, rfl, by unfold chkF; rw [if_pos Z.b21], hs.sub (List.nil_sublist _)⟩
  (try simp at hc1)
  refine Z.g0 ?_
  refine Z.g140 ?_
  refine Z.g22 ?_
  refine Z.g4 ?_
  refine Z.l rfl rfl (by rfl) (Z.keepS hs) Z.b43 ?_
  refine Z.g140 ?_
  refine Z.l rfl rfl (by rfl) (Z.keepS hs) (Z.Yd.shr rfl rfl Z.b54 (by intro hG; have hG' := Z.gh rfl hG; simp at hG'; exact shr_chk v wd h0 Z.b9 Z.b9)) ?_
  refine Z.g247 ?_
  refine Z.only [12] rfl ?_
  refine Z.g313 ?_
  refine Z.cond rfl (fun hc3 => ?_) (fun hc3 => ?_)
  · (try simp at hc3)
    refine Z.g120 ?_
    refine Z.g33 ?_
    repeat (first | refine Z.rthen ?_ | refine Z.rblock ?_ | refine Z.rscope ?_)
    refine Z.g52 ?_
    exact ⟨_, rfl, by unfold chkF; rw [if_neg Z.b21, if_neg Z.b9], hs.sub (List.nil_sublist _)⟩
  (try simp at hc3)
  refine Z.g71 ?_
  refine Z.g30 ?_
  refine Z.g154 ?_
  refine Z.g52 ?_
  exact ⟨_, rfl, by unfold chkF; rw [if_neg Z.b21, if_pos (by by_cases h : wd < 64; exact (by have := hc3 h; omega); exact quo64 Z.b9 h1)], hs.sub (List.nil_sublist _)⟩
set_option maxRecDepth 100000 in
theorem putAll_any (g T : Nat) (sv : Value) (bs : List Bool) (A : Option Addr) (n c : Nat) (fs : List (Int × Int)) (w : World) (hs : SX.St w (SX.idsOf (WrL g T sv bs)) w (WrL g T sv bs))
    (hx : Sx w (SX.idsOf (WrL g T sv bs)) A (fs.flatMap encF)) (hl : fs.length = n) (hn : n ≤ 1000) (hb : bs.length ≤ 1000000) (hg : ∀ f ∈ fs, GoodF f) :
    Calls Tryz.prog 124 #[.pointer (some ⟨g, 0, none⟩), .slice A n c] w (SX.Ret fun r w' => ∃ sv', r = .int .i64 (chkA fs) ∧ SX.St w (SX.idsOf (WrL g T sv bs)) w' (WrL g T sv' (resA bs fs))) := by
  generalize hM : SX.idsOf (WrL g T sv bs) = M at *
  have hfl : (fs.flatMap encF).length = n * 2 := by rw [Z.flat_length (s := 2) encF_length, hl]
  refine Z.enter Tryz.func124 rfl Tryz.ntmps124 rfl rfl ?_
  refine Z.g243 ?_
  refine Z.g123 ?_
  refine Z.l rfl rfl (by rfl) (Z.keepS hs) (Z.Yd.ptrNil rfl rfl Tryz.underlying245) ?_
  refine Z.g314 ?_
  refine Z.only [0, 1, 11] rfl ?_
  refine Z.g313 ?_
  refine Z.cond rfl (fun h => absurd h Z.b17) (fun hc1 => ?_)
  refine Z.skip ?_
  refine Z.g123 ?_
  refine Z.l rfl rfl (by rfl) (Z.keepS hs) (Z.Yd.lenS rfl Tryz.underlying246) ?_
  refine Z.g1 ?_
  refine Z.only [0, 1, 12, 13, 14] rfl ?_
  refine Z.g210 ?_
  refine Z.loopk (ι := Nat) [0, 1, 12, 13] rfl (fun k => [(14, [], .int .i64 (k : Int))]) (fun k wr => k ≤ n ∧ chkA (fs.take k) = 0 ∧ SX.St w M wr (WrL g T sv bs)) (fun k => n - k) 0 Z.b6 ⟨by omega, rfl, hs⟩ ?_
  clear hs
  rintro k w1 ⟨hkn, hz, hs⟩
  refine Z.only [0, 1, 12, 13, 14] rfl ?_
  refine Z.g120 ?_
  refine Z.only [0, 1, 12, 13, 14, 15] rfl ?_
  refine Z.g150 ?_
  refine Z.cond rfl (fun hc4 => ?_) (fun hc4 => ?_)
  · (try simp at hc4)
    obtain ⟨b, off, rfl, hx⟩ := hx.some Z.b9
    obtain ⟨⟨v, wd⟩, hf⟩ : ∃ f, fs[k]? = some f := ⟨_, List.getElem?_eq_getElem Z.b9⟩
    have hgf := hg _ (List.mem_of_getElem? hf)
    refine Z.g238 ?_
    refine Z.l rfl rfl (by rfl) (Z.keepS hs) (Z.Yd.elem rfl rfl Tryz.underlying246 Tryz.sizeOf211 (fun hG => ⟨Z.b3, Z.b3⟩)) ?_
    refine Z.l rfl rfl (by rfl) (Z.keepS hs) (Z.Yd.loadA _ rfl Tryz.isAgg211 (fun _ => Z.cellsX [.int .u64 v, .int .i64 wd] hx encF_length hf rfl) (by exact Tryz.sizeOf211)) ?_
    refine Z.g3 ?_
    refine Z.g76 ?_
    clear hs; intro g6 w6 hs
    refine Z.g124 ?_
    clear hs; intro ws hs
    replace hs := Z.w0 hs
    refine Z.g314 ?_
    refine Z.only [0, 1, 6, 12, 13, 14] rfl ?_
    refine Z.g30 ?_
    refine Z.l rfl rfl (by rfl) (Z.keepS hs) (by exact Z.Yd.loadA _ rfl Tryz.isAgg211 (fun _ => Z.cellsB Z.b0) (by exact Tryz.sizeOf211)) ?_
    refine Z.g3 ?_
    refine Z.ZO.call rfl rfl (by rfl) rfl rfl Tryz.call170 rfl (check_any v wd _ hgf) ?_
    rintro v6_1 w6_1 ⟨rfl, hy⟩
    replace hs := Z.w1 (hs.call hy); clear hy
    refine Z.g1 ?_
    refine Z.only [0, 1, 7, 12, 13, 14] rfl ?_
    refine Z.g30 ?_
    refine Z.g31 ?_
    refine Z.only [0, 1, 7, 12, 13, 14, 21] rfl ?_
    refine Z.g313 ?_
    refine Z.cond rfl (fun hc7 => ?_) (fun hc7 => ?_)
    · (try simp at hc7)
      refine Z.g152 ?_
      refine Z.g62 ?_
      repeat (first | refine Z.rthen ?_ | refine Z.rblock ?_ | refine Z.rscope ?_)
      refine Z.g52 ?_
      exact ⟨_, rfl, sv, by rw [chkA_at hf hz hc7], by unfold resA; rw [if_neg (by rw [chkA_at hf hz hc7]; exact hc7)]; exact hs.tl⟩
    (try simp at hc7)
    refine Z.g235 ?_
    refine Z.only [0, 1, 12, 13, 14] rfl ?_
    refine Z.g313 ?_
    exact Z.again (k + 1) Z.b11 ⟨by omega, chkA_snoc hf hz hc7, hs.tl⟩ Z.b9
  first
    | (exfalso; simp at hc4 <;> omega)
    | (
      (try simp at hc4)
      refine Z.g11 ?_
      refine Z.g60 ?_
      have hz0 : chkA fs = 0 := by rw [List.take_of_length_le Z.b9] at hz; exact hz
      refine Z.g18 ?_
      refine Z.l rfl rfl (by rfl) (Z.keepS hs) (Z.Yd.lenS rfl Tryz.underlying246) ?_
      refine Z.g1 ?_
      refine Z.only [0, 24, 25, 26] rfl ?_
      refine Z.g210 ?_
      refine Z.loopk (ι := Nat × Value) [0, 24, 25] rfl (fun k => [(26, [], .int .i64 (k.1 : Int))]) (fun k wr => k.1 ≤ n ∧ SX.St w M wr (WrL g T k.2 (bs ++ (fs.take k.1).flatMap fldF))) (fun k => n - k.1) (0, sv) Z.b6 ⟨by omega, by simpa using hs⟩ ?_
      clear hs
      rintro ⟨j, sv1⟩ w2 ⟨hjn, hs⟩
      refine Z.only [0, 24, 25, 26] rfl ?_
      (try dsimp only at hs)
      refine Z.g120 ?_
      refine Z.only [0, 24, 25, 26, 27] rfl ?_
      refine Z.g150 ?_
      refine Z.cond rfl (fun hc11 => ?_) (fun hc11 => ?_)
      · (try simp at hc11)
        obtain ⟨b, off, rfl, hx⟩ := hx.some Z.b9
        obtain ⟨⟨v, wd⟩, hf⟩ : ∃ f, fs[j]? = some f := ⟨_, List.getElem?_eq_getElem Z.b9⟩
        have hgf := hg _ (List.mem_of_getElem? hf)
        obtain ⟨hw0, hw1, hw2⟩ := chkF_bd (chkA_mem hz0 _ (List.mem_of_getElem? hf))
        obtain ⟨hv0, hv1, -, -⟩ := hgf
        simp only at hw0 hw1 hv0 hv1
        obtain ⟨v, rfl⟩ := Int.eq_ofNat_of_zero_le hv0
        obtain ⟨wd, rfl⟩ := Int.eq_ofNat_of_zero_le hw0
        refine Z.g238 ?_
        refine Z.l rfl rfl (by rfl) (Z.keepS hs) (Z.Yd.elem rfl rfl Tryz.underlying246 Tryz.sizeOf211 (fun hG => ⟨Z.b3, Z.b3⟩)) ?_
        refine Z.l rfl rfl (by rfl) (Z.keepS hs) (Z.Yd.loadA _ rfl Tryz.isAgg211 (fun _ => Z.cellsX [.int .u64 (v : Int), .int .i64 (wd : Int)] hx encF_length hf rfl) (by exact Tryz.sizeOf211)) ?_
        refine Z.g3 ?_
        refine Z.g76 ?_
        clear hs; intro g9 w9 hs
        refine Z.g124 ?_
        clear hs; intro ws hs
        replace hs := Z.w0 hs
        refine Z.g314 ?_
        refine Z.only [0, 9, 24, 25, 26] rfl ?_
        refine Z.g121 ?_
        refine Z.g64 ?_
        refine Z.g4 ?_
        refine Z.l rfl rfl (by rfl) (Z.keepS hs) Z.b43 ?_
        refine Z.g140 ?_
        replace hs := hs.rot (L1 := [_])
        change SX.St _ _ _ (WrL g T sv1 _ ++ [_]) at hs
        have hlen : (bs ++ (fs.take j).flatMap fldF).length ≤ 1100000 := by
          have := flatF_length (take_zero (k := j) hz0)
          simp only [List.length_append, List.length_take] at this ⊢
          omega
        refine Z.g3 ?_
        refine Z.ZO.call rfl rfl (by rfl) rfl rfl Tryz.call171 rfl (put_any g T sv1 (bs ++ (fs.take j).flatMap fldF) v wd _ hs.lend Z.b9 Z.b9 Z.b9) ?_
        rintro v13_5 w13_5 ⟨sv2, rfl, hz⟩
        replace hs := hs.regain hz
        refine Z.g314 ?_
        refine Z.only [0, 24, 25, 26] rfl ?_
        refine Z.g180 ?_
        refine Z.only [0, 24, 25, 26] rfl ?_
        refine Z.g313 ?_
        have e : (bs ++ (fs.take j).flatMap fldF) ++ fld v wd = bs ++ (fs.take (j + 1)).flatMap fldF := by
          rw [← take_snoc hf]
          simp [fldF]
        rw [e] at hs
        exact Z.again (j + 1, sv2) Z.b10 ⟨by simp only; omega, hs.sub (List.sublist_append_left _ _)⟩ Z.b21
      · (try simp at hc11)
        refine Z.g244 ?_
        refine Z.g52 ?_
        refine ⟨_, rfl, sv1, by rw [hz0], ?_⟩
        unfold resA
        rw [if_pos hz0]
        rw [List.take_of_length_le Z.b9] at hs
        exact hs
      )

theorem wputbytes_any (g T : Nat) (sv : Value) (bs : List Bool) (A : Option Addr) (n c : Nat) (l : List Int) (w : World) (hs : SX.St w (SX.idsOf (WrL g T sv bs)) w (WrL g T sv bs))
    (hx : Sx w (SX.idsOf (WrL g T sv bs)) A (ints .u8 l)) (hl : l.length = n) (hn : n ≤ 100000) (hb : bs.length ≤ 1000000) (hB : ∀ x ∈ l, 0 ≤ x ∧ x < 256) :
    Calls Tryz.prog 127 #[.pointer (some ⟨g, 0, none⟩), .slice A n c] w (SX.Ret fun r w' => ∃ sv', r = .int .i64 0 ∧ SX.St w (SX.idsOf (WrL g T sv bs)) w' (WrL g T sv' (bs ++ unb l))) := by
  generalize hM : SX.idsOf (WrL g T sv bs) = M at *
  refine Z.enter Tryz.func127 rfl Tryz.ntmps127 rfl rfl ?_
  refine Z.g243 ?_
  refine Z.g123 ?_
  refine Z.l rfl rfl (by rfl) (Z.keepS hs) (Z.Yd.ptrNil rfl rfl Tryz.underlying245) ?_
  refine Z.g314 ?_
  refine Z.only [0, 1, 8] rfl ?_
  refine Z.g313 ?_
  refine Z.cond rfl (fun h => absurd h Z.b17) (fun hc1 => ?_)
  refine Z.skip ?_
  refine Z.g123 ?_
  refine Z.g104 ?_
  refine Z.g1 ?_
  refine Z.only [0, 9, 10, 11] rfl ?_
  refine Z.g210 ?_
  refine Z.loopk (ι := Nat × Value) [0, 9, 10] rfl (fun k => [(11, [], .int .i64 (k.1 : Int))]) (fun k wr => k.1 ≤ n ∧ SX.St w M wr (WrL g T k.2 (bs ++ unb (l.take k.1)))) (fun k => n - k.1) (0, sv) Z.b6 ⟨by omega, by simpa [unb] using hs⟩ ?_
  clear hs
  rintro ⟨k, sv1⟩ w2 ⟨hkn, hs⟩
  refine Z.only [0, 9, 10, 11] rfl ?_
  (try dsimp only at hs)
  refine Z.g120 ?_
  refine Z.only [0, 9, 10, 11, 12] rfl ?_
  refine Z.g150 ?_
  refine Z.cond rfl (fun hc4 => ?_) (fun hc4 => ?_)
  · (try simp at hc4)
    obtain ⟨b, off, rfl, hx⟩ := hx.some Z.b74
    have hxk : l[k]? = some (l[k]'Z.b9) := List.getElem?_eq_getElem Z.b9
    have he : elt l (k : Int) = l[k]'Z.b9 := by simp [elt, show k < l.length by omega]
    have hbk := hB _ (List.mem_of_getElem? hxk)
    rw [← he] at hxk hbk
    obtain ⟨x, hxe⟩ := Int.eq_ofNat_of_zero_le hbk.1
    have hlen : (bs ++ unb (l.take k)).length ≤ 1900000 := by
      have := unb_length (l.take k)
      simp only [List.length_append, List.length_take] at this ⊢
      omega
    rw [hxe] at hxk hbk
    refine Z.g238 ?_
    refine Z.l rfl rfl (by rfl) (Z.keepS hs) (Z.Yd.elem rfl rfl Tryz.underlying48 Tryz.sizeOf5 (fun hG => ⟨Z.b3, Z.b3⟩)) ?_
    refine Z.l rfl rfl (by rfl) (Z.keepS hs) (Z.Yd.load rfl Tryz.isAgg5 (fun _ => hxe ▸ Z.cellXi hx Z.b3 Z.b3)) ?_
    refine Z.g1 ?_
    refine Z.only [0, 6, 9, 10, 11] rfl ?_
    refine Z.g121 ?_
    refine Z.g22 ?_
    refine Z.l rfl rfl (by rfl) (Z.keepS hs) (Z.Yd.convI rfl ⟨_, Tryz.underlying5⟩ Tryz.underlying123 (fun hG => Z.wu64 Z.b3)) ?_
    refine Z.g3 ?_
    refine Z.ZO.call rfl rfl (by rfl) rfl rfl Tryz.call171 rfl (put_any g T sv1 (bs ++ unb (l.take k)) x 8 _ hs.all Z.b9 Z.b9 Z.b9) ?_
    rintro v6_3 w6_3 ⟨sv2, rfl, hz⟩
    replace hs := hs.regainAll hz
    refine Z.g314 ?_
    refine Z.only [0, 9, 10, 11] rfl ?_
    refine Z.g180 ?_
    refine Z.only [0, 9, 10, 11] rfl ?_
    refine Z.g313 ?_
    have e : (bs ++ unb (l.take k)) ++ fld x 8 = bs ++ unb (l.take (k + 1)) := by
      rw [← take_snoc hxk]
      simp [unb]
    rw [e] at hs
    exact Z.again (k + 1, sv2) Z.b10 ⟨by simp only; omega, hs⟩ Z.b21
  first
    | (exfalso; simp at hc4 <;> omega)
    | (
      (try simp at hc4)
      refine Z.g244 ?_
      refine Z.g52 ?_
      rw [List.take_of_length_le Z.b9] at hs
      exact ⟨_, rfl, sv1, rfl, hs⟩
      )

theorem wbytes_any (g T : Nat) (sv : Value) (bs : List Bool) (w : World) (hs : SX.St w (SX.idsOf (WrL g T sv bs)) w (WrL g T sv bs)) (hb : bs.length ≤ 1000000) :
    Calls Tryz.prog 128 #[.pointer (some ⟨g, 0, none⟩)] w (SX.Ret fun r w' => SX.St w (SX.idsOf (WrL g T sv bs)) w' (SX.Ent.row r 5 1 (pk bs).length (ints .u8 (pk bs)) :: WrL g T sv bs)) := by
  generalize hM : SX.idsOf (WrL g T sv bs) = M at *
  simp only [WrL] at hs
  have hpl := pk_length bs
  obtain ⟨A, c, rfl, hl1, hl2, hx⟩ := SX.row_slv hs SX.at1
  refine Z.enter Tryz.func128 rfl Tryz.ntmps128 rfl rfl ?_
  refine Z.g155 ?_
  refine Z.g123 ?_
  refine Z.l rfl rfl (by rfl) (Z.keepS hs) (Z.Yd.ptrNil rfl rfl Tryz.underlying245) ?_
  refine Z.g314 ?_
  refine Z.only [0, 4] rfl ?_
  refine Z.g313 ?_
  refine Z.cond rfl (fun h => absurd h Z.b17) (fun hc1 => ?_)
  refine Z.g151 ?_
  refine Z.g157 ?_
  refine Z.g4 ?_
  refine Z.g4 ?_
  refine Z.l rfl rfl (by rfl) (Z.keepS hs) Z.b28 ?_
  refine Z.g3 ?_
  refine Z.ZO.call rfl rfl (by rfl) rfl rfl Tryz.call161 rfl (clone8 [] A (pk bs).length c (pk bs) _ hx.sx rfl Z.b9 (SX.row_none hs SX.at1)) ?_
  rintro v3_5 w3_5 hy
  replace hs := Z.w1 (hs.call hy); clear hy
  refine Z.g154 ?_
  refine Z.g52 ?_
  exact ⟨_, rfl, hs⟩
end Go.Proofs.YtbojkoiopkaciaaGreat

/- The document's PutAll; the law's few and act. -/
namespace Go.Proofs.YtbojkoiopkaciaaGreat
open Go.RowKit
set_option linter.unusedSimpArgs false
set_option linter.unusedVariables false

end Go.Proofs.YtbojkoiopkaciaaGreat

/- The law's few and act. -/
namespace Go.Proofs.YtbojkoiopkaciaaGreat
open Go.RowKit
set_option linter.unusedSimpArgs false
set_option linter.unusedVariables false

structure ActV where
  what : Int
  v : Int
  n : Int
  bA : Option Addr
  bc : Nat
  bl : List Int
  fA : Option Addr
  fc : Nat
  fl : List (Int × Int)
structure GoodA (W : World) (x : ActV) : Prop where
  what : -9223372036854775808 ≤ x.what ∧ x.what ≤ 9223372036854775807
  vn : GoodF (x.v, x.n)
  bl : ∀ b ∈ x.bl, 0 ≤ b ∧ b < 256
  fl : ∀ f ∈ x.fl, GoodF f
  bs : Sl W x.bA (ints .u8 x.bl)
  fs : Sl W x.fA (x.fl.flatMap encF)
  b63 : x.bl.length ≤ maxLen
  f63 : x.fl.length ≤ maxLen
end Go.Proofs.YtbojkoiopkaciaaGreat

/- The reader: Left, At, Get, Align, End, NewReader. -/
namespace Go.Proofs.YtbojkoiopkaciaaGreat
open Go.RowKit
set_option linter.unusedSimpArgs false
set_option linter.unusedVariables false

def val (bs : List Bool) : Nat := bs.foldl (fun v b => 2 * v + b.toNat) 0
theorem val_snoc (bs : List Bool) (b : Bool) : val (bs ++ [b]) = 2 * val bs + b.toNat := by simp [val]
theorem val_lt (bs : List Bool) : val bs < 2 ^ bs.length := by
  have h : ∀ n (bs : List Bool), bs.length = n → val bs < 2 ^ n := by
    intro n
    induction n with
    | zero =>
      intro bs h
      obtain rfl := List.eq_nil_of_length_eq_zero h
      simp [val]
    | succ n ih =>
      intro bs h
      have hne : bs ≠ [] := by intro e; subst e; simp at h
      have e := List.dropLast_concat_getLast hne
      rw [← e, val_snoc]
      have := ih bs.dropLast Z.b41
      have hb : (bs.getLast hne).toNat ≤ 1 := by cases bs.getLast hne <;> simp
      rw [Nat.pow_succ]
      omega
  exact h _ bs rfl
theorem val_bd63 {bs : List Bool} (h : bs.length ≤ 63) : val bs < 9223372036854775808 := by
  have h1 := val_lt bs
  have h2 : 2 ^ bs.length ≤ 2 ^ 63 := Nat.pow_le_pow_right Z.b12 h
  have h3 : (2 : Nat) ^ 63 = 9223372036854775808 := by decide
  omega

def RdL (g T : Nat) (sv : Value) (l : List Int) (at_ : Nat) : List SX.Ent := [SX.Ent.blk g T #[sv, .int .i64 (at_ : Int)], SX.Ent.row sv 5 1 l.length (ints .u8 l)]
def bitsAt (l : List Int) (at_ n : Nat) : List Bool := ((unb l).drop at_).take n
def getE (l : List Int) (at_ : Nat) (wd : Int) : Int := if wd < 0 ∨ 64 < wd then 2 else if (8 * l.length : Int) - at_ < wd then 5 else 0
def getV (l : List Int) (at_ : Nat) (wd : Int) : Int := if getE l at_ wd = 0 then (val (bitsAt l at_ wd.toNat) : Int) else 0
def getA (l : List Int) (at_ : Nat) (wd : Int) : Nat := if getE l at_ wd = 0 then at_ + wd.toNat else at_

set_option maxRecDepth 100000 in
theorem rleft_any (g T : Nat) (sv : Value) (l : List Int) (at_ : Nat) (w : World) (hs : SX.St w (SX.idsOf (RdL g T sv l at_)) w (RdL g T sv l at_)) (hl : l.length ≤ 1000000) (ha : at_ ≤ 8 * l.length) :
    Calls Tryz.prog 166 #[.pointer (some ⟨g, 0, none⟩)] w (SX.Ret fun r w' => r = .int .i64 ((8 * l.length : Int) - at_) ∧ SX.St w (SX.idsOf (RdL g T sv l at_)) w' (RdL g T sv l at_)) := by
  generalize hM : SX.idsOf (RdL g T sv l at_) = M at *
  simp only [RdL] at hs
  obtain ⟨A, c, rfl, -, -, -⟩ := SX.row_slv hs (j := 1) rfl
  refine Z.enter Tryz.func166 rfl Tryz.ntmps166 rfl rfl ?_
  refine Z.g155 ?_
  refine Z.g123 ?_
  refine Z.g205 ?_
  refine Z.g314 ?_
  refine Z.only [0, 4] rfl ?_
  refine Z.g313 ?_
  refine Z.cond rfl (fun h => absurd h Z.b17) (fun hc1 => ?_)
  refine Z.skip ?_
  refine Z.g313 ?_
  refine Z.g99 ?_
  clear hs; intro wd3 hs
  refine Z.g50 ?_
  refine Z.t 3 rfl rfl rfl (by rfl) Z.b4 ⟨_, hs, Z.b2⟩ Z.b28 ?_
  refine Z.t 4 rfl rfl rfl (by rfl) Z.b4 ⟨_, hs, Z.b2⟩ (Z.Yd.lenS rfl Tryz.underlying48) ?_
  refine Z.t 5 rfl rfl rfl (by rfl) Z.b4 ⟨_, hs, Z.b2⟩ (Z.Yd.mul rfl rfl (fun hG => Z.wi64 Z.b3)) ?_
  refine Z.g178 ?_
  refine Z.t 8 rfl rfl rfl (by rfl) Z.b4 ⟨_, hs, Z.b2⟩ (Z.Yd.fieldA (m := 1) rfl Z.b4) ?_
  refine Z.t 9 rfl rfl rfl (by rfl) Z.b4 ⟨_, hs, Z.b2⟩ Z.b25 ?_
  refine Z.t 10 rfl rfl rfl (by rfl) Z.b4 ⟨_, hs, Z.b2⟩ (Z.Yd.sub rfl rfl (fun hG => Z.wi64 Z.b3)) ?_
  refine Z.tb [11] Z.b4 rfl ⟨_, hs, Z.b2⟩ rfl ?_
  refine Z.g68 ?_
  refine Z.g33 ?_
  refine Z.g52 ?_
  exact ⟨_, rfl, rfl, hs⟩
theorem newreader_any (A : Option Addr) (n c : Nat) (l : List Int) (w : World) (hx : Sx w [] A (ints .u8 l)) (hl : l.length = n) (hn : n ≤ 100000000) (hz : A = none → n = 0) :
    Calls Tryz.prog 110 #[.slice A n c] w (SX.Ret fun r w' => ∃ g sv, r = .pointer (some ⟨g, 0, none⟩) ∧ SX.St w [] w' (RdL g 242 sv l 0)) := by
  have hs := SX.St.start w
  subst hl
  refine Z.enter Tryz.func110 rfl Tryz.ntmps110 rfl rfl ?_
  refine Z.g241 ?_
  refine Z.g32 ?_
  refine Z.ZO.call rfl rfl (by rfl) rfl rfl Tryz.call161 rfl (clone8 [] A _ c l _ ((hx.st hs).sx) rfl hn hz) ?_
  rintro v1_1 w1_1 hy
  replace hs := Z.w1 (hs.call hy); clear hy
  obtain ⟨Av, cv, rfl, -, -, -⟩ := SX.row_slv hs (j := 0) rfl
  refine Z.l rfl rfl (by rfl) (Z.keepS hs) (Z.Yd.build rfl (by intro w; go_simp; try rfl)) ?_
  refine Z.g3 ?_
  refine Z.g17 ?_
  clear hs; intro g6 w6 hs
  refine Z.g154 ?_
  refine Z.g52 ?_
  exact ⟨_, rfl, _, _, rfl, hs⟩

theorem and_one8 (x : Int) (k : Nat) (h0 : 0 ≤ x) (hx : x < 256) : IntKind.u8.wrap ((BitVec.ofInt IntKind.u8.bits (x.fdiv (2 ^ (min ((7 : Int) - (k : Int) % 8).toNat IntKind.u8.bits))) &&& BitVec.ofInt IntKind.u8.bits 1).toNat : Int) = bi (x.toNat.testBit (7 - k % 8)) := by
  obtain ⟨n, rfl⟩ := Int.eq_ofNat_of_zero_le h0
  have e : min ((7 : Int) - (k : Int) % 8).toNat IntKind.u8.bits = 7 - k % 8 := by
    have : IntKind.u8.bits = 8 := rfl
    omega
  rw [e, Int.fdiv_eq_ediv_of_nonneg _ (Int.le_of_lt (Int.pow_pos Z.b12)), testBit_bi, Int.toNat_natCast]
  have e2 : ((n : Int) / 2 ^ (7 - k % 8)) = ((n / 2 ^ (7 - k % 8) : Nat) : Int) := by push_cast; rfl
  rw [e2]
  have h1 : n / 2 ^ (7 - k % 8) ≤ n := Nat.div_le_self _ _
  generalize n / 2 ^ (7 - k % 8) = q at *
  have e1 : (BitVec.ofInt 8 (q : Int)).toNat = q := by rw [BitVec.ofInt_natCast, BitVec.toNat_ofNat]; exact Nat.mod_eq_of_lt Z.b9
  have e3 : (BitVec.ofInt 8 (1 : Int)).toNat = 1 := by decide
  have e4 : ((BitVec.ofInt 8 (q : Int)) &&& (BitVec.ofInt 8 (1 : Int))).toNat = q % 2 := by rw [BitVec.toNat_and, e1, e3, Nat.and_one_is_mod]
  show IntKind.u8.wrap (((BitVec.ofInt 8 (q : Int)) &&& (BitVec.ofInt 8 (1 : Int))).toNat : Int) = _
  rw [e4]
  exact Z.wu8 Z.b9
theorem u64_or (x y : Nat) (i m : Nat) (hx : x = 2 ^ i * m) (hy : y < 2 ^ i) (h : x + y < 18446744073709551616) : IntKind.u64.wrap ((BitVec.ofInt IntKind.u64.bits (x : Int) ||| BitVec.ofInt IntKind.u64.bits (y : Int)).toNat : Int) = ((x + y : Nat) : Int) := by
  have e1 : (BitVec.ofInt 64 (x : Int)).toNat = x := by rw [BitVec.ofInt_natCast, BitVec.toNat_ofNat]; exact Nat.mod_eq_of_lt Z.b9
  have e2 : (BitVec.ofInt 64 (y : Int)).toNat = y := by rw [BitVec.ofInt_natCast, BitVec.toNat_ofNat]; exact Nat.mod_eq_of_lt Z.b9
  have e3 : (BitVec.ofInt 64 (x : Int) ||| BitVec.ofInt 64 (y : Int)).toNat = x + y := by rw [BitVec.toNat_or, e1, e2, hx, ← Nat.two_pow_add_eq_or_of_lt hy, ← hx]
  show IntKind.u64.wrap (((BitVec.ofInt 64 (x : Int)) ||| (BitVec.ofInt 64 (y : Int))).toNat : Int) = _
  rw [e3]
  exact Z.wu64 Z.b9
theorem or_bit (v : Nat) (b : Bool) (hv : v < 9223372036854775808) : IntKind.u64.wrap ((BitVec.ofInt IntKind.u64.bits ((v : Int) * 2) ||| BitVec.ofInt IntKind.u64.bits (bi b)).toNat : Int) = ((2 * v + b.toNat : Nat) : Int) := by
  have := u64_or (2 * v) b.toNat 1 v Z.b9 (by cases b <;> simp) (by cases b <;> simp <;> omega)
  rw [bi_nat, show ((v : Int) * 2) = ((2 * v : Nat) : Int) from by push_cast; omega]
  exact this

theorem bitsAt_length {l : List Int} {a n : Nat} (h : a + n ≤ l.length * 8) : (bitsAt l a n).length = n := by
  simp [bitsAt, unb_length]
  omega
theorem bitsAt_snoc {l : List Int} {a k : Nat} (h : a + k < l.length * 8) : bitsAt l a (k + 1) = bitsAt l a k ++ [(elt l (((a + k : Nat) : Int) / 8)).toNat.testBit (7 - (a + k) % 8)] := by
  have hg := unb_get (l := l) (k := a + k) h
  have : ((unb l).drop a)[k]? = some ((elt l (((a + k : Nat) : Int) / 8)).toNat.testBit (7 - (a + k) % 8)) := by
    rw [List.getElem?_drop]
    exact hg
  unfold bitsAt
  rw [← take_snoc this]

set_option maxRecDepth 100000 in
theorem rget_any (g T : Nat) (sv : Value) (l : List Int) (at_ : Nat) (wd : Int) (w : World) (hs : SX.St w (SX.idsOf (RdL g T sv l at_)) w (RdL g T sv l at_)) (hl : l.length ≤ 1000000) (ha : at_ ≤ 8 * l.length) (hb : ∀ x ∈ l, 0 ≤ x ∧ x < 256) :
    Calls Tryz.prog 159 #[.pointer (some ⟨g, 0, none⟩), .int .i64 wd] w (SX.Ret fun r w' => r = .tuple #[.int .u64 (getV l at_ wd), .int .i64 (getE l at_ wd)] ∧ SX.St w (SX.idsOf (RdL g T sv l at_)) w' (RdL g T sv l (getA l at_ wd))) := by
  generalize hM : SX.idsOf (RdL g T sv l at_) = M at *
  refine Z.enter Tryz.func159 rfl Tryz.ntmps159 rfl rfl ?_
  refine Z.g152 ?_
  refine Z.only [0, 1, 4] rfl ?_
  refine Z.g313 ?_
  refine Z.g35 ?_
  refine Z.g182 ?_
  refine Z.g205 ?_
  refine Z.g1 ?_
  refine Z.only [0, 1, 4, 6] rfl ?_
  refine Z.g313 ?_
  refine Z.cond rfl (fun h => absurd h Z.b17) (fun hc1 => ?_)
  refine Z.g0 ?_
  refine Z.lb 7 rfl ?_
  refine Z.g314 ?_
  refine Z.only [0, 1, 4, 9] rfl ?_
  refine Z.g313 ?_
  refine Z.cond rfl (fun hc3 => ?_) (fun hc3 => ?_)
  · (try simp at hc3)
    refine Z.g152 ?_
    refine Z.g158 ?_
    repeat (first | refine Z.rthen ?_ | refine Z.rblock ?_ | refine Z.rscope ?_)
    refine Z.out2 Z.b22 ?_
    have e : getE l at_ wd = 2 := by unfold getE; rw [if_pos Z.b9]
    refine ⟨_, rfl, by unfold getV; rw [e]; rfl, ?_⟩
    unfold getA; rw [e]
    exact hs
  (try simp at hc3)
  refine Z.g0 ?_
  refine Z.g63 ?_
  refine Z.ZO.call rfl rfl (by rfl) rfl rfl Tryz.call166 rfl (rleft_any g T sv l at_ _ hs.all hl ha) ?_
  rintro v5_2 w5_2 ⟨rfl, hz⟩
  replace hs := hs.regainAll hz
  refine Z.g31 ?_
  refine Z.only [0, 1, 4, 16] rfl ?_
  refine Z.g313 ?_
  refine Z.cond rfl (fun hc5 => ?_) (fun hc5 => ?_)
  · (try simp at hc5)
    refine Z.g152 ?_
    refine Z.g158 ?_
    repeat (first | refine Z.rthen ?_ | refine Z.rblock ?_ | refine Z.rscope ?_)
    refine Z.out2 Z.b22 ?_
    have e : getE l at_ wd = 5 := by unfold getE; rw [if_neg Z.b9, if_pos Z.b9]
    refine ⟨_, rfl, by unfold getV; rw [e]; rfl, ?_⟩
    unfold getA; rw [e]
    exact hs
  (try simp at hc5)
  refine Z.g71 ?_
  refine Z.g60 ?_
  have e : getE l at_ wd = 0 := by unfold getE; rw [if_neg Z.b9, if_neg Z.b9]
  obtain ⟨wd, rfl⟩ := Int.eq_ofNat_of_zero_le (show 0 ≤ wd by omega)
  refine Z.g18 ?_
  refine Z.g1 ?_
  refine Z.only [0, 4, 21, 22] rfl ?_
  refine Z.g210 ?_
  refine Z.loopk (ι := Nat) [0, 21] rfl (fun k => [(4, [], .int .u64 (val (bitsAt l at_ k) : Int)), (22, [], .int .i64 (k : Int))]) (fun k wr => k ≤ wd ∧ SX.St w M wr [SX.Ent.blk g T #[sv, .int .i64 ((at_ + k : Nat) : Int)], SX.Ent.row sv 5 1 l.length (ints .u8 l)]) (fun k => wd - k) 0 Z.b14 ⟨by omega, hs⟩ ?_
  clear hs
  rintro k w1 ⟨hkn, hs⟩
  refine Z.only [0, 4, 21, 22] rfl ?_
  refine Z.g120 ?_
  refine Z.only [0, 4, 21, 22, 23] rfl ?_
  refine Z.g150 ?_
  refine Z.cond rfl (fun hc8 => ?_) (fun hc8 => ?_)
  · (try simp at hc8)
    obtain ⟨g1, cap1, rfl, hc1, hc2⟩ := row_form (j := 1) hs rfl Z.b9
    have hv := val_bd63 (bs := bitsAt l at_ k) (by rw [bitsAt_length Z.b9]; omega)
    have he := hb _ (Z.elt_mem (l := l) (z := ((at_ + k : Nat) : Int) / 8) Z.b9 Z.b9)
    refine Z.g91 ?_
    refine Z.g99 ?_
    clear hs; intro wd9 hs
    refine Z.tb [0] Z.b4 rfl ⟨_, hs, Z.b2⟩ rfl ?_
    refine Z.t 1 rfl rfl rfl (by rfl) Z.b4 ⟨_, hs, Z.b2⟩ (Z.Yd.shl rfl rfl (by intro hG; decide) (by intro hG; first | exact Z.shll (c := 2) rfl (Z.wu64 Z.b9) | exact Z.shll (c := 2) rfl rfl)) ?_
    refine Z.tb [2] Z.b4 rfl ⟨_, hs, Z.b2⟩ rfl ?_
    refine Z.t 3 rfl rfl rfl (by rfl) Z.b4 ⟨_, hs, Z.b2⟩ (Z.Yd.nilc rfl rfl) ?_
    refine Z.g112 ?_
    refine Z.t 5 rfl rfl rfl (by rfl) Z.b4 ⟨_, hs, Z.b2⟩ Z.b28 ?_
    refine Z.g178 ?_
    refine Z.t 8 rfl rfl rfl (by rfl) Z.b4 ⟨_, hs, Z.b2⟩ (Z.Yd.fieldA (m := 1) rfl Z.b4) ?_
    refine Z.t 9 rfl rfl rfl (by rfl) Z.b4 ⟨_, hs, Z.b2⟩ Z.b25 ?_
    refine Z.t 10 rfl rfl rfl (by rfl) Z.b4 ⟨_, hs, Z.b2⟩ (Z.Yd.quo rfl rfl Z.b54 Z.b58) ?_
    refine Z.t 11 rfl rfl rfl (by rfl) Z.b4 ⟨_, hs, Z.b2⟩ (Z.Yd.elem rfl rfl Tryz.underlying48 Tryz.sizeOf5 (fun hG => ⟨Z.b3, Z.b3⟩)) ?_
    refine Z.t 12 rfl rfl rfl (by rfl) Z.b4 ⟨_, hs, Z.b2⟩ (by exact Z.Yd.load rfl Tryz.isAgg5 (fun hG => Z.cellR Z.b0 (Z.ints_at Z.b3 Z.b3))) ?_
    refine Z.tb [13] Z.b4 rfl ⟨_, hs, Z.b2⟩ rfl ?_
    refine Z.t 14 rfl rfl rfl (by rfl) Z.b4 ⟨_, hs, Z.b2⟩ (Z.Yd.nilc rfl rfl) ?_
    refine Z.t 15 rfl rfl rfl (by rfl) Z.b4 ⟨_, hs, Z.b2⟩ (Z.Yd.fieldA (m := 1) rfl Z.b4) ?_
    refine Z.t 16 rfl rfl rfl (by rfl) Z.b4 ⟨_, hs, Z.b2⟩ Z.b25 ?_
    refine Z.t 17 rfl rfl rfl (by rfl) Z.b4 ⟨_, hs, Z.b2⟩ (Z.Yd.rem rfl rfl Z.b54 (by intro hG; first | exact Z.tmodn Z.b9 | exact rfl)) ?_
    refine Z.t 18 rfl rfl rfl (by rfl) Z.b4 ⟨_, hs, Z.b2⟩ (Z.Yd.sub rfl rfl (fun hG => Z.wi64 Z.b3)) ?_
    refine Z.t 19 rfl rfl rfl (by rfl) Z.b4 ⟨_, hs, Z.b2⟩ (Z.Yd.shr rfl rfl Z.b54 (fun _ => rfl)) ?_
    refine Z.t 20 rfl rfl rfl (by rfl) Z.b4 ⟨_, hs, Z.b2⟩ (Z.Yd.and rfl rfl (fun _ => and_one8 _ (at_ + k) he.1 he.2)) ?_
    refine Z.t 21 rfl rfl rfl (by rfl) Z.b4 ⟨_, hs, Z.b2⟩ (Z.Yd.convI rfl ⟨_, Tryz.underlying5⟩ Tryz.underlying123 (fun _ => Z.wu64 (by have := bi_bd ((elt l (((at_ + k : Nat) : Int) / 8)).toNat.testBit (7 - (at_ + k) % 8)); omega))) ?_
    refine Z.t 22 rfl rfl rfl (by rfl) Z.b4 ⟨_, hs, Z.b2⟩ (Z.Yd.or rfl rfl (fun _ => or_bit _ _ hv)) ?_
    refine Z.tb [23] Z.b4 rfl ⟨_, hs, Z.b2⟩ rfl ?_
    refine Z.g68 ?_
    refine Z.only [0, 4, 21, 22] rfl ?_
    refine Z.g121 ?_
    refine Z.g157 ?_
    refine Z.g140 ?_
    refine Z.g5 ?_
    refine Z.g10 ?_
    refine Z.g9 ?_
    refine Z.g156 ?_
    clear hs; intro ws hs
    replace hs := Z.w0 hs
    refine Z.g314 ?_
    refine Z.only [0, 4, 21, 22] rfl ?_
    refine Z.g180 ?_
    refine Z.only [0, 4, 21, 22] rfl ?_
    refine Z.g313 ?_
    have e2 : ((at_ + k : Nat) : Int) + 1 = ((at_ + (k + 1) : Nat) : Int) := by push_cast; omega
    rw [e2] at hs
    refine Z.again (k + 1) ?_ ⟨by omega, hs⟩ Z.b9
    rw [bitsAt_snoc Z.b9, val_snoc]
    exact Z.b10
  (try simp at hc8)
  refine Z.g11 ?_
  refine Z.g92 ?_
  refine Z.g314 ?_
  refine Z.g158 ?_
  refine Z.out2 Z.b22 ?_
  obtain rfl : k = wd := by omega
  refine ⟨_, rfl, by unfold getV; rw [e]; rfl, ?_⟩
  unfold getA; rw [e]
  exact hs
end Go.Proofs.YtbojkoiopkaciaaGreat

/- The reader: Align, End. -/
namespace Go.Proofs.YtbojkoiopkaciaaGreat
open Go.RowKit
set_option linter.unusedSimpArgs false
set_option linter.unusedVariables false

theorem getE_ok {l : List Int} {a : Nat} {n : Nat} (h : a + n ≤ 8 * l.length) (h2 : n ≤ 64) : getE l a (n : Int) = 0 := by
  unfold getE
  rw [if_neg Z.b9, if_neg Z.b9]

theorem WrL_start {w0 w : World} {M : List Nat} {L : List SX.Ent} {g T : Nat} (hs : SX.St w0 M w (SX.Ent.blk g T #[.slice none 0 0, .int .i64 0] :: L)) : SX.St w0 M w (WrL g T (.slice none 0 0) [] ++ L) := by
  have h := hs.nil 5 1
  exact h.perm (List.Perm.swap _ _ _)

end Go.Proofs.YtbojkoiopkaciaaGreat

/- Control elements: panics and recover. -/
namespace Go.Proofs.YtbojkoiopkaciaaGreat
open Go.RowKit
set_option linter.unusedSimpArgs false
set_option linter.unusedVariables false
--newlaws

def perr (e : Int) : List PanicEntry := Z.pe (.iface 31 (.int .i64 e))
def PanE (e : Int) (Φ : World → Prop) : Ending → World → Prop := Z.Pan fun c w' => c = perr e ∧ Φ w'

theorem must_ok (b : Bool) (e : Int) (w : World) (hb : b = true) : Calls Tryz.prog 145 #[.bool b, .int .i64 e] w (SX.Ret fun v w' => v = .tuple #[] ∧ SX.St w [] w' []) := by
  have hs := SX.St.start w
  subst hb
  refine Z.enter Tryz.func145 rfl Tryz.ntmps145 rfl rfl ?_
  refine Z.g249 ?_
  refine Z.cond rfl (fun h => absurd h Z.b17) (fun hc0 => ?_)
  refine Z.skip ?_
  refine Z.g128 ?_
  exact ⟨_, rfl, rfl, hs⟩
theorem must_bad (b : Bool) (e : Int) (w : World) (hb : b = false) : Calls Tryz.prog 145 #[.bool b, .int .i64 e] w (PanE e fun w' => SX.St w [] w' []) := by
  have hs := SX.St.start w
  subst hb
  refine Z.enter Tryz.func145 rfl Tryz.ntmps145 rfl rfl ?_
  refine Z.g249 ?_
  refine Z.cond rfl (fun hc0 => ?_) (fun h => absurd h Z.b17)
  refine Z.g233 ?_
  refine Z.g3 ?_
  refine Z.ZO.panic rfl rfl ?_
  refine Z.outp ?_
  exact ⟨_, rfl, rfl, hs⟩
theorem got64_ok (x : Int) (w : World) : Calls Tryz.prog 158 #[.int .u64 x, .int .i64 0] w (SX.Ret fun v w' => v = .int .u64 x ∧ SX.St w [] w' []) := by
  have hs := SX.St.start w
  refine Z.enter Tryz.func158 rfl Tryz.ntmps158 rfl rfl ?_
  refine Z.g213 ?_
  refine Z.ZO.call rfl rfl (by rfl) rfl rfl Tryz.call145 rfl (must_ok _ 0 _ Z.b17) ?_
  rintro v1_3 w1_3 ⟨rfl, hy⟩
  replace hs := Z.w1 (hs.call hy); clear hy
  refine Z.g181 ?_
  refine Z.g52 ?_
  exact ⟨_, rfl, rfl, hs⟩
theorem caught_pan (ge Te k : Nat) (cap : Array Value) (x : Value) (e : Int) (L L' : List SX.Ent) (w : World) (hs : SX.St w (SX.idsOf (SX.Ent.blk ge Te #[x] :: L)) w (SX.Ent.blk ge Te #[x] :: L)) (hk : ∀ args w, (callFunc k args).run Tryz.prog w = .ok (.enter k args) w)
    (hcl : ∀ W, SX.St W (SX.idsOf L) W L → Calls Tryz.prog k cap W (SX.Ret fun v w' => v = .tuple #[] ∧ SX.St W (SX.idsOf L) w' L')) :
    CallsDm Tryz.prog 152 #[.pointer (some ⟨ge, 0, none⟩), .func (.func k) #[] cap] (.panicking (perr e)) (.panicking [{ v := .iface 31 (.int .i64 e), recovered := true }]) w
      (fun v w' => v = .tuple #[] ∧ SX.St w (SX.idsOf (SX.Ent.blk ge Te #[x] :: L)) w' (SX.Ent.blk ge Te #[.int .i64 e] :: L')) := by
  generalize hM : SX.idsOf (SX.Ent.blk ge Te #[x] :: L) = M at *
  refine Z.enterRec (Z.rec_pan _) Tryz.func152 rfl Tryz.ntmps152 rfl rfl rfl rfl rfl rfl rfl rfl rfl rfl ?_
  refine Z.g232 ?_
  refine Z.g313 ?_
  refine Z.cond rfl (fun hc1 => ?_) (fun h => absurd h Z.b17)
  refine Z.g242 ?_
  refine Z.cond rfl (fun h => absurd h Z.b17) (fun hc3 => ?_)
  refine Z.g151 ?_
  refine Z.g148 ?_
  rintro v5 w5 ⟨rfl, hz⟩
  replace hs := SX.St.rot (L2 := [SX.Ent.blk ge Te #[x]]) ((SX.St.regain (L1 := L) (L2 := [SX.Ent.blk ge Te #[x]]) (hs.rot (L1 := [_]))) hz)
  refine Z.g314 ?_
  refine Z.only [0, 5] rfl ?_
  refine Z.g121 ?_
  refine Z.g186 ?_
  refine Z.g237 ?_
  clear hs; intro ws hs
  replace hs := Z.w0 hs
  refine Z.g153 ?_
  refine Z.g128 ?_
  exact ⟨_, rfl, rfl, hs⟩
theorem caught_ret (ge k : Nat) (cap : Array Value) (w : World) :
    CallsDm Tryz.prog 152 #[.pointer (some ⟨ge, 0, none⟩), .func (.func k) #[] cap] .returning .returning w (fun v w' => v = .tuple #[] ∧ SX.St w [] w' []) := by
  have hs := SX.St.start w
  refine Z.enterRec (Z.rec_ret) Tryz.func152 rfl Tryz.ntmps152 rfl rfl rfl rfl rfl rfl rfl rfl rfl rfl ?_
  refine Z.g232 ?_
  refine Z.g313 ?_
  refine Z.cond rfl (fun h => absurd h Z.b17) (fun hc1 => ?_)
  refine Z.skip ?_
  refine Z.g128 ?_
  exact ⟨_, rfl, rfl, hs⟩

theorem level_ok (n : Int) (w : World) (h : 0 ≤ n ∧ n ≤ 63) : Calls Tryz.prog 147 #[.int .i64 n] w (SX.Ret fun v w' => v = .agg #[.int .u64 n, .int .i64 6] ∧ SX.St w [] w' []) := by
  have hs := SX.St.start w
  refine Z.enter Tryz.func147 rfl Tryz.ntmps147 rfl rfl ?_
  refine Z.g230 ?_
  refine Z.g76 ?_
  clear hs; intro g2 w2 hs
  refine Z.g314 ?_
  refine Z.only [0, 2] rfl ?_
  refine Z.g30 ?_
  refine Z.lb 6 rfl ?_
  refine Z.g3 ?_
  refine Z.g110 ?_
  rintro v1_6 w1_6 ⟨rfl, hy⟩
  replace hs := Z.w1 (hs.call hy); clear hy
  refine Z.g314 ?_
  refine Z.only [0, 2] rfl ?_
  refine Z.g30 ?_
  refine Z.g64 ?_
  refine Z.g78 ?_
  refine Z.g40 ?_
  refine Z.g124 ?_
  clear hs; intro ws hs
  replace hs := Z.w0 hs
  replace hs := Z.w3 hs
  refine Z.g314 ?_
  refine Z.g33 ?_
  refine Z.out1 (by exact ⟨⟨_, rfl, Z.rvcA hs Tryz.isAgg211 Z.b0 (by exact Tryz.sizeOf211)⟩, trivial⟩) ?_
  exact ⟨_, rfl, rfl, hs.sub (List.nil_sublist _)⟩
theorem group_ok (n : Int) (w : World) (h : 0 ≤ n ∧ n ≤ 3) : Calls Tryz.prog 144 #[.int .i64 n] w (SX.Ret fun v w' => v = .agg #[.int .u64 n, .int .i64 2] ∧ SX.St w [] w' []) := by
  have hs := SX.St.start w
  refine Z.enter Tryz.func144 rfl Tryz.ntmps144 rfl rfl ?_
  refine Z.g230 ?_
  refine Z.g76 ?_
  clear hs; intro g2 w2 hs
  refine Z.g314 ?_
  refine Z.only [0, 2] rfl ?_
  refine Z.g30 ?_
  refine Z.lb 6 rfl ?_
  refine Z.g3 ?_
  refine Z.g110 ?_
  rintro v1_6 w1_6 ⟨rfl, hy⟩
  replace hs := Z.w1 (hs.call hy); clear hy
  refine Z.g314 ?_
  refine Z.only [0, 2] rfl ?_
  refine Z.g30 ?_
  refine Z.g64 ?_
  refine Z.g78 ?_
  refine Z.g40 ?_
  refine Z.g124 ?_
  clear hs; intro ws hs
  replace hs := Z.w0 hs
  replace hs := Z.w3 hs
  refine Z.g314 ?_
  refine Z.g33 ?_
  refine Z.out1 (by exact ⟨⟨_, rfl, Z.rvcA hs Tryz.isAgg211 Z.b0 (by exact Tryz.sizeOf211)⟩, trivial⟩) ?_
  exact ⟨_, rfl, rfl, hs.sub (List.nil_sublist _)⟩
def IsPart (lc : Int) (l : List Int) (v : Value) (w w' : World) : Prop := ∃ B co, v = .agg #[.int .i64 lc, .slice B l.length l.length] ∧ SX.St w [] w' [SX.Ent.row (.slice B l.length co) 5 1 l.length (ints .u8 l)]

set_option maxRecDepth 100000 in
theorem built_ok (lc : Int) (A : Option Addr) (n c : Nat) (fs : List (Int × Int)) (w : World) (hx : Sx w [] A (fs.flatMap encF)) (hl : fs.length = n) (hn : n ≤ 1000) (hg : ∀ f ∈ fs, GoodF f) (h0 : chkA fs = 0) :
    Calls Tryz.prog 146 #[.int .i64 lc, .slice A n c] w (SX.Ret fun v w' => IsPart lc (pk (fs.flatMap fldF)) v w w') := by
  have hs := SX.St.start w
  have hfl := flatF_length h0
  have hpl := pk_length (fs.flatMap fldF)
  refine Z.enter Tryz.func146 rfl Tryz.ntmps146 rfl rfl ?_
  refine Z.g230 ?_
  refine Z.g57 ?_
  clear hs; intro g4 w4 hs
  refine Z.g314 ?_
  refine Z.only [0, 1, 4] rfl ?_
  refine Z.g30 ?_
  refine Z.g3 ?_
  refine Z.ZO.alloc rfl rfl (by rfl) Tryz.zeroValue208 rfl hs ?_
  clear hs; intro g5 w5 hs
  refine Z.g260 ?_
  replace hs := WrL_start hs
  refine Z.g18 ?_
  refine Z.g3 ?_
  refine Z.ZO.call rfl rfl (by rfl) rfl rfl Tryz.call124 rfl (putAll_any g5 _ _ [] A n c fs _ hs.lend (hx.lent hs) hl hn Z.b17 hg) ?_
  rintro v2_1 w2_1 ⟨sv1, rfl, hz⟩
  replace hs := hs.regain hz
  rw [h0]
  have er : resA [] fs = fs.flatMap fldF := by unfold resA; rw [if_pos h0]; rfl
  rw [er] at hs
  refine Z.g32 ?_
  refine Z.ZO.call rfl rfl (by rfl) rfl rfl Tryz.call145 rfl (must_ok _ 2 _ Z.b17) ?_
  rintro v2_3 w2_3 ⟨rfl, hy⟩
  replace hs := Z.w1 (hs.call hy); clear hy
  refine Z.g314 ?_
  refine Z.only [0, 4, 5] rfl ?_
  refine Z.g30 ?_
  refine Z.g3 ?_
  refine Z.ZO.call rfl rfl (by rfl) rfl rfl Tryz.call128 rfl (wbytes_any g5 _ sv1 _ _ hs.lend Z.b9) ?_
  rintro v3_0 w3_0 hz
  replace hs := hs.regain hz
  obtain ⟨B, co, rfl, hco, -, -⟩ := SX.row_slv hs (j := 0) rfl
  refine Z.g1 ?_
  refine Z.only [0, 4, 6] rfl ?_
  refine Z.g92 ?_
  refine Z.g104 ?_
  refine Z.g64 ?_
  refine Z.g104 ?_
  refine Z.l rfl rfl (by rfl) (Z.keepS hs) (Z.Yd.cut3 0 (pk (fs.flatMap fldF)).length (pk (fs.flatMap fldF)).length rfl rfl rfl rfl Tryz.underlying48 Tryz.sizeOf5 (fun hG => ⟨Z.b3, Z.b3, Z.b3, Z.b3, Z.b3⟩)) ?_
  refine Z.g204 ?_
  rw [slA_zero]
  simp only [WrL, List.cons_append, List.nil_append] at hs
  refine Z.g124 ?_
  clear hs; intro ws hs
  replace hs := Z.w0 hs
  replace hs := Z.w3 hs
  refine Z.g314 ?_
  refine Z.g62 ?_
  refine Z.out1 Z.b36 ?_
  exact ⟨_, rfl, B, co, rfl, hs.sub Z.b17⟩
set_option maxRecDepth 100000 in
theorem element_ok (k : Nat) (cap : Array Value) (lc : Int) (l : List Int) (w : World) (hk : ∀ args w, (callFunc k args).run Tryz.prog w = .ok (.enter k args) w)
    (hof : ∀ W L, SX.St w [] W L → Calls Tryz.prog k cap W (SX.Ret fun v w' => IsPart lc l v W w')) :
    Calls Tryz.prog 142 #[.func (.func k) #[] cap] w (SX.Ret fun v w' => ∃ u, v = .tuple #[u, .int .i64 0] ∧ IsPart lc l u w w') := by
  have hs := SX.St.start w
  refine Z.enterD Tryz.func142 rfl Tryz.ntmps142 rfl rfl ?_
  refine Z.g230 ?_
  refine Z.g57 ?_
  clear hs; intro g2 w2 hs
  refine Z.g184 ?_
  clear hs; intro g3 w3 hs
  refine Z.g314 ?_
  refine Z.only [0, 2, 3] rfl ?_
  refine Z.g30 ?_
  refine Z.g95 ?_
  refine Z.only [0, 2, 3] rfl ?_
  refine Z.g30 ?_
  refine Z.g32 ?_
  refine Z.ZO.call rfl rfl (by rfl) rfl rfl hk Z.b24 (hof _ _ hs) ?_
  rintro v2_1 w2_1 ⟨B, co, rfl, hy⟩
  replace hs := Z.w1 (hs.call hy); clear hy
  refine Z.g124 ?_
  clear hs; intro ws hs
  replace hs := Z.w0 hs
  replace hs := Z.w3 hs
  refine Z.g237 ?_
  clear hs; intro ws hs
  replace hs := Z.w0 hs
  refine Z.g314 ?_
  refine Z.g126 ?_
  refine Z.outDr Tryz.call152 (caught_ret g3 _ _ _) ?_
  rintro vD wD ⟨rfl, hy⟩
  replace hs := hs.call hy
  refine ⟨[_, _], (by exact ⟨⟨_, rfl, Z.rvcA hs Tryz.isAgg77 Z.b0 Z.b18⟩, ⟨_, rfl, Z.rvc hs Tryz.isAgg31 Z.b0 rfl⟩, trivial⟩), ?_⟩
  exact ⟨_, rfl, _, rfl, B, co, rfl, hs.sel [0] Z.b12⟩
end Go.Proofs.YtbojkoiopkaciaaGreat

/- FieldWrites. -/
namespace Go.Proofs.YtbojkoiopkaciaaGreat
open Go.RowKit
set_option linter.unusedSimpArgs false
set_option linter.unusedVariables false

end Go.Proofs.YtbojkoiopkaciaaGreat

/- Arguments of the chapter's laws, asz they are read. -/
namespace Go.Proofs.YtbojkoiopkaciaaGreat
open Go.RowKit
set_option linter.unusedSimpArgs false
set_option linter.unusedVariables false

theorem flat_ints (k : IntKind) (l : List Int) : l.flatMap (fun x => [Value.int k x]) = ints k l := by
  induction l with
  | nil => rfl
  | cons x l ih => rw [List.flatMap_cons, ih]; rfl
theorem rd_bytes {W : World} {A : Option Addr} {n c : Nat} (z : Rd Tryz.prog W 48 [.slice A n c]) : ∃ l : List Int, l.length = n ∧ n ≤ maxLen ∧ (∀ x ∈ l, 0 ≤ x ∧ x < 256) ∧ Sl W A (ints .u8 l) := by
  have c1 : Tryz.prog.cellsOf 5 = 1 := by kernel_rfl
  obtain ⟨xs, h1, h2, h3, h4, h5⟩ := Rd.rows (fun x : Int => [Value.int .u8 x]) (fun x => 0 ≤ x ∧ x < 256) Tryz.underlying48 (by rw [c1]; decide)
    (fun r hr => by
      obtain ⟨x, hx, wx⟩ := Rd.int Tryz.underlying5 hr
      have := wf_u8 wx
      exact ⟨x, hx, this.1, by omega⟩) (fun x => c1.symm) z
  rw [flat_ints] at h5
  exact ⟨xs, h1, Nat.le_trans h2 h3, h4, h5⟩
end Go.Proofs.YtbojkoiopkaciaaGreat

/- FieldOwn. -/
namespace Go.Proofs.YtbojkoiopkaciaaGreat
open Go.RowKit
set_option linter.unusedSimpArgs false
set_option linter.unusedVariables false

end Go.Proofs.YtbojkoiopkaciaaGreat

/- Several reads, and back if one fails. -/
namespace Go.Proofs.YtbojkoiopkaciaaGreat
open Go.RowKit
set_option linter.unusedSimpArgs false
set_option linter.unusedVariables false

def gsA (l : List Int) (a : Nat) (ws : List Int) : Nat := ws.foldl (fun p w => getA l p w) a
def gsV (l : List Int) : Nat → List Int → List Int
  | _, [] => []
  | a, w :: ws => getV l a w :: gsV l (getA l a w) ws
def gsE (l : List Int) : Nat → List Int → Int
  | _, [] => 0
  | a, w :: ws => if getE l a w = 0 then gsE l (getA l a w) ws else getE l a w
theorem gsA_app (l : List Int) (a : Nat) (xs ys : List Int) : gsA l a (xs ++ ys) = gsA l (gsA l a xs) ys := by simp [gsA]
theorem gsV_app (l : List Int) : ∀ (xs : List Int) (a : Nat) (ys : List Int), gsV l a (xs ++ ys) = gsV l a xs ++ gsV l (gsA l a xs) ys
  | [], a, ys => rfl
  | x :: xs, a, ys => by
    have := gsV_app l xs (getA l a x) ys
    simp only [List.cons_append, gsV, this]
    rfl
theorem gsE_app (l : List Int) : ∀ (xs : List Int) (a : Nat) (ys : List Int), gsE l a xs = 0 → gsE l a (xs ++ ys) = gsE l (gsA l a xs) ys
  | [], a, ys, _ => rfl
  | x :: xs, a, ys, h => by
    by_cases hx : getE l a x = 0
    · simp only [gsE, if_pos hx, List.cons_append] at h ⊢
      have := gsE_app l xs (getA l a x) ys h
      rw [this]
      rfl
    simp only [gsE, if_neg hx] at h
    exact absurd h hx
theorem gsV_length (l : List Int) : ∀ (ws : List Int) (a : Nat), (gsV l a ws).length = ws.length
  | [], _ => rfl
  | w :: ws, a => by simp [gsV, gsV_length l ws]
theorem gsE_at {l : List Int} {a k : Nat} {ws : List Int} {x : Int} (h : ws[k]? = some x) (h0 : gsE l a (ws.take k) = 0) (hx : getE l (gsA l a (ws.take k)) x ≠ 0) : gsE l a ws = getE l (gsA l a (ws.take k)) x := by
  have e : ws = ws.take (k + 1) ++ ws.drop (k + 1) := (List.take_append_drop _ _).symm
  rw [← take_snoc h] at e
  conv => lhs; rw [e, List.append_assoc, gsE_app l _ _ _ h0]
  simp [gsE, hx]
theorem gs_snoc {l : List Int} {a k : Nat} {ws : List Int} {x : Int} (h : ws[k]? = some x) (h0 : gsE l a (ws.take k) = 0) (hx : getE l (gsA l a (ws.take k)) x = 0) :
    gsE l a (ws.take (k + 1)) = 0 ∧ gsA l a (ws.take (k + 1)) = getA l (gsA l a (ws.take k)) x ∧ gsV l a (ws.take (k + 1)) = gsV l a (ws.take k) ++ [getV l (gsA l a (ws.take k)) x] := by
  rw [← take_snoc h]
  refine ⟨?_, ?_, ?_⟩
  · rw [gsE_app l _ _ _ h0]; simp [gsE, hx]
  · rw [gsA_app]; rfl
  rw [gsV_app]; rfl
theorem getA_le {l : List Int} {a : Nat} {w : Int} (h : a ≤ 8 * l.length) : getA l a w ≤ 8 * l.length := by
  unfold getA
  split
  · rename_i h1
    unfold getE at h1
    split at h1
    · simp at h1
    split at h1
    · simp at h1
    omega
  exact h
theorem gsA_le {l : List Int} : ∀ {ws : List Int} {a : Nat}, a ≤ 8 * l.length → gsA l a ws ≤ 8 * l.length
  | [], a, h => h
  | w :: ws, a, h => gsA_le (ws := ws) (getA_le h)

def dfL (ge gf gr go g T To : Nat) (svb so : Value) (e : Int) (from_ a : Nat) : List SX.Ent :=
  [SX.Ent.blk ge 31 #[.int .i64 e], SX.Ent.blk gf 3 #[.int .i64 (from_ : Int)], SX.Ent.blk gr 187 #[.pointer (some ⟨g, 0, none⟩)], SX.Ent.blk go To #[so], SX.Ent.blk g T #[svb, .int .i64 (a : Int)]]

end Go.Proofs.YtbojkoiopkaciaaGreat
