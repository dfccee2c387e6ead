/- Part 3 of the proofs that lead to the statement. -/
import Derived.Test.YtbojkoiopkaciaaGreatY2
import Derived.Test.YtbojkoiopkaciaaGreatRows
namespace Go.Proofs.YtbojkoiopkaciaaGreat
open Go.RowKit Go.Proofs.Tryz SX
set_option linter.unusedSimpArgs false
set_option linter.unusedVariables false
set_option maxRecDepth 100000
set_option maxHeartbeats 8000000
structure Hid (q : Prop) : Prop where
  o : q
variable {p q : Prop} {w0 w w1 : World} {M : List Nat} {L L1 : List Ent}
theorem Jk (hs : St w0 M w L1) (h : ∀ e ∈ L, e ∈ L1 := by first | (simp; done) | exact fun e he => List.mem_append_right _ he) : ∃ L1, St w0 M w L1 ∧ ∀ e ∈ L, e ∈ L1 := ⟨_, hs, h⟩
theorem Jn (hs : St w0 M w L) : St w0 M w [] := hs.sub (List.nil_sublist _)
theorem U0 (h : p) (f : p → q := by intro hs; (try simp only [List.cons_append, List.nil_append, List.append_nil] at hs); exact hs) : q := f h
theorem U1 (h : p) (f : p → q := by intro hs; (simp only [Nat.zero_add, Nat.add_zero, Nat.reduceAdd, Int.reduceToNat, Nat.reduceMul, List.set_cons_zero, List.set_cons_succ, List.setIfInBounds_toArray] at hs); exact hs) : q := f h
theorem U2 (h : p) (f : p → q := by intro hs; (try simp only [Z.putL, Nat.zero_add] at hs); exact hs) : q := f h
theorem U3 (h : p) (f : p → q := by intro hs; (simp only [List.set_cons_zero, List.set_cons_succ, List.eraseIdx_cons_zero, List.eraseIdx_cons_succ] at hs); exact hs) : q := f h
theorem U4 (h : p) (f : p → q := by intro hs; (simp only [RdL, List.cons_append, List.nil_append] at hs); exact hs) : q := f h
theorem U5 (h : p) (f : p → q := by intro hs; (simp only [List.set_cons_zero, List.set_cons_succ] at hs); exact hs) : q := f h
theorem U6 (h : p) (f : p → q := by intro hs; (simp only [List.cons_append, List.nil_append] at hs); exact hs) : q := f h
theorem U7 (h : p) (f : p → q := by intro hs; (simp only [List.set_cons_zero, List.set_cons_succ, List.cons_append, List.nil_append] at hs); exact hs) : q := f h
theorem U8 (h : p) (f : p → q := by intro hs; (try simp only [RdL, List.cons_append, List.nil_append] at hs); exact hs) : q := f h
theorem U9 (h : p) (f : p → q := by intro hs; (simp only [Nat.zero_add, List.nil_append] at hs); exact hs) : q := f h
theorem U10 (h : p) (f : p → q := by intro hs; (simp only [bkE, List.cons_append, List.nil_append] at hs); exact hs) : q := f h
theorem U11 (h : p) (f : p → q := by intro hs; (simp only [WrL, List.cons_append, List.nil_append] at hs); exact hs) : q := f h
theorem J0 (z : p := by first | ((repeat (first | exact List.mem_cons_self | refine List.mem_cons_of_mem _ ?_ | refine List.mem_append_right _ ?_)); done) | fail) : p := z
theorem J1 (z : p := by first | exact SX.at0 | exact SX.at1 | exact SX.at2 | exact SX.at3 | exact SX.at4 | exact SX.at5 | exact Z.at6 | exact Z.at7 | exact Z.at8 | exact Z.at9 | exact Z.at10 | exact Z.at11 | exact Z.at12) : p := z
theorem J2 (z : p := by first | omega | (have hG' := Z.gh rfl hG; simp at hG'; omega)) : p := z
theorem J3 (z : p := by kernel_rfl) : p := z
theorem J4 (z : p := by first | (simp [Value.oneCell']; done) | (refine Z.all_one ?_; assumption)) : p := z
theorem J5 (z : p := by omega) : p := z
theorem J6 (z : p := by refine ⟨?_, trivial⟩ <;> (first | rfl | (refine Z.lookv rfl ?_; simp; done) | (refine Z.lookv rfl ?_; simp; omega))) : p := z
theorem J7 (z : p := by exact ⟨rfl, trivial⟩) : p := z
theorem J8 (z : p := by refine ⟨?_, ?_, ?_, ?_, ?_, trivial⟩ <;> (first | rfl | (refine Z.lookv rfl ?_; simp; done) | (refine Z.lookv rfl ?_; simp; omega))) : p := z
theorem J9 (z : p := by first | (simp; done) | (simp; omega)) : p := z
theorem J10 (z : p := by refine ⟨?_, ?_, ?_, ?_, trivial⟩ <;> (first | rfl | (refine Z.lookv rfl ?_; simp; done) | (refine Z.lookv rfl ?_; simp; omega))) : p := z
theorem J11 (z : p := by refine ⟨?_, ?_, trivial⟩ <;> (first | rfl | (refine Z.lookv rfl ?_; simp; done) | (refine Z.lookv rfl ?_; simp; omega))) : p := z
theorem J12 (z : p := by decide) : p := z
theorem J13 (z : p := by refine ⟨?_, ?_, ?_, trivial⟩ <;> (first | rfl | (refine Z.lookv rfl ?_; simp; done) | (refine Z.lookv rfl ?_; simp; omega))) : p := z
theorem J14 (z : p := by refine ⟨?_, ?_, ?_, ?_, ?_, ?_, ?_, trivial⟩ <;> (first | rfl | (refine Z.lookv rfl ?_; simp; done) | (refine Z.lookv rfl ?_; simp; omega))) : p := z
theorem J15 (z : p := by exact ⟨rfl, rfl, trivial⟩) : p := z
theorem J16 (z : p := by simp) : p := z
theorem J17 (z : p := by unfold maxLen; omega) : p := z
theorem J18 (z : p := by intro w; kernel_rfl) : p := z
theorem J19 (z : p := by intro W; kernel_rfl) : p := z
theorem J20 (z : p := by exact sizeOf77) : p := z
theorem J21 (z : p := by refine ⟨?_, ?_, ?_, ?_, ?_, ?_, trivial⟩ <;> (first | rfl | (refine Z.lookv rfl ?_; simp; done) | (refine Z.lookv rfl ?_; simp; omega))) : p := z
theorem J22 (z : p := by simp only; omega) : p := z
theorem J23 (z : p := by first | rfl | assumption | (simp [ints_length]; done) | (simp [ints_length]; omega)) : p := z
theorem J24 (z : p := by refine ⟨?_, ?_, ?_, ?_, ?_, ?_, ?_, ?_, ?_, trivial⟩ <;> first | rfl | (exact congrArg (fun z ↦ some (([] : List (Nat × Bool)), Value.bool z)) (by first | exact hdT1 hsp45 | exact hdT2 hxe hsp50 hsp62 | (refine hdT3 hxe ?_ ?_; omega; first | exact .inl hsp50 | (right; by_cases h9 : ctlN x = 0; exact .inr (hsp62 h9); exact .inl h9))))) : p := z
theorem J25 (z : p := by exact Z.Yd.load rfl isAgg3 (fun _ => Z.cellB J0 rfl)) : p := z
theorem J26 (z : p := by exact Z.Yd.load rfl isAgg48 (fun _ => Z.cellB J0 rfl)) : p := z
theorem J27 (z : p := by exact ⟨⟨_, rfl, Z.rvc hs isAgg48 J0 rfl⟩, ⟨_, rfl, Z.rvc hs isAgg31 J0 rfl⟩, trivial⟩) : p := z
theorem J28 (z : p := by exact Z.Yd.loadA _ rfl isAgg190 (fun _ => Z.cellsB J0) (by exact sizeOf190)) : p := z
theorem J29 (z : p := by exact Z.Yd.load rfl isAgg4 (fun _ => Z.cellB J0 rfl)) : p := z
theorem J30 (z : p := by exact Z.Yd.load rfl isAgg34 (fun _ => Z.cellB J0 rfl)) : p := z
theorem J31 (z : p := by exact Z.Yd.load rfl isAgg22 (fun _ => Z.cellB J0 rfl)) : p := z
theorem J32 (z : p := by exact Z.Yd.loadA _ rfl isAgg77 (fun _ => Z.cellsB J0) J20) : p := z
theorem J33 (z : p := by intro hG; first | decide | omega) : p := z
theorem J34 (z : p := by first | rfl | simp) : p := z
theorem J35 (z : p := by first | omega | (simp [ints_length]; done) | (simp [ints_length]; omega)) : p := z
theorem J36 (z : p := by first | exact Z.ints_one | assumption | simp [Value.oneCell']) : p := z
theorem J37 (z : p := by intro hG; first | exact Z.qi64 ⟨by omega, by omega⟩ J5 | exact rfl) : p := z
theorem J38 (z : p := by simp [Value.oneCell']) : p := z
theorem J39 (z : p := by exact Z.Yd.loadA _ rfl isAgg86 (fun _ => Z.cellsB J0) (by exact sizeOf86)) : p := z
theorem J40 (z : p := by refine ⟨?_, ?_, ?_, ?_, ?_, ?_, ?_, ?_, ?_, ?_, trivial⟩ <;> (first | rfl | (refine Z.lookv rfl ?_; simp; done) | (refine Z.lookv rfl ?_; simp; omega))) : p := z
theorem J41 (z : p := by exact ⟨⟨_, rfl, Z.rvcA hs isAgg41 J0 (by exact sizeOf41)⟩, rfl, rfl, trivial⟩) : p := z
theorem J42 (z : p := by exact ⟨⟨_, rfl, Z.rvc hs isAgg34 J0 rfl⟩, ⟨_, rfl, Z.rvc hs isAgg31 J0 rfl⟩, trivial⟩) : p := z
theorem J43 (z : p := by exact Z.Yd.load rfl isAgg187 (fun _ => Z.cellB J0 rfl)) : p := z
theorem J44 (z : p := by refine ⟨?_, ?_, ?_, ?_, ?_, ?_, ?_, ?_, ?_, ?_, ?_, ?_, trivial⟩ <;> first | rfl | (exact congrArg (fun z ↦ some (([] : List (Nat × Bool)), Value.int .i64 z)) (by unfold askd; first | rw [if_pos J5] | rw [if_neg J5]; try omega))) : p := z
theorem J45 (z : p := by simp; omega) : p := z
theorem J46 (z : p := by exact Z.Yd.load rfl isAgg52 (fun _ => Z.cellB J0 rfl)) : p := z
theorem J47 (z : p := by exact Z.Yd.load rfl isAgg47 (fun _ => Z.cellB J0 rfl)) : p := z
theorem J48 (z : p := by exact ⟨⟨_, rfl, Z.rvcA hs isAgg77 J0 J20⟩, trivial⟩) : p := z
theorem J49 (z : p := by exact Z.Yd.load rfl isAgg5 (fun hG => Z.cellS (by assumption) rfl J2 J2)) : p := z
theorem J50 (z : p := by exact sizeOf41) : p := z
theorem J51 (z : p := by exact Z.Yd.load rfl isAgg53 (fun _ => Z.cellB J0 rfl)) : p := z
theorem J52 (z : p := by intro hG; first | exact Z.tmodn J5 | exact rfl) : p := z
theorem J53 (z : p := by first | exact hs | exact hs.sel [1, 0, 2] J12) : p := z
theorem J54 (z : p := by exact Z.Yd.loadA _ rfl isAgg39 (fun _ => Z.cellsB J0) (by exact sizeOf39)) : p := z
theorem J55 (z : p := by exact Z.Yd.loadA _ rfl isAgg36 (fun _ => Z.cellsB J0) (by exact sizeOf36)) : p := z
theorem J56 (z : p := by intro _ w; kernel_rfl) : p := z
theorem J57 (z : p := by exact Z.Yd.load rfl isAgg123 (fun _ => Z.cellB J0 rfl)) : p := z
theorem J58 (z : p := by refine ⟨?_, ?_, ?_, ?_, ?_, ?_, ?_, ?_, trivial⟩ <;> first | rfl | (exact congrArg (fun z ↦ some (([] : List (Nat × Bool)), Value.int .i64 z)) (by first | exact hkc hc40 | (refine hkl hc40 ?_; omega) | (refine hkn hc40 ?_; omega)))) : p := z
theorem J59 (z : p := by exact ⟨⟨_, rfl, Z.rvcA hs isAgg36 J0 (by exact sizeOf36)⟩, rfl, trivial⟩) : p := z
theorem J60 (z : p := by exact Z.Yd.load rfl isAgg3 (fun hG => Z.cellR J0 (Z.ints_at J2 J2))) : p := z
theorem J61 (z : p := by exact ⟨⟨_, rfl, Z.rvc hs isAgg47 J0 rfl⟩, ⟨_, rfl, Z.rvc hs isAgg31 J0 rfl⟩, trivial⟩) : p := z
theorem J62 (z : p := by exact Z.Yd.loadA _ rfl isAgg237 (fun _ => Z.cellsB J0) (by exact sizeOf237)) : p := z
theorem J63 (z : p := by exact Z.Yd.load rfl isAgg59 (fun _ => Z.cellB J0 rfl)) : p := z
theorem J64 (z : p := by exact Z.Yd.load rfl isAgg58 (fun _ => Z.cellB J0 rfl)) : p := z
theorem J65 (z : p := by first | (simp; done) | (simp_all; done)) : p := z
theorem J66 (z : p := by refine ⟨?_, ?_, ?_, ?_, ?_, ?_, ?_, trivial⟩ <;> first | rfl | (refine Z.lookv rfl ?_; congr 1; rw [Bool.eq_iff_iff]; simp only [decide_eq_true_eq, beq_iff_eq]; unfold isPl; simp only; omega)) : p := z
theorem J67 (z : p := by refine ⟨?_, ?_, ?_, ?_, ?_, ?_, ?_, trivial⟩ <;> first | rfl | (refine Z.lookv rfl ?_; congr 1; rw [Bool.eq_iff_iff]; simp only [decide_eq_true_eq, beq_iff_eq]; unfold isBu; simp only; omega)) : p := z
theorem J68 (z : p := by exact ⟨⟨_, rfl, Z.rvcA hs isAgg86 J0 (by exact sizeOf86)⟩, ⟨_, rfl, Z.rvc hs isAgg31 J0 rfl⟩, trivial⟩) : p := z
theorem J69 (z : p := by rw [fl_len mp_len]; omega) : p := z
theorem J70 (z : p := by rw [ints_length]; omega) : p := z
theorem J71 (z : p := by exact ⟨⟨_, rfl, Z.rvcA hs isAgg39 J0 (by exact sizeOf39)⟩, rfl, trivial⟩) : p := z
theorem J72 (z : p := by assumption) : p := z
theorem J73 (z : p := by exact ⟨⟨_, rfl, Z.rvcA hs isAgg86 J0 (by exact sizeOf86)⟩, trivial⟩) : p := z
theorem J74 (z : p := by rw [Z.nth_eq]; exact (show (({ m with now := t } : RpV).ref)[0 + 5 + (k : Int).toNat * 1]? = some (.int .i64 (elt m.bs (k : Int))) from ref_get { m with now := t } k J5)) : p := z
theorem J75 (z : p := by exact Z.Yd.loadA _ rfl isAgg37 (fun _ => Z.cellsB J0) (by exact sizeOf37)) : p := z
theorem J76 (z : p := by exact ⟨⟨_, rfl, Z.rvc hs isAgg30 J0 rfl⟩, ⟨_, rfl, Z.rvc hs isAgg31 J0 rfl⟩, trivial⟩) : p := z
theorem J77 (z : p := by refine ⟨?_, ?_, ?_, ?_, ?_, ?_, ?_, ?_, ?_, trivial⟩ <;> (first | rfl | (refine Z.lookv rfl ?_; simp; done) | (refine Z.lookv rfl ?_; simp; omega))) : p := z
theorem J78 (z : p := by refine ⟨?_, ?_, ?_, ?_, ?_, ?_, ?_, ?_, trivial⟩ <;> (first | rfl | (refine Z.lookv rfl ?_; simp; done) | (refine Z.lookv rfl ?_; simp; omega))) : p := z
theorem J79 (z : p := by intro _ w; go_simp; try rfl) : p := z
theorem J80 (z : p := by first | decide | (simp; done) | (simp; omega)) : p := z
theorem J81 (z : p := by exact ⟨⟨_, rfl, Z.rvcA hs isAgg86 J0 (by exact sizeOf86)⟩, rfl, trivial⟩) : p := z
theorem J82 (z : p := by exact ⟨⟨_, rfl, Z.rvcA hs isAgg61 J0 (by exact sizeOf61)⟩, ⟨_, rfl, Z.rvc hs isAgg31 J0 rfl⟩, trivial⟩) : p := z
theorem J83 (z : p := by exact Z.Yd.loadA _ rfl isAgg194 (fun _ => Z.cellsB J0) (by exact sizeOf194)) : p := z
theorem J84 (z : p := by exact Z.Yd.loadA _ rfl isAgg41 (fun _ => Z.cellsB J0) J50) : p := z
theorem J85 (z : p := by exact Z.Yd.load rfl isAgg145 (fun _ => Z.cellB J0 rfl)) : p := z
theorem J86 (z : p := by rw [Z.nth_eq]; show _[0 + (k : Int).toNat * 1]? = _; rw [show 0 + (k : Int).toNat * 1 = k from by omega]; exact hg) : p := z
theorem J87 (z : p := by exact ⟨rfl, ⟨_, rfl, Z.rvcA hs isAgg41 J0 J50⟩, rfl, trivial⟩) : p := z
theorem J88 (z : p := by exact ⟨⟨_, rfl, Z.rvc hs isAgg123 J0 rfl⟩, ⟨_, rfl, Z.rvc hs isAgg31 J0 rfl⟩, trivial⟩) : p := z
theorem J89 (z : p := by exact ⟨⟨_, rfl, Z.rvc hs isAgg3 J0 rfl⟩, ⟨_, rfl, Z.rvc hs isAgg31 J0 rfl⟩, trivial⟩) : p := z
theorem J90 (z : p := by exact ⟨⟨_, rfl, Z.rvcA hs isAgg77 J0 J20⟩, rfl, trivial⟩) : p := z
theorem J91 (z : p := by rw [flat_len lg_len]; omega) : p := z
theorem J92 (z : p := by simp [ints]; omega) : p := z
theorem J93 (z : p := by intro c h; cases h) : p := z
theorem J94 (z : p := by exact ⟨⟨_, rfl, Z.rvcA hs isAgg39 J0 (by exact sizeOf39)⟩, rfl, rfl, trivial⟩) : p := z
theorem J95 (z : p := by exact ⟨⟨_, rfl, Z.rvcA hs isAgg36 J0 (by exact sizeOf36)⟩, rfl, rfl, trivial⟩) : p := z
theorem J96 (z : p := by exact ⟨⟨_, rfl, Z.rvcA hs isAgg61 J0 (by exact sizeOf61)⟩, rfl, trivial⟩) : p := z
theorem J97 (z : p := by exact Z.Yd.load rfl isAgg30 (fun _ => Z.cellB J0 rfl)) : p := z
theorem J98 (z : p := by rw [List.zip_eq_zipWith, List.take_zipWith, ← List.zip_eq_zipWith]; exact zip_snd hda) : p := z
theorem J99 (z : p := by refine ⟨?_, ?_, ?_, ?_, ?_, ?_, ?_, ?_, trivial⟩ <;> first | rfl | (exact congrArg (fun z ↦ some (([] : List (Nat × Bool)), Value.bool z)) (by simp [hc18]))) : p := z
theorem J100 (z : p := by exact sizeOf37) : p := z
theorem J101 (z : p := by refine ⟨?_, ?_, ?_, ?_, ?_, ?_, ?_, ?_, trivial⟩ <;> first | rfl | (exact congrArg (fun z ↦ some (([] : List (Nat × Bool)), Value.bool z)) (by simp [hc16]))) : p := z
theorem J102 (z : p := by refine ⟨?_, ?_, ?_, ?_, ?_, ?_, ?_, ?_, ?_, ?_, ?_, trivial⟩ <;> (first | rfl | (refine Z.lookv rfl ?_; simp; done) | (refine Z.lookv rfl ?_; simp; omega))) : p := z
theorem J103 (z : p := by refine ⟨?_, ?_, ?_, ?_, ?_, trivial⟩ <;> first | rfl | (refine Z.lookv rfl ?_; congr 1; rw [hnw2]; first | (rw [if_pos J72]) | (rw [if_neg J5]))) : p := z
theorem J104 (z : p := by have h8 : q.l.length ≤ l.length := hpl; omega) : p := z
theorem J105 (z : p := by exact ⟨⟨_, rfl, Z.rvc hs isAgg47 J0 rfl⟩, rfl, trivial⟩) : p := z
theorem J106 (z : p := by rw [← hr]; exact List.mem_map_of_mem (List.mem_of_getElem? hqi)) : p := z
theorem J107 (z : p := by exact Z.Yd.load rfl isAgg3 (fun hG => Z.cellS J72 rfl J2 J2)) : p := z
theorem J108 (z : p := by rw [Z.nth_eq]; simpa using gcs_get ((m.b.l.zip dem).take i) hgr) : p := z
theorem J109 (z : p := by intro _ w; rw [hfm, ← hfv]; unfold fmOf; by_cases hc : q.l.length ≤ 127 <;> simp only [hc, if_true, if_false] <;> kernel_rfl) : p := z
theorem J110 (z : p := by simpa [maE, bkE, rvP, rpE, hup] using h) : p := z
theorem J111 (z : p := by simp only [decide_eq_true_eq]; omega) : p := z
theorem J112 (z : p := by refine ⟨?_, ?_, ?_, ?_, ?_, ?_, ?_, ?_, trivial⟩ <;> first | rfl | (refine Z.lookv rfl ?_; congr 1; omega)) : p := z
theorem J113 (z : p := by exact sizeOf211) : p := z
theorem J114 (z : p := by exact Z.Yd.fieldL 2 1 rfl rfl J18) : p := z
theorem J115 (z : p := by exact sizeOf39) : p := z
theorem J116 (z : p := by exact sizeOf26) : p := z
theorem J117 (z : p := by refine ⟨?_, ?_, ?_, ?_, ?_, ?_, trivial⟩ <;> first | rfl | (refine Z.lookv rfl ?_; rw [eR])) : p := z
theorem J118 (z : p := by refine ⟨?_, ?_, ?_, ?_, trivial⟩ <;> first | rfl | (refine Z.lookv rfl ?_; congr 1; omega)) : p := z
theorem J119 (z : p := by rw [hml]; first | exact Z.row_lentv hs (j := 3) rfl | exact Z.row_lentv hs (j := 4) rfl) : p := z
theorem J120 (z : p := by rw [hml]; first | exact Z.row_lentv hs (j := 1) rfl | exact Z.row_lentv hs (j := 2) rfl) : p := z
theorem J121 (z : p := by rw [← hqs]; exact List.mem_map_of_mem hq) : p := z
theorem J122 (z : p := by rw [ordL_len hm.set]; omega) : p := z
theorem J123 (z : p := by refine ⟨?_, ?_, ?_, ?_, ?_, ?_, ?_, trivial⟩ <;> first | rfl | (rw [hbn] ; rfl)) : p := z
theorem J124 (z : p := by exact Z.Yd.loadA _ rfl isAgg24 (fun _ => Z.cellsB J0) (by exact sizeOf24)) : p := z
theorem J125 (z : p := by rw [Bool.eq_iff_iff]; simp) : p := z
theorem J126 (z : p := by exact sizeOf86) : p := z
theorem J127 (z : p := by exact sizeOf75) : p := z
theorem J128 (z : p := by exact sizeOf61) : p := z
theorem J129 (z : p := by intro w; go_simp; try rfl) : p := z
theorem J130 (z : p := by rw [show ((j - 1 : Nat) : Int) = (j : Int) - 1 from by omega]; exact hz.1 J72) : p := z
theorem J131 (z : p := by first | exact Z.row_lentv hs (j := 2) rfl | exact Z.row_lentv hs (j := 3) rfl) : p := z
theorem J132 (z : p := by simp [hl]) : p := z
theorem J133 (z : p := by subst h; simpa using hc) : p := z
theorem J134 (z : p := by exact ⟨⟨_, rfl, Z.rvcA hs isAgg41 J0 J50⟩, rfl, trivial⟩) : p := z
theorem J135 (z : p := by exact ⟨⟨_, rfl, Z.rvcA hs isAgg211 J0 J113⟩, trivial⟩) : p := z
theorem J136 (z : p := by exact Z.Yd.loadA _ rfl isAgg211 (fun _ => Z.cellsB J0) J113) : p := z
theorem J137 (z : p := by unfold isId at hi; simp; omega) : p := z
theorem J138 (z : p := by decide +kernel) : p := z
theorem V0 (h : q) (f : Hid q → p := by intro y; refine Z.seq ?_; refine Z.region ?_; exact y.o) : p := f ⟨h⟩
theorem V1 (h : q) (f : Hid q → p := by intro y; refine Z.lb 1 rfl ?_; refine Z.lnil ?_; exact y.o) : p := f ⟨h⟩
theorem V2 (h : q) (f : Hid q → p := by intro y; refine Z.le rfl trivial ?_; exact y.o) : p := f ⟨h⟩
theorem V3 (h : q) (f : Hid q → p := by intro y; refine Z.l rfl rfl (by rfl) (Z.keepS hs) (Z.Yd.fieldA (m := 0) rfl J3) ?_; exact y.o) : p := f ⟨h⟩
theorem V4 (h : q) (f : Hid q → p := by intro y; refine Z.ls rfl rfl rfl (by rfl) ?_; refine Z.ls rfl rfl rfl (by rfl) ?_; refine Z.ls rfl rfl rfl (by rfl) ?_; exact y.o) : p := f ⟨h⟩
theorem V5 (h : q) (f : Hid q → p := by intro y; refine Z.l rfl rfl (by rfl) (Z.keepS hs) (Z.Yd.add rfl rfl (fun hG => Z.wi64 J2)) ?_; exact y.o) : p := f ⟨h⟩
theorem V6 (h : q) (f : Hid q → p := by intro y; refine Z.nthen ?_; exact y.o) : p := f ⟨h⟩
theorem V7 (h : q) (f : Hid q → p := by intro y; refine Z.ZO.storeA rfl rfl hs rfl rfl J3 J4 J1 (by rfl) ?_; exact y.o) : p := f ⟨h⟩
theorem V8 (h : q) (f : Hid q → p := by intro y; refine Z.l rfl rfl (by rfl) (Z.keepS hs) (Z.Yd.fieldA (m := 1) rfl J3) ?_; exact y.o) : p := f ⟨h⟩
theorem V9 (h : q) (f : Hid q → p := by intro y; refine Z.l rfl rfl (by rfl) (Z.keepS hs) J25 ?_; exact y.o) : p := f ⟨h⟩
theorem V10 (h : q) (f : Hid q → p := by intro y; refine Z.exit ?_; refine Z.xthen ?_; refine Z.xthen ?_; refine Z.xblock ?_; exact y.o) : p := f ⟨h⟩
theorem V11 (h : q) (f : Hid q → p := by intro y; refine Z.lb 2 rfl ?_; exact y.o) : p := f ⟨h⟩
theorem V12 (h : q) (f : Hid q → p := by intro y; refine Z.l rfl rfl (by rfl) (Z.keepS hs) (Z.Yd.nilc rfl rfl) ?_; exact y.o) : p := f ⟨h⟩
theorem V13 (h : q) (f : Hid q → p := by intro y; refine Z.lsU rfl rfl rfl (by rfl) ?_; refine Z.lsU rfl rfl rfl (by rfl) ?_; refine Z.lsU rfl rfl rfl (by rfl) ?_; exact y.o) : p := f ⟨h⟩
theorem V14 (h : q) (f : Hid q → p := by intro y; refine Z.l rfl rfl (by rfl) (Z.keepS hs) (Z.Yd.pickF rfl rfl) ?_; exact y.o) : p := f ⟨h⟩
theorem V15 (h : q) (f : Hid q → p := by intro y; refine Z.ZO.box rfl rfl (by rfl) rfl rfl hs ?_; exact y.o) : p := f ⟨h⟩
theorem V16 (h : q) (f : Hid q → p := by intro y; refine Z.ret ?_; refine Z.out1 J7 ?_; exact y.o) : p := f ⟨h⟩
theorem V17 (h : q) (f : Hid q → p := by intro y; refine Z.l rfl rfl (by rfl) (Z.keepS hs) (Z.Yd.sub rfl rfl (fun hG => Z.wi64 J2)) ?_; exact y.o) : p := f ⟨h⟩
theorem V18 (h : q) (f : Hid q → p := by intro y; refine Z.l rfl rfl (by rfl) (Z.keepS hs) (Z.Yd.pure rfl) ?_; exact y.o) : p := f ⟨h⟩
theorem V19 (h : q) (f : Hid q → p := by intro y; refine Z.l rfl rfl (by rfl) (Z.keepS hs) (Z.Yd.fieldA (m := 2) rfl J3) ?_; exact y.o) : p := f ⟨h⟩
theorem V20 (h : q) (f : Hid q → p := by intro y; refine Z.l rfl rfl (by rfl) (Z.keepS hs) (Z.Yd.pickT rfl rfl) ?_; exact y.o) : p := f ⟨h⟩
theorem V21 (h : q) (f : Hid q → p := by intro y; refine Z.l rfl rfl (by rfl) (Z.keepS hs) (Z.Yd.elem rfl rfl underlying34 sizeOf3 (fun hG => ⟨J2, J2⟩)) ?_; exact y.o) : p := f ⟨h⟩
theorem V22 (h : q) (f : Hid q → p := by intro y; refine Z.l rfl rfl (by rfl) (Z.keepS hs) (Z.Yd.elemA rfl rfl underlying37 sizeOf3 (fun hG => ⟨J2, J2⟩)) ?_; exact y.o) : p := f ⟨h⟩
theorem V23 (h : q) (f : Hid q → p := by intro y; refine Z.l rfl rfl (by rfl) (Z.keepS hs) (Z.Yd.loadA _ rfl isAgg41 (fun _ => Z.cellsB (cs := [.slice A m.b.l.length c, .slice B m.b.l.length d, .int .i64 m.b.now, .bool m.up, .int .i64 m.r.c0, .int .i64 m.r.c1, .int .i64 m.r.c2, .int .i64 m.r.c3, .int .i64 m.r.now, .int .i64 m.r.b0, .int .i64 m.r.b1, .int .i64 m.r.b2, .int .i64 m.r.b3, .int .i64 m.r.head, .bool m.r.reg, .bool m.r.per, .bool m.r.pow, .bool m.r.fst, .int .i64 m.r.last, .int .i64 m.r.lastP, .int .i64 m.r.told, .int .i64 m.last]) J0) J50) ?_; exact y.o) : p := f ⟨h⟩
theorem V24 (h : q) (f : Hid q → p := by intro y; refine Z.t 0 rfl rfl rfl (by rfl) J3 (Jk hs) (Z.Yd.fieldA (m := 0) rfl J3) ?_; refine Z.t 1 rfl rfl rfl (by rfl) J3 (Jk hs) J25 ?_; refine Z.tb [2, 3, 4] J3 rfl (Jk hs) rfl ?_; refine Z.t 5 rfl rfl rfl (by rfl) J3 (Jk hs) (Z.Yd.cut3 0 k k rfl rfl rfl rfl underlying48 sizeOf5 (fun hG => ⟨J2, J2, J2, J2, J2⟩)) ?_; refine Z.t 6 rfl rfl rfl (by rfl) J3 (Jk hs) (Z.Yd.buildL [(0, 1), (1, 1)] [.int .i64 0, .slice none 0 0] rfl rfl J18) ?_; refine Z.tn 7 rfl rfl J3 rfl trivial ?_; exact y.o) : p := f ⟨h⟩
theorem V25 (h : q) (f : Hid q → p := by intro y; refine Z.ZO.store rfl rfl hs sizeOf3 rfl rfl rfl J1 J9 ?_; exact y.o) : p := f ⟨h⟩
theorem V26 (h : q) (f : Hid q → p := by intro y; refine Z.l rfl rfl (by rfl) (Z.keepS hs) (Z.Yd.lenS rfl underlying34) ?_; exact y.o) : p := f ⟨h⟩
theorem V27 (h : q) (f : Hid q → p := by intro y; refine Z.l rfl rfl (by rfl) (Z.keepS hs) (Z.Yd.lenS rfl underlying47) ?_; exact y.o) : p := f ⟨h⟩
theorem V28 (h : q) (f : Hid q → p := by intro y; refine Z.l rfl rfl (by rfl) (Z.keepS hs) (Z.Yd.elem rfl rfl underlying47 sizeOf77 (fun hG => ⟨J2, J2⟩)) ?_; exact y.o) : p := f ⟨h⟩
theorem V29 (h : q) (f : Hid q → p := by intro y; refine Z.l rfl rfl (by rfl) (Z.keepS hs) (Z.Yd.lenS rfl underlying48) ?_; exact y.o) : p := f ⟨h⟩
theorem V30 (h : q) (f : Hid q → p := by intro y; refine V6 ?_; refine Z.seq ?_; refine V0 ?_; exact y.o) : p := f ⟨h⟩
theorem V31 (h : q) (f : Hid q → p := by intro y; refine V11 ?_; refine Z.lnil ?_; exact y.o) : p := f ⟨h⟩
theorem V32 (h : q) (f : Hid q → p := by intro y; refine Z.lb 1 rfl ?_; exact y.o) : p := f ⟨h⟩
theorem V33 (h : q) (f : Hid q → p := by intro y; refine V5 ?_; refine V1 ?_; exact y.o) : p := f ⟨h⟩
theorem V34 (h : q) (f : Hid q → p := by intro y; refine Z.outDp call26 (mx_caught_pan g9 _ _ _ _ _ [Ent.blk g8 _ _] _ _ (hs.lend (L1 := [Ent.blk g9 _ _, Ent.blk g8 _ _])) call63 (fun W hW ↦ mx_clearBuild g8 _ _ W hW)) ?_; exact y.o) : p := f ⟨h⟩
theorem V35 (h : q) (f : Hid q → p := by intro y; refine V2 ?_; refine Z.ZO.alloc rfl rfl (by rfl) zeroValue31 rfl hs ?_; exact y.o) : p := f ⟨h⟩
theorem V36 (h : q) (f : Hid q → p := by intro y; refine Z.ls rfl rfl rfl (by rfl) ?_; exact y.o) : p := f ⟨h⟩
theorem V37 (h : q) (f : Hid q → p := by intro y; refine Z.l rfl rfl (by rfl) (Z.keepS hs) (Z.Yd.convI rfl ⟨_, underlying5⟩ underlying3 (fun hG => Z.wi64 J2)) ?_; exact y.o) : p := f ⟨h⟩
theorem V38 (h : q) (f : Hid q → p := by intro y; refine Z.l rfl rfl (by rfl) (Z.keepS hs) (Z.Yd.fieldA (m := 3) rfl J3) ?_; exact y.o) : p := f ⟨h⟩
theorem V39 (h : q) (f : Hid q → p := by intro y; refine Z.ZO.append (i0 := Tryz.t3) (size := 1) (bytes := 8) rfl rfl (by rfl) hs underlying34 J3 rfl rfl rfl rfl J12 rfl rfl J1 J1 J34 J38 J12 J17 J5 ?_; exact y.o) : p := f ⟨h⟩
theorem V40 (h : q) (f : Hid q → p := by intro y; refine Z.td (by rfl) J3 ?_; exact y.o) : p := f ⟨h⟩
theorem V41 (h : q) (f : Hid q → p := by intro y; refine Z.ZO.store rfl rfl hs sizeOf4 rfl rfl rfl J1 J9 ?_; exact y.o) : p := f ⟨h⟩
theorem V42 (h : q) (f : Hid q → p := by intro y; refine Z.region ?_; exact y.o) : p := f ⟨h⟩
theorem V43 (h : q) (f : Hid q → p := by intro y; refine Z.only [2] rfl ?_; exact y.o) : p := f ⟨h⟩
theorem V44 (h : q) (f : Hid q → p := by intro y; refine Z.tb [0] J3 rfl (Jk hs) rfl ?_; refine Z.t 1 rfl rfl rfl (by rfl) J3 (Jk hs) (Z.Yd.nilc rfl rfl) ?_; refine Z.t 2 rfl rfl rfl (by rfl) J3 (Jk hs) (Z.Yd.fieldA (m := 0) rfl J3) ?_; exact y.o) : p := f ⟨h⟩
theorem V45 (h : q) (f : Hid q → p := by intro y; refine Z.tk (Dn := fun _ => true) (i := 7) (fun _ => (Jk hs)) ?_; refine Z.tn 8 rfl rfl J3 rfl trivial ?_; refine V7 ?_; exact y.o) : p := f ⟨h⟩
theorem V46 (h : q) (f : Hid q → p := by intro y; refine Z.tk (Dn := fun _ => true) (i := 2) (fun _ => (Jk hs)) ?_; exact y.o) : p := f ⟨h⟩
theorem V47 (h : q) (f : Hid q → p := by intro y; refine Z.skip ?_; exact y.o) : p := f ⟨h⟩
theorem V48 (h : q) (f : Hid q → p := by intro y; refine V3 ?_; refine V9 ?_; exact y.o) : p := f ⟨h⟩
theorem V49 (h : q) (f : Hid q → p := by intro y; refine Z.l rfl rfl (by rfl) (Z.keepS hs) (Z.Yd.convI rfl ⟨_, underlying123⟩ underlying5 (fun hG => Z.wu8 J2)) ?_; exact y.o) : p := f ⟨h⟩
theorem V50 (h : q) (f : Hid q → p := by intro y; refine Z.lb 3 rfl ?_; exact y.o) : p := f ⟨h⟩
theorem V51 (h : q) (f : Hid q → p := by intro y; refine Z.l rfl rfl (by rfl) (Z.keepS hs) (Z.Yd.buildL [(0, 1), (1, 1)] [.int .u64 0, .int .i64 0] rfl rfl J18) ?_; exact y.o) : p := f ⟨h⟩
theorem V52 (h : q) (f : Hid q → p := by intro y; refine Z.tk (Dn := fun _ => true) (i := 5) (fun _ => (Jk hs)) ?_; exact y.o) : p := f ⟨h⟩
theorem V53 (h : q) (f : Hid q → p := by intro y; refine Z.t 3 rfl rfl rfl (by rfl) J3 (Jk hs) (Z.Yd.load rfl isAgg52 (fun _ => Z.cellO hc.1 J16 (hc.2 0 _ rfl))) ?_; refine Z.tb [5] J3 rfl (Jk hs) rfl ?_; refine Z.t 6 rfl rfl rfl (by rfl) J3 (Jk hs) (Z.Yd.nilc rfl rfl) ?_; refine Z.t 7 rfl rfl rfl (by rfl) J3 (Jk hs) (Z.Yd.fieldA (m := 1) rfl J3) ?_; refine Z.t 8 rfl rfl rfl (by rfl) J3 (Jk hs) (Z.Yd.load rfl isAgg22 (fun _ => Z.cellO hc.1 J16 (hc.2 1 _ rfl))) ?_; refine Z.tb [9] J3 rfl (Jk hs) rfl ?_; refine Z.t 10 rfl rfl rfl (by rfl) J3 (Jk hs) (Z.Yd.nilc rfl rfl) ?_; refine Z.t 11 rfl rfl rfl (by rfl) J3 (Jk hs) (Z.Yd.fieldA (m := 2) rfl J3) ?_; refine Z.t 12 rfl rfl rfl (by rfl) J3 (Jk hs) (Z.Yd.load rfl isAgg53 (fun _ => Z.cellO hc.1 J16 (hc.2 2 _ rfl))) ?_; refine Z.tb [14] J3 rfl (Jk hs) rfl ?_; refine Z.t 15 rfl rfl rfl (by rfl) J3 (Jk hs) (Z.Yd.nilc rfl rfl) ?_; refine Z.t 16 rfl rfl rfl (by rfl) J3 (Jk hs) (Z.Yd.fieldA (m := 3) rfl J3) ?_; refine Z.t 17 rfl rfl rfl (by rfl) J3 (Jk hs) (Z.Yd.load rfl isAgg3 (fun _ => Z.cellO hc.1 J16 (hc.2 3 _ rfl))) ?_; refine Z.tn 4 rfl rfl J3 rfl trivial ?_; exact y.o) : p := f ⟨h⟩
theorem V54 (h : q) (f : Hid q → p := by intro y; refine Z.l rfl rfl (by rfl) (Z.keepS hs) (Z.Yd.fieldA (m := 4) rfl J3) ?_; exact y.o) : p := f ⟨h⟩
theorem V55 (h : q) (f : Hid q → p := by intro y; refine Z.l rfl rfl (by rfl) (Z.keepS hs) J31 ?_; refine Z.l rfl rfl (by rfl) (Z.keepS hs) (Z.Yd.lenS rfl underlying22) ?_; exact y.o) : p := f ⟨h⟩
theorem V56 (h : q) (f : Hid q → p := by intro y; refine Z.ZO.alloc rfl rfl (by rfl) zeroValue77 rfl hs ?_; exact y.o) : p := f ⟨h⟩
theorem V57 (h : q) (f : Hid q → p := by intro y; refine Z.ZO.litL (T' := 3) [(0, 1)] [.int .i64 0] rfl rfl (by rfl) rfl rfl J19 hs ?_; exact y.o) : p := f ⟨h⟩
theorem V58 (h : q) (f : Hid q → p := by intro y; refine Z.ZO.litL (T' := 77) [(0, 2)] [.int .i64 0, .slice none 0 0] rfl rfl (by rfl) rfl rfl J19 hs ?_; exact y.o) : p := f ⟨h⟩
theorem V59 (h : q) (f : Hid q → p := by intro y; refine Z.tXP 0 [0, 13, 14, 15, 16] (fun _ _ _ _ _ h => h) rfl rfl rfl (by rfl) J3 (Jk hs) (Z.Yd.pure rfl) ?_; refine Z.tXP 1 [1, 2, 3, 4, 5, 12, 13, 14, 15, 16] (fun _ _ _ _ _ h => h) rfl rfl rfl (by rfl) J3 (Jk hs) (Z.Yd.pure rfl) ?_; refine Z.tXP 2 [2, 3, 4, 5, 12, 13, 14, 15, 16] (fun _ _ _ _ _ h => h) rfl rfl rfl (by rfl) J3 (Jk hs) (Z.Yd.nilc rfl rfl) ?_; refine Z.tXP 3 [3, 4, 5, 12, 13, 14, 15, 16] (fun _ _ _ _ _ h => h) rfl rfl rfl (by rfl) J3 (Jk hs) (Z.Yd.fieldA (m := 1) rfl J3) ?_; exact y.o) : p := f ⟨h⟩
theorem V60 (h : q) (f : Hid q → p := by intro y; refine V6 ?_; refine V0 ?_; exact y.o) : p := f ⟨h⟩
theorem V61 (h : q) (f : Hid q → p := by intro y; refine Z.lnil ?_; exact y.o) : p := f ⟨h⟩
theorem V62 (h : q) (f : Hid q → p := by intro y; refine V32 ?_; refine V2 ?_; exact y.o) : p := f ⟨h⟩
theorem V63 (h : q) (f : Hid q → p := by intro y; refine Z.seq ?_; refine Z.block ?_; exact y.o) : p := f ⟨h⟩
theorem V64 (h : q) (f : Hid q → p := by intro y; refine Z.tk (Dn := fun _ => true) (i := 8) (fun _ => (Jk hs)) ?_; refine V40 ?_; refine Z.only [0, 1, 2, 3] rfl ?_; exact y.o) : p := f ⟨h⟩
theorem V65 (h : q) (f : Hid q → p := by intro y; refine V1 ?_; refine Z.only [0] rfl ?_; exact y.o) : p := f ⟨h⟩
theorem V66 (h : q) (f : Hid q → p := by intro y; refine Z.tn 30 rfl rfl J3 rfl trivial ?_; refine Z.ZO.quiet rfl (by rfl) (Z.keepS hs) (Z.Yd.nilc rfl rfl) ?_; refine Z.tk (Dn := fun j => j != 33) (i := 30) (fun _ => (Jk hs)) ?_; refine Z.tn 31 rfl rfl J3 rfl trivial ?_; refine Z.ZO.quiet rfl (by rfl) (Z.keepS hs) (Z.Yd.fieldA (m := 0) rfl J3) ?_; refine Z.tk (Dn := fun j => j != 33) (i := 31) (fun _ => (Jk hs)) ?_; refine Z.t 32 rfl rfl rfl (by rfl) J3 (Jk hs) (Z.Yd.fieldA (m := 2) rfl J3) ?_; refine Z.tn 33 rfl rfl J3 rfl trivial ?_; refine V41 ?_; exact y.o) : p := f ⟨h⟩
theorem V67 (h : q) (f : Hid q → p := by intro y; refine Z.l rfl rfl (by rfl) (Z.keepS hs) (Z.Yd.elem rfl rfl underlying48 sizeOf5 (fun hG => ⟨J2, J2⟩)) ?_; exact y.o) : p := f ⟨h⟩
theorem V68 (h : q) (f : Hid q → p := by intro y; refine V47 ?_; refine Z.nblock ?_; exact y.o) : p := f ⟨h⟩
theorem V69 (h : q) (f : Hid q → p := by intro y; refine Z.tk (Dn := fun _ => true) (i := 4) (fun _ => (Jk hs)) ?_; exact y.o) : p := f ⟨h⟩
theorem V70 (h : q) (f : Hid q → p := by intro y; refine Z.outDp call26 (mx_caught_pan g11 _ _ _ _ _ [Ent.blk g10 _ _] _ _ (hs.lend (L1 := [Ent.blk g11 _ _, Ent.blk g10 _ _])) call39 (fun W hW ↦ mx_clearPlan g10 _ _ W hW)) ?_; exact y.o) : p := f ⟨h⟩
theorem V71 (h : q) (f : Hid q → p := by intro y; refine Z.ZO.store rfl rfl hs sizeOf31 rfl rfl rfl J1 J9 ?_; exact y.o) : p := f ⟨h⟩
theorem V72 (h : q) (f : Hid q → p := by intro y; refine Z.only [2, 3] rfl ?_; exact y.o) : p := f ⟨h⟩
theorem V73 (h : q) (f : Hid q → p := by intro y; refine Z.l rfl rfl (by rfl) (Z.keepS hs) J26 ?_; exact y.o) : p := f ⟨h⟩
theorem V74 (h : q) (f : Hid q → p := by intro y; refine Z.only [4] rfl ?_; exact y.o) : p := f ⟨h⟩
theorem V75 (h : q) (f : Hid q → p := by intro y; refine Z.ZO.append (i0 := Tryz.t77) (size := 2) (bytes := 32) rfl rfl (by rfl) hs underlying47 J3 rfl rfl rfl rfl J12 rfl rfl J1 J1 J34 J38 J12 J17 J5 ?_; exact y.o) : p := f ⟨h⟩
theorem V76 (h : q) (f : Hid q → p := by intro y; refine Z.l rfl rfl (by rfl) (Z.keepS hs) (Z.Yd.elem rfl rfl underlying22 sizeOf75 (fun hG => ⟨J2, J2⟩)) ?_; exact y.o) : p := f ⟨h⟩
theorem V77 (h : q) (f : Hid q → p := by intro y; refine Z.only [] rfl ?_; refine Z.out0n trivial ?_; exact y.o) : p := f ⟨h⟩
theorem V78 (h : q) (f : Hid q → p := by intro y; refine Z.l rfl rfl (by rfl) (Z.keepS hs) (Z.Yd.fieldA (m := 5) rfl J3) ?_; exact y.o) : p := f ⟨h⟩
theorem V79 (h : q) (f : Hid q → p := by intro y; refine Z.ZO.alloc rfl rfl (by rfl) zeroValue86 rfl hs ?_; exact y.o) : p := f ⟨h⟩
theorem V80 (h : q) (f : Hid q → p := by intro y; refine Z.ZO.call rfl rfl (by rfl) rfl rfl call126 rfl (mc_formats _) ?_; exact y.o) : p := f ⟨h⟩
theorem V81 (h : q) (f : Hid q → p := by intro y; refine Z.ZO.call rfl rfl (by rfl) rfl rfl call162 rfl (mm_bits_ok g T sv l (8 * p) 1 _ hs.lend hl hb J5 J5) ?_; exact y.o) : p := f ⟨h⟩
theorem V82 (h : q) (f : Hid q → p := by intro y; refine Z.tk (Dn := fun _ => true) (i := 6) (fun _ => (Jk hs)) ?_; exact y.o) : p := f ⟨h⟩
theorem V83 (h : q) (f : Hid q → p := by intro y; refine V12 ?_; refine V19 ?_; refine Z.l rfl rfl (by rfl) (Z.keepS hs) J51 ?_; refine Z.l rfl rfl (by rfl) (Z.keepS hs) (Z.Yd.ptrNnil rfl rfl underlying53) ?_; exact y.o) : p := f ⟨h⟩
theorem V84 (h : q) (f : Hid q → p := by intro y; refine V30 ?_; refine V31 ?_; exact y.o) : p := f ⟨h⟩
theorem V85 (h : q) (f : Hid q → p := by intro y; refine Z.l rfl rfl (by rfl) (Z.keepS hs) (Z.Yd.loadA _ rfl isAgg77 (fun _ => Z.cellsB (cs := q.cells) J0) J20) ?_; exact y.o) : p := f ⟨h⟩
theorem V86 (h : q) (f : Hid q → p := by intro y; refine Z.ZO.append (i0 := Tryz.t5) (size := 1) (bytes := 1) rfl rfl (by rfl) hs underlying48 J3 rfl rfl rfl rfl J12 rfl rfl J1 J1 J34 J38 J12 J17 J5 ?_; exact y.o) : p := f ⟨h⟩
theorem V87 (h : q) (f : Hid q → p := by intro y; refine Z.tb [0, 1] J3 rfl (Jk hs) rfl ?_; refine Z.t 2 rfl rfl rfl (by rfl) J3 (Jk hs) (Z.Yd.nilc rfl rfl) ?_; refine Z.t 3 rfl rfl rfl (by rfl) J3 (Jk hs) (Z.Yd.fieldA (m := 0) rfl J3) ?_; exact y.o) : p := f ⟨h⟩
theorem V88 (h : q) (f : Hid q → p := by intro y; refine V4 ?_; refine V36 ?_; refine V13 ?_; refine Z.lsU rfl rfl rfl (by rfl) ?_; refine Z.lsU rfl rfl rfl (by rfl) ?_; refine V36 ?_; refine V14 ?_; exact y.o) : p := f ⟨h⟩
theorem V89 (h : q) (f : Hid q → p := by intro y; refine Z.tkP (Dn := fun j => j != 16) (i := 7) (fun _ => (Jk hs)) ?_; refine Z.tXP 8 [8, 10, 11, 12, 13, 14, 15, 16] (fun _ _ _ _ _ h => h) rfl rfl rfl (by rfl) J3 (Jk hs) (Z.Yd.pure rfl) ?_; refine Z.tXP 9 [9, 10, 11, 12, 13, 14, 15, 16] (fun _ _ _ _ _ h => h) rfl rfl rfl (by rfl) J3 (Jk hs) (Z.Yd.pure rfl) ?_; refine Z.tnP 10 rfl rfl J3 rfl trivial ?_; exact y.o) : p := f ⟨h⟩
theorem V90 (h : q) (f : Hid q → p := by intro y; refine V6 ?_; refine Z.ret ?_; exact y.o) : p := f ⟨h⟩
theorem V91 (h : q) (f : Hid q → p := by intro y; refine V0 ?_; refine V2 ?_; refine V15 ?_; exact y.o) : p := f ⟨h⟩
theorem V92 (h : q) (f : Hid q → p := by intro y; refine V61 ?_; refine Z.only [1, 2, 3] rfl ?_; refine V60 ?_; refine V62 ?_; refine Z.ZO.defer rfl rfl rfl rfl ?_; refine V61 ?_; refine Z.only [1, 2, 3] rfl ?_; exact y.o) : p := f ⟨h⟩
theorem V93 (h : q) (f : Hid q → p := by intro y; refine V42 ?_; refine V32 ?_; refine V33 ?_; exact y.o) : p := f ⟨h⟩
theorem V94 (h : q) (f : Hid q → p := by intro y; refine V1 ?_; refine Z.only [0, 1] rfl ?_; exact y.o) : p := f ⟨h⟩
theorem V95 (h : q) (f : Hid q → p := by intro y; refine Z.tkP (Dn := fun j => j != 16) (i := 12) (fun _ => (Jk hs)) ?_; refine Z.tnP 13 rfl rfl J3 rfl trivial ?_; refine Z.ZO.quiet rfl (by rfl) (Z.keepS hs) (Z.Yd.nilc rfl rfl) ?_; refine Z.tkP (Dn := fun j => j != 16) (i := 13) (fun _ => (Jk hs)) ?_; refine Z.tnP 14 rfl rfl J3 rfl trivial ?_; refine Z.ZO.quiet rfl (by rfl) (Z.keepS hs) (Z.Yd.fieldA (m := 1) rfl J3) ?_; refine Z.tkP (Dn := fun j => j != 16) (i := 14) (fun _ => (Jk hs)) ?_; exact y.o) : p := f ⟨h⟩
theorem V96 (h : q) (f : Hid q → p := by intro y; refine Z.seq ?_; refine Z.drawK (fun _ => true) mixed hs ?_; exact y.o) : p := f ⟨h⟩
theorem V97 (h : q) (f : Hid q → p := by intro y; refine V47 ?_; refine V30 ?_; refine Z.l rfl rfl (by rfl) (Z.keepS hs) J32 ?_; refine V48 ?_; refine V17 ?_; refine Z.l rfl rfl (by rfl) (Z.keepS hs) (Z.Yd.mul rfl rfl (fun hG => Z.wi64 J2)) ?_; refine V5 ?_; exact y.o) : p := f ⟨h⟩
theorem V98 (h : q) (f : Hid q → p := by intro y; refine Z.ZO.alloc rfl rfl (by rfl) zeroValue37 rfl hs ?_; exact y.o) : p := f ⟨h⟩
theorem V99 (h : q) (f : Hid q → p := by intro y; refine Z.l rfl rfl (by rfl) (Z.keepS hs) (Z.Yd.convI rfl ⟨_, underlying3⟩ underlying5 (fun hG => Z.wu8 J2)) ?_; exact y.o) : p := f ⟨h⟩
theorem V100 (h : q) (f : Hid q → p := by intro y; refine V46 ?_; refine Z.t 3 rfl rfl rfl (by rfl) J3 (Jk hs) (Z.Yd.index (v := .agg #[.int .u64 1, .int .i64 15, .int .i64 32767]) rfl rfl J56) ?_; exact y.o) : p := f ⟨h⟩
theorem V101 (h : q) (f : Hid q → p := by intro y; refine Z.ZO.call rfl rfl (by rfl) rfl rfl call144 rfl (group_ok r.group _ hg) ?_; exact y.o) : p := f ⟨h⟩
theorem V102 (h : q) (f : Hid q → p := by intro y; refine Z.ZO.alloc rfl rfl (by rfl) zeroValue211 rfl hs ?_; exact y.o) : p := f ⟨h⟩
theorem V103 (h : q) (f : Hid q → p := by intro y; refine V28 ?_; refine Z.l rfl rfl (by rfl) (Z.keepS hs) (Z.Yd.loadA _ rfl isAgg77 (fun _ W hK j u hu => Z.cellXq (enc := MpV.cells) hx2.sx mp_len hqi hu W hK) J20) ?_; exact y.o) : p := f ⟨h⟩
theorem V104 (h : q) (f : Hid q → p := by intro y; refine V8 ?_; refine V9 ?_; exact y.o) : p := f ⟨h⟩
theorem V105 (h : q) (f : Hid q → p := by intro y; refine V3 ?_; refine Z.l rfl rfl (by rfl) (Z.keepS hs) J57 ?_; refine V11 ?_; refine Z.yes (s := 15) (b := true) rfl rfl rfl ?_; refine Z.yes (s := 19) (b := true) rfl (J16) rfl ?_; refine V4 ?_; refine V36 ?_; refine V36 ?_; refine V20 ?_; refine Z.yes (s := 15) (b := true) rfl rfl rfl ?_; refine V20 ?_; exact y.o) : p := f ⟨h⟩
theorem V106 (h : q) (f : Hid q → p := by intro y; refine Z.ZO.alloc rfl rfl (by rfl) zeroValue215 rfl hs ?_; exact y.o) : p := f ⟨h⟩
theorem V107 (h : q) (f : Hid q → p := by intro y; refine Z.l rfl rfl (by rfl) (Z.keepS hs) J29 ?_; exact y.o) : p := f ⟨h⟩
theorem V108 (h : q) (f : Hid q → p := by intro y; refine Z.tn 7 rfl rfl J3 rfl trivial ?_; refine V7 ?_; exact y.o) : p := f ⟨h⟩
theorem V109 (h : q) (f : Hid q → p := by intro y; refine Z.t 0 rfl rfl rfl (by rfl) J3 (Jk hs) (Z.Yd.fieldA (m := 1) rfl J3) ?_; exact y.o) : p := f ⟨h⟩
theorem V110 (h : q) (f : Hid q → p := by intro y; refine Z.only [0, 2] rfl ?_; refine V84 ?_; refine Z.only [0, 2, 4] rfl ?_; exact y.o) : p := f ⟨h⟩
theorem V111 (h : q) (f : Hid q → p := by intro y; refine Z.l rfl rfl (by rfl) (Z.keepS hs) (Z.Yd.convI rfl ⟨_, underlying3⟩ underlying123 (fun hG => Z.wu64 J2)) ?_; exact y.o) : p := f ⟨h⟩
theorem V112 (h : q) (f : Hid q → p := by intro y; refine Z.ZO.storeR rfl rfl hs sizeOf3 rfl rfl rfl J1 J35 ?_; exact y.o) : p := f ⟨h⟩
theorem V113 (h : q) (f : Hid q → p := by intro y; refine Z.ZO.store rfl rfl hs sizeOf34 rfl rfl rfl J1 J9 ?_; exact y.o) : p := f ⟨h⟩
theorem V114 (h : q) (f : Hid q → p := by intro y; refine Z.ZO.make1 (i0 := Tryz.t3) (bytes := 8) rfl rfl (by rfl) hs underlying34 J3 rfl rfl rfl rfl rfl rfl J5 J17 ?_; exact y.o) : p := f ⟨h⟩
theorem V115 (h : q) (f : Hid q → p := by intro y; refine Z.ZO.call rfl rfl (by rfl) rfl rfl call13 rfl (num29 _ _) ?_; exact y.o) : p := f ⟨h⟩
theorem V116 (h : q) (f : Hid q → p := by intro y; refine Z.l rfl rfl (by rfl) (Z.keepS hs) J30 ?_; exact y.o) : p := f ⟨h⟩
theorem V117 (h : q) (f : Hid q → p := by intro y; refine Z.l rfl rfl (by rfl) (Z.keepS hs) (Z.Yd.quo rfl rfl J33 J37) ?_; exact y.o) : p := f ⟨h⟩
theorem V118 (h : q) (f : Hid q → p := by intro y; refine Z.tk (Dn := fun j => j != 7) (i := 7) (fun h => absurd h J12) ?_; refine V40 ?_; refine Z.only [6] rfl ?_; exact y.o) : p := f ⟨h⟩
theorem V119 (h : q) (f : Hid q → p := by intro y; refine Z.ZO.store rfl rfl hs sizeOf48 rfl rfl rfl J1 J9 ?_; exact y.o) : p := f ⟨h⟩
theorem V120 (h : q) (f : Hid q → p := by intro y; refine V43 ?_; refine V6 ?_; refine V16 ?_; exact y.o) : p := f ⟨h⟩
theorem V121 (h : q) (f : Hid q → p := by intro y; refine V0 ?_; refine V1 ?_; exact y.o) : p := f ⟨h⟩
theorem V122 (h : q) (f : Hid q → p := by intro y; refine V2 ?_; refine V7 ?_; exact y.o) : p := f ⟨h⟩
theorem V123 (h : q) (f : Hid q → p := by intro y; refine V47 ?_; refine V60 ?_; exact y.o) : p := f ⟨h⟩
theorem V124 (h : q) (f : Hid q → p := by intro y; refine V72 ?_; refine V90 ?_; exact y.o) : p := f ⟨h⟩
theorem V125 (h : q) (f : Hid q → p := by intro y; refine V30 ?_; refine V32 ?_; exact y.o) : p := f ⟨h⟩
theorem V126 (h : q) (f : Hid q → p := by intro y; refine Z.lb 5 rfl ?_; refine V61 ?_; exact y.o) : p := f ⟨h⟩
theorem V127 (h : q) (f : Hid q → p := by intro y; refine V42 ?_; refine V33 ?_; exact y.o) : p := f ⟨h⟩
theorem V128 (h : q) (f : Hid q → p := by intro y; refine Z.ZO.quiet rfl (by rfl) (Z.keepS hs) (Z.Yd.nilc rfl rfl) ?_; exact y.o) : p := f ⟨h⟩
theorem V129 (h : q) (f : Hid q → p := by intro y; refine V28 ?_; refine V8 ?_; refine Z.l rfl rfl (by rfl) (Z.keepS hs) (Z.Yd.load rfl isAgg48 (fun _ => Z.cellXf hx2.sx mp_len hqi rfl)) ?_; exact y.o) : p := f ⟨h⟩
theorem V130 (h : q) (f : Hid q → p := by intro y; refine V3 ?_; refine V55 ?_; refine V50 ?_; refine Z.yes (s := 17) (b := false) rfl (J45) rfl ?_; refine Z.le rfl J7 ?_; refine Z.ZO.call rfl rfl (by rfl) rfl rfl call9 rfl (few29 Q k dq 15 l _ (hq.st (Jn hs)) hk hkn (fun x hx ↦ (hg x hx).st (Jn hs))) ?_; exact y.o) : p := f ⟨h⟩
theorem V131 (h : q) (f : Hid q → p := by intro y; refine Z.l rfl rfl (by rfl) (Z.keepS hs) (Z.Yd.elem rfl rfl underlying27 sizeOf50 (fun hG => ⟨J2, J2⟩)) ?_; refine V78 ?_; refine Z.l rfl rfl (by rfl) (Z.keepS hs) (Z.Yd.load rfl isAgg47 (fun _ => Z.cellXf (j := 5) hx2.sx ac9_len hxi rfl)) ?_; exact y.o) : p := f ⟨h⟩
theorem V132 (h : q) (f : Hid q → p := by intro y; refine Z.ZO.litL (T' := 5) [(0, 1)] [.int .u8 0] rfl rfl (by rfl) rfl rfl J19 hs ?_; exact y.o) : p := f ⟨h⟩
theorem V133 (h : q) (f : Hid q → p := by intro y; refine Z.nblock ?_; exact y.o) : p := f ⟨h⟩
theorem V134 (h : q) (f : Hid q → p := by intro y; refine Z.l rfl rfl (by rfl) (Z.keepS hs) (Z.Yd.buildL [(0, 1), (1, 1), (2, 4)] [.bool false, .int .i64 0, .int .i64 0, .int .i64 0, .int .i64 0, .int .i64 0] rfl rfl J18) ?_; exact y.o) : p := f ⟨h⟩
theorem V135 (h : q) (f : Hid q → p := by intro y; refine Z.l rfl rfl (by rfl) (Z.keepS hs) (Z.Yd.buildL [(0, 1), (1, 1), (2, 1), (3, 1)] [.slice none 0 0, .slice none 0 0, .slice none 0 0, .slice none 0 0] rfl rfl J18) ?_; exact y.o) : p := f ⟨h⟩
theorem V136 (h : q) (f : Hid q → p := by intro y; refine V69 ?_; refine Z.tb [7] J3 rfl (Jk hs) rfl ?_; refine Z.t 8 rfl rfl rfl (by rfl) J3 (Jk hs) (Z.Yd.fieldA (m := 4) rfl J3) ?_; refine Z.t 9 rfl rfl rfl (by rfl) J3 (Jk hs) (Z.Yd.fieldA (m := 10) rfl J3) ?_; refine Z.t 10 rfl rfl rfl (by rfl) J3 (Jk hs) J29 ?_; refine Z.tb [11] J3 rfl (Jk hs) rfl ?_; refine Z.t 12 rfl rfl rfl (by rfl) J3 (Jk hs) (Z.Yd.bin rfl rfl J79) ?_; refine Z.tb [13] J3 rfl (Jk hs) rfl ?_; refine V40 ?_; refine Z.only [1, 5, 7, 8, 9, 80] rfl ?_; exact y.o) : p := f ⟨h⟩
theorem V137 (h : q) (f : Hid q → p := by intro y; refine Z.l rfl rfl (by rfl) (Z.keepS hs) (Z.Yd.rem rfl rfl J33 J52) ?_; exact y.o) : p := f ⟨h⟩
theorem V138 (h : q) (f : Hid q → p := by intro y; refine Z.block ?_; refine Z.loopk (ι := Nat) [0, 1, 7] rfl (fun k => [(8, [], .int .i64 (k : Int))]) (fun k wr => (k ≤ n ∧ ∀ x ∈ l.take k, p x = false) ∧ St w [] wr []) (fun k => n - k) 0 J6 ⟨⟨by omega, by simp⟩, hs⟩ ?_; exact y.o) : p := f ⟨h⟩
theorem V139 (h : q) (f : Hid q → p := by intro y; refine V21 ?_; refine Z.l rfl rfl (by rfl) (Z.keepS hs) (Z.Yd.load rfl isAgg3 (fun _ => hcd _)) ?_; exact y.o) : p := f ⟨h⟩
theorem V140 (h : q) (f : Hid q → p := by intro y; refine V44 ?_; refine Z.t 3 rfl rfl rfl (by rfl) J3 (Jk hs) J46 ?_; refine Z.t 4 rfl rfl rfl (by rfl) J3 (Jk hs) (Z.Yd.fieldA (m := 0) rfl J3) ?_; refine Z.t 5 rfl rfl rfl (by rfl) J3 (Jk hs) (Z.Yd.load rfl isAgg3 (fun _ => Z.cellB (cs := q.cells.toArray) J0 rfl)) ?_; refine Z.tn 6 rfl rfl J3 rfl trivial ?_; refine Z.ZO.call rfl rfl (by rfl) rfl rfl call64 rfl (bk_level gb m.b q.lc _ (hs.bkR (sv := sv) (so := so) (m := m.b) (by simp [bkE])) hm.b) ?_; exact y.o) : p := f ⟨h⟩
theorem V141 (h : q) (f : Hid q → p := by intro y; refine Z.seq ?_; exact y.o) : p := f ⟨h⟩
theorem V142 (h : q) (f : Hid q → p := by intro y; refine Z.l rfl rfl (by rfl) (Z.keepS hs) (Z.Yd.loadA _ rfl isAgg77 (fun _ => Z.cellsB (cs := [.int .i64 3, .slice (some ⟨g12, 0, none⟩) 2 2]) J0) J20) ?_; exact y.o) : p := f ⟨h⟩
theorem V143 (h : q) (f : Hid q → p := by intro y; refine Z.ZO.append (i0 := Tryz.t194) (size := 2) (bytes := 16) rfl rfl (by rfl) hs underlying191 J3 rfl rfl rfl rfl J12 rfl rfl J1 J1 J34 J38 J12 J17 J5 ?_; exact y.o) : p := f ⟨h⟩
theorem V144 (h : q) (f : Hid q → p := by intro y; refine Z.ZO.alloc rfl rfl (by rfl) zeroValue41 rfl hs ?_; exact y.o) : p := f ⟨h⟩
theorem V145 (h : q) (f : Hid q → p := by intro y; refine V62 ?_; refine Z.ZO.defer rfl rfl rfl rfl ?_; exact y.o) : p := f ⟨h⟩
theorem V146 (h : q) (f : Hid q → p := by intro y; refine Z.tXP 6 [6, 7, 8, 9, 10, 11, 12, 13, 14, 15, 16] (fun _ _ _ _ _ h => h) rfl rfl rfl (by rfl) J3 (Jk hs) (Z.Yd.loadA _ rfl isAgg77 (fun _ => Z.cellsB (cs := q.cells) J0) J20) ?_; refine Z.tnP 7 rfl rfl J3 rfl trivial ?_; exact y.o) : p := f ⟨h⟩
theorem V147 (h : q) (f : Hid q → p := by intro y; refine V31 ?_; refine Z.only [4, 5] rfl ?_; exact y.o) : p := f ⟨h⟩
theorem V148 (h : q) (f : Hid q → p := by intro y; refine Z.l rfl rfl (by rfl) (Z.keepS hs) (Z.Yd.fieldA (m := 10) rfl J3) ?_; exact y.o) : p := f ⟨h⟩
theorem V149 (h : q) (f : Hid q → p := by intro y; refine Z.tn 5 rfl rfl J3 rfl trivial ?_; exact y.o) : p := f ⟨h⟩
theorem V150 (h : q) (f : Hid q → p := by intro y; refine V47 ?_; refine V6 ?_; refine V63 ?_; exact y.o) : p := f ⟨h⟩
theorem V151 (h : q) (f : Hid q → p := by intro y; refine V0 ?_; refine V31 ?_; exact y.o) : p := f ⟨h⟩
theorem V152 (h : q) (f : Hid q → p := by intro y; refine V11 ?_; refine V2 ?_; exact y.o) : p := f ⟨h⟩
theorem V153 (h : q) (f : Hid q → p := by intro y; refine V52 ?_; refine V40 ?_; refine Z.only [1, 3] rfl ?_; refine V60 ?_; refine Z.l rfl rfl (by rfl) (Z.keepS hs) J28 ?_; refine V104 ?_; exact y.o) : p := f ⟨h⟩
theorem V154 (h : q) (f : Hid q → p := by intro y; refine V121 ?_; refine V43 ?_; refine V90 ?_; exact y.o) : p := f ⟨h⟩
theorem V155 (h : q) (f : Hid q → p := by intro y; refine V1 ?_; refine Z.only [1, 2] rfl ?_; exact y.o) : p := f ⟨h⟩
theorem V156 (h : q) (f : Hid q → p := by intro y; refine Z.l rfl rfl (by rfl) (Z.keepS hs) (Z.Yd.index (v := .agg #[.int .u64 0, .int .i64 7, .int .i64 127]) rfl rfl J56) ?_; refine Z.l rfl rfl (by rfl) (Z.keepS hs) J114 ?_; refine V32 ?_; refine Z.yes (s := 19) (b := false) rfl rfl rfl ?_; refine V14 ?_; refine Z.yes (s := 15) (b := true) rfl rfl rfl ?_; refine V20 ?_; exact y.o) : p := f ⟨h⟩
theorem V157 (h : q) (f : Hid q → p := by intro y; refine V61 ?_; refine Z.only [0, 1, 4, 5] rfl ?_; exact y.o) : p := f ⟨h⟩
theorem V158 (h : q) (f : Hid q → p := by intro y; refine V28 ?_; refine V3 ?_; refine Z.l rfl rfl (by rfl) (Z.keepS hs) (Z.Yd.load rfl isAgg3 (fun _ => Z.cellXf hx2.sx mp_len hqi rfl)) ?_; exact y.o) : p := f ⟨h⟩
theorem V159 (h : q) (f : Hid q → p := by intro y; refine Z.tn 24 rfl rfl J3 rfl trivial ?_; refine V128 ?_; refine Z.tk (Dn := fun j => j != 27) (i := 24) (fun _ => (Jk hs)) ?_; refine Z.tn 25 rfl rfl J3 rfl trivial ?_; refine Z.ZO.quiet rfl (by rfl) (Z.keepS hs) (Z.Yd.fieldA (m := 0) rfl J3) ?_; refine Z.tk (Dn := fun j => j != 27) (i := 25) (fun _ => (Jk hs)) ?_; refine Z.t 26 rfl rfl rfl (by rfl) J3 (Jk hs) (Z.Yd.fieldA (m := 0) rfl J3) ?_; refine Z.tn 27 rfl rfl J3 rfl trivial ?_; refine V41 ?_; exact y.o) : p := f ⟨h⟩
theorem V160 (h : q) (f : Hid q → p := by intro y; refine Z.le rfl J7 ?_; exact y.o) : p := f ⟨h⟩
theorem V161 (h : q) (f : Hid q → p := by intro y; refine Z.outDp call107 (mm_caught_pan g3 _ _ _ _ _ [Ent.blk g2 _ _] _ _ (hs.lend (L2 := [])) call108 (fun W hW ↦ mm_clearP g2 _ _ W hW)) ?_; exact y.o) : p := f ⟨h⟩
theorem V162 (h : q) (f : Hid q → p := by intro y; refine Z.out2 J15 ?_; exact y.o) : p := f ⟨h⟩
theorem V163 (h : q) (f : Hid q → p := by intro y; refine Z.l rfl rfl (by rfl) (Z.keepS hs) (Z.Yd.load rfl isAgg123 (fun _ => Z.cellB (cs := #[.int .u64 fv.1, .int .i64 fv.2.1, .int .i64 fv.2.2]) J0 rfl)) ?_; refine V51 ?_; refine V8 ?_; refine V73 ?_; refine V29 ?_; refine V111 ?_; refine V8 ?_; refine Z.l rfl rfl (by rfl) (Z.keepS hs) (Z.Yd.load rfl isAgg3 (fun _ => Z.cellB (cs := #[.int .u64 fv.1, .int .i64 fv.2.1, .int .i64 fv.2.2]) J0 rfl)) ?_; refine V51 ?_; exact y.o) : p := f ⟨h⟩
theorem V164 (h : q) (f : Hid q → p := by intro y; refine Z.l rfl rfl (by rfl) (Z.keepS hs) (Z.Yd.buildL [(0, 1), (1, 1)] [.int .i64 0, .slice none 0 0] rfl rfl J18) ?_; exact y.o) : p := f ⟨h⟩
theorem V165 (h : q) (f : Hid q → p := by intro y; refine Z.l rfl rfl (by rfl) (Z.keepS hs) J43 ?_; exact y.o) : p := f ⟨h⟩
theorem V166 (h : q) (f : Hid q → p := by intro y; refine Z.l rfl rfl (by rfl) (Z.keepS hs) J32 ?_; exact y.o) : p := f ⟨h⟩
theorem V167 (h : q) (f : Hid q → p := by intro y; refine V49 ?_; refine Z.l rfl rfl (by rfl) (Z.keepS hs) (Z.Yd.index (v := .int .u8 3) rfl rfl J56) ?_; refine V37 ?_; refine V33 ?_; refine V120 ?_; exact y.o) : p := f ⟨h⟩
theorem V168 (h : q) (f : Hid q → p := by intro y; refine Z.ZO.call rfl rfl (by rfl) rfl rfl call145 rfl (must_ok _ 2 _ J45) ?_; exact y.o) : p := f ⟨h⟩
theorem V169 (h : q) (f : Hid q → p := by intro y; refine Z.ZO.litL (T' := 86) [(0, 6)] [.bool false, .int .i64 0, .int .i64 0, .int .i64 0, .int .i64 0, .int .i64 0] rfl rfl (by rfl) rfl rfl J19 hs ?_; exact y.o) : p := f ⟨h⟩
theorem V170 (h : q) (f : Hid q → p := by intro y; refine Z.ZO.store rfl rfl hs sizeOf47 rfl rfl rfl J1 J9 ?_; exact y.o) : p := f ⟨h⟩
theorem V171 (h : q) (f : Hid q → p := by intro y; refine Z.block ?_; exact y.o) : p := f ⟨h⟩
theorem V172 (h : q) (f : Hid q → p := by intro y; refine Z.tn 2 rfl rfl J3 rfl trivial ?_; exact y.o) : p := f ⟨h⟩
theorem V173 (h : q) (f : Hid q → p := by intro y; refine Z.l rfl rfl (by rfl) (Z.keepS hs) (Z.Yd.buildL [(0, 3), (3, 1), (4, 17), (21, 1)] [.slice none 0 0, .slice none 0 0, .int .i64 0, .bool false, .int .i64 0, .int .i64 0, .int .i64 0, .int .i64 0, .int .i64 0, .int .i64 0, .int .i64 0, .int .i64 0, .int .i64 0, .int .i64 0, .bool false, .bool false, .bool false, .bool false, .int .i64 0, .int .i64 0, .int .i64 0, .int .i64 0] rfl rfl J18) ?_; refine V122 ?_; exact y.o) : p := f ⟨h⟩
theorem V174 (h : q) (f : Hid q → p := by intro y; refine Z.enter func181 rfl ntmps181 rfl rfl ?_; exact y.o) : p := f ⟨h⟩
theorem V175 (h : q) (f : Hid q → p := by intro y; refine Z.only [0] rfl ?_; exact y.o) : p := f ⟨h⟩
theorem V176 (h : q) (f : Hid q → p := by intro y; refine Z.tb [0, 1, 2, 3] J3 rfl (Jk hs) rfl ?_; refine Z.t 5 rfl rfl rfl (by rfl) J3 (Jk hs) (Z.Yd.fieldA (m := 3) rfl J3) ?_; refine Z.t 6 rfl rfl rfl (by rfl) J3 (Jk hs) J29 ?_; refine Z.yes (s := 69) (b := false) rfl J16 rfl ?_; refine Z.tn 4 rfl rfl J3 rfl J7 ?_; refine Z.ZO.call rfl rfl (by rfl) rfl rfl call15 rfl (mx_request29 gn gbn grn C kc svn son mk2 hs (fun e he ↦ by simp [he])) ?_; exact y.o) : p := f ⟨h⟩
theorem V177 (h : q) (f : Hid q → p := by intro y; refine Z.l rfl rfl (by rfl) (Z.keepS hs) (Z.Yd.loadA _ rfl isAgg39 (fun _ => Z.cellsB (cs := [.int .i64 rr.c0, .int .i64 rr.c1, .int .i64 rr.c2, .int .i64 rr.c3, .int .i64 rr.now, .int .i64 rr.b0, .int .i64 rr.b1, .int .i64 rr.b2, .int .i64 rr.b3, .int .i64 rr.head, .bool rr.reg, .bool rr.per, .bool rr.pow, .bool rr.fst, .int .i64 rr.last, .int .i64 rr.lastP, .int .i64 rr.told]) J0) J115) ?_; exact y.o) : p := f ⟨h⟩
theorem V178 (h : q) (f : Hid q → p := by intro y; refine Z.l rfl rfl (by rfl) (Z.keepS hs) (Z.Yd.assertYes rfl (by intro v w; kernel_rfl)) ?_; refine V126 ?_; refine Z.only [0, 1, 4, 5, 6] rfl ?_; refine V84 ?_; refine Z.only [0, 1, 4, 5, 16] rfl ?_; exact y.o) : p := f ⟨h⟩
theorem V179 (h : q) (f : Hid q → p := by intro y; refine Z.l rfl rfl (by rfl) (Z.keepS hs) (Z.Yd.bin rfl rfl J79) ?_; exact y.o) : p := f ⟨h⟩
theorem V180 (h : q) (f : Hid q → p := by intro y; refine V6 ?_; refine V171 ?_; exact y.o) : p := f ⟨h⟩
theorem V181 (h : q) (f : Hid q → p := by intro y; refine V10 ?_; refine V60 ?_; exact y.o) : p := f ⟨h⟩
theorem V182 (h : q) (f : Hid q → p := by intro y; refine V141 ?_; refine V0 ?_; exact y.o) : p := f ⟨h⟩
theorem V183 (h : q) (f : Hid q → p := by intro y; refine V2 ?_; refine V25 ?_; exact y.o) : p := f ⟨h⟩
theorem V184 (h : q) (f : Hid q → p := by intro y; refine V50 ?_; refine V61 ?_; exact y.o) : p := f ⟨h⟩
theorem V185 (h : q) (f : Hid q → p := by intro y; refine V3 ?_; refine Z.l rfl rfl (by rfl) (Z.keepS hs) J57 ?_; refine V11 ?_; refine Z.yes (s := 15) (b := true) rfl rfl rfl ?_; refine Z.yes (s := 19) (b := false) rfl (J16) rfl ?_; refine V32 ?_; refine Z.yes (s := 19) (b := false) rfl rfl rfl ?_; refine V160 ?_; refine V80 ?_; exact y.o) : p := f ⟨h⟩
theorem V186 (h : q) (f : Hid q → p := by intro y; refine V1 ?_; refine V120 ?_; exact y.o) : p := f ⟨h⟩
theorem V187 (h : q) (f : Hid q → p := by intro y; refine V47 ?_; refine V84 ?_; refine Z.only [0, 2, 14] rfl ?_; exact y.o) : p := f ⟨h⟩
theorem V188 (h : q) (f : Hid q → p := by intro y; refine Z.tn 19 rfl rfl J3 rfl trivial ?_; refine V128 ?_; refine Z.tk (Dn := fun j => j != 22) (i := 19) (fun _ => (Jk hs)) ?_; refine Z.tn 20 rfl rfl J3 rfl trivial ?_; refine Z.ZO.quiet rfl (by rfl) (Z.keepS hs) (Z.Yd.fieldA (m := 0) rfl J3) ?_; refine Z.tk (Dn := fun j => j != 22) (i := 20) (fun _ => (Jk hs)) ?_; refine Z.t 21 rfl rfl rfl (by rfl) J3 (Jk hs) (Z.Yd.fieldA (m := 1) rfl J3) ?_; refine Z.tn 22 rfl rfl J3 rfl trivial ?_; refine V41 ?_; exact y.o) : p := f ⟨h⟩
theorem V189 (h : q) (f : Hid q → p := by intro y; refine V121 ?_; refine V74 ?_; refine V90 ?_; exact y.o) : p := f ⟨h⟩
theorem V190 (h : q) (f : Hid q → p := by intro y; refine Z.l rfl rfl (by rfl) (Z.keepS hs) (Z.Yd.buildL [(0, 4), (4, 1), (5, 4), (9, 1), (10, 1), (11, 1), (12, 1), (13, 1), (14, 1), (15, 1), (16, 1)] [.int .i64 0, .int .i64 0, .int .i64 0, .int .i64 0, .int .i64 0, .int .i64 0, .int .i64 0, .int .i64 0, .int .i64 0, .int .i64 0, .bool false, .bool false, .bool false, .bool false, .int .i64 0, .int .i64 0, .int .i64 0] rfl rfl J18) ?_; refine V122 ?_; exact y.o) : p := f ⟨h⟩
theorem V191 (h : q) (f : Hid q → p := by intro y; refine V152 ?_; refine Z.ZO.insert rfl rfl hs rfl rfl rfl underlying119 underlying3 J1 (by rfl) ?_; exact y.o) : p := f ⟨h⟩
theorem V192 (h : q) (f : Hid q → p := by intro y; refine V30 ?_; refine V48 ?_; exact y.o) : p := f ⟨h⟩
theorem V193 (h : q) (f : Hid q → p := by intro y; refine Z.tk (Dn := fun _ => true) (i := 0) (fun _ => (Jk hs)) ?_; exact y.o) : p := f ⟨h⟩
theorem V194 (h : q) (f : Hid q → p := by intro y; refine Z.ZO.litL (T' := 211) [(0, 2), (2, 2)] [.int .u64 0, .int .i64 0, .int .u64 0, .int .i64 0] rfl rfl (by rfl) rfl rfl J19 hs ?_; exact y.o) : p := f ⟨h⟩
theorem V195 (h : q) (f : Hid q → p := by intro y; refine Z.tkC (C := Z.lv2 _ _ [17, 18, 19, 20, 21, 22]) (i := 22) ⟨(Jk hs), fun h => absurd h J12⟩ ?_; refine Z.tdC (by rfl) J3 ?_; refine Z.only [0, 4, 18, 19, 20] rfl ?_; refine V133 ?_; exact y.o) : p := f ⟨h⟩
theorem V196 (h : q) (f : Hid q → p := by intro y; refine V151 ?_; refine V124 ?_; exact y.o) : p := f ⟨h⟩
theorem V197 (h : q) (f : Hid q → p := by intro y; refine V62 ?_; refine Z.ZO.call rfl rfl (by rfl) rfl rfl call37 rfl (mx_none g gb _ _ _ _ hc) ?_; exact y.o) : p := f ⟨h⟩
theorem V198 (h : q) (f : Hid q → p := by intro y; refine V109 ?_; refine Z.t 1 rfl rfl rfl (by rfl) J3 (Jk hs) (Z.Yd.load rfl isAgg3 (fun _ => Z.cellO hc.1 J16 (hc.2 1 _ rfl))) ?_; refine Z.t 3 rfl rfl rfl (by rfl) J3 (Jk hs) (Z.Yd.fieldA (m := 2) rfl J3) ?_; refine Z.t 4 rfl rfl rfl (by rfl) J3 (Jk hs) (Z.Yd.loadA _ rfl isAgg37 (fun _ w' hk j u hu => Z.cellO hc.1 J16 (Cel.lvs hc j u hu) w' hk) J100) ?_; exact y.o) : p := f ⟨h⟩
theorem V199 (h : q) (f : Hid q → p := by intro y; refine Z.out1 J7 ?_; exact y.o) : p := f ⟨h⟩
theorem V200 (h : q) (f : Hid q → p := by intro y; refine V8 ?_; refine V73 ?_; refine V29 ?_; exact y.o) : p := f ⟨h⟩
theorem V201 (h : q) (f : Hid q → p := by intro y; refine Z.ZO.alloc rfl rfl (by rfl) zeroValue237 rfl hs ?_; exact y.o) : p := f ⟨h⟩
theorem V202 (h : q) (f : Hid q → p := by intro y; refine Z.l rfl rfl (by rfl) (Z.keepS hs) J39 ?_; exact y.o) : p := f ⟨h⟩
theorem V203 (h : q) (f : Hid q → p := by intro y; refine Z.only [0, 1, 2, 3, 10, 11, 12, 13, 40, 41, 42] rfl ?_; exact y.o) : p := f ⟨h⟩
theorem V204 (h : q) (f : Hid q → p := by intro y; refine Z.ZO.quiet rfl (by rfl) (Z.keepS hs) (Z.Yd.fieldA (m := 1) rfl J3) ?_; refine Z.tkC (C := Z.lv2 _ _ [17, 18, 19, 20, 21, 22]) (i := 21) ⟨(Jk hs), fun h => absurd h J12⟩ ?_; exact y.o) : p := f ⟨h⟩
theorem V205 (h : q) (f : Hid q → p := by intro y; refine Z.only [0, 4, 5, 6, 7, 8, 9, 10] rfl ?_; exact y.o) : p := f ⟨h⟩
theorem V206 (h : q) (f : Hid q → p := by intro y; refine Z.only [2, 4, 6, 8, 9] rfl ?_; exact y.o) : p := f ⟨h⟩
theorem V207 (h : q) (f : Hid q → p := by intro y; refine Z.l rfl rfl (by rfl) (Z.keepS hs) (Z.Yd.load rfl isAgg3 (fun _ => Z.cellB (cs := q.cells.toArray) J0 rfl)) ?_; exact y.o) : p := f ⟨h⟩
theorem V208 (h : q) (f : Hid q → p := by intro y; refine Z.l rfl rfl (by rfl) (Z.keepS hs) (Z.Yd.lenS rfl underlying22) ?_; exact y.o) : p := f ⟨h⟩
theorem V209 (h : q) (f : Hid q → p := by intro y; refine V76 ?_; refine Z.l rfl rfl (by rfl) (Z.keepS hs) (Z.Yd.loadA _ rfl isAgg75 (fun _ W hK j u hu => Z.cellXq (enc := LgV.cells) hx2.sx lg_len hel hu W hK) J127) ?_; exact y.o) : p := f ⟨h⟩
theorem V210 (h : q) (f : Hid q → p := by intro y; refine V6 ?_; refine V141 ?_; exact y.o) : p := f ⟨h⟩
theorem V211 (h : q) (f : Hid q → p := by intro y; refine V0 ?_; refine V94 ?_; refine V60 ?_; refine V50 ?_; refine V2 ?_; exact y.o) : p := f ⟨h⟩
theorem V212 (h : q) (f : Hid q → p := by intro y; refine V32 ?_; refine V12 ?_; refine V8 ?_; refine Z.l rfl rfl (by rfl) (Z.keepS hs) J31 ?_; refine V32 ?_; refine V76 ?_; refine V54 ?_; refine Z.l rfl rfl (by rfl) (Z.keepS hs) (Z.Yd.load rfl isAgg3 (fun _ => Z.cellXf hC2 lg_len hch rfl)) ?_; refine V22 ?_; refine Z.l rfl rfl (by rfl) (Z.keepS hs) (Z.Yd.load rfl isAgg3 (fun _ => Z.cellB (cs := (gcs ((m.b.l.zip dem).take i)).toArray) J0 J108)) ?_; refine V32 ?_; refine V5 ?_; refine V22 ?_; refine V183 ?_; exact y.o) : p := f ⟨h⟩
theorem V213 (h : q) (f : Hid q → p := by intro y; refine V47 ?_; refine V84 ?_; refine Z.only [0, 2, 8] rfl ?_; exact y.o) : p := f ⟨h⟩
theorem V214 (h : q) (f : Hid q → p := by intro y; refine V30 ?_; refine V1 ?_; exact y.o) : p := f ⟨h⟩
theorem V215 (h : q) (f : Hid q → p := by intro y; refine V31 ?_; refine V120 ?_; exact y.o) : p := f ⟨h⟩
theorem V216 (h : q) (f : Hid q → p := by intro y; refine V61 ?_; exact y.o) : p := f ⟨h⟩
theorem V217 (h : q) (f : Hid q → p := by intro y; refine V182 ?_; refine V11 ?_; exact y.o) : p := f ⟨h⟩
theorem V218 (h : q) (f : Hid q → p := by intro y; refine Z.ZO.quiet rfl (by rfl) (Z.keepS hs) (Z.Yd.fieldA (m := 0) rfl J3) ?_; refine Z.tkC (C := Z.lv2 _ _ [17, 18, 19, 20, 21, 22]) (i := 18) ⟨(Jk hs), fun h => absurd h J12⟩ ?_; exact y.o) : p := f ⟨h⟩
theorem V219 (h : q) (f : Hid q → p := by intro y; refine V174 ?_; refine V121 ?_; refine V110 ?_; exact y.o) : p := f ⟨h⟩
theorem V220 (h : q) (f : Hid q → p := by intro y; refine Z.lsU rfl rfl rfl (by rfl) ?_; refine V36 ?_; exact y.o) : p := f ⟨h⟩
theorem V221 (h : q) (f : Hid q → p := by intro y; refine Z.ZO.insert rfl rfl hs rfl rfl rfl underlying264 underlying3 J1 (by rfl) ?_; exact y.o) : p := f ⟨h⟩
theorem V222 (h : q) (f : Hid q → p := by intro y; refine Z.tk (Dn := fun _ => true) (i := 13) (fun _ => (Jk hs)) ?_; exact y.o) : p := f ⟨h⟩
theorem V223 (h : q) (f : Hid q → p := by intro y; refine Z.ZO.appendG (i0 := Tryz.t5) (size := 1) (bytes := 1) rfl rfl (by rfl) hs underlying48 J3 rfl rfl rfl rfl J12 rfl rfl J1 ((hqB.st (Jn hs))) J23 J36 J17 J5 ?_; exact y.o) : p := f ⟨h⟩
theorem V224 (h : q) (f : Hid q → p := by intro y; refine V123 ?_; refine V62 ?_; refine Z.ZO.call rfl rfl (by rfl) rfl rfl hk J16 (hcl _ (St.lend (L1 := L) (L2 := [Ent.blk ge Te #[x]]) (hs.rot (L1 := [_])))) ?_; exact y.o) : p := f ⟨h⟩
theorem V225 (h : q) (f : Hid q → p := by intro y; refine Z.ZO.appendG (i0 := Tryz.t75) (size := 5) (bytes := 40) rfl rfl (by rfl) hs underlying22 J3 rfl rfl rfl rfl J12 rfl rfl J1 (hx.st (Jn hs)) J23 J36 J17 J5 ?_; exact y.o) : p := f ⟨h⟩
theorem V226 (h : q) (f : Hid q → p := by intro y; refine Z.l rfl rfl (by rfl) (Z.keepS hs) (Z.Yd.fieldA (m := 14) rfl J3) ?_; exact y.o) : p := f ⟨h⟩
theorem V227 (h : q) (f : Hid q → p := by intro y; refine Z.ZO.call rfl rfl (by rfl) rfl rfl call168 rfl (rgetbytes_any g T sv l (8 * p) _ _ hs.lend hl J5 hb) ?_; exact y.o) : p := f ⟨h⟩
theorem V228 (h : q) (f : Hid q → p := by intro y; refine Z.tb [0, 1] J3 rfl (Jk hs) rfl ?_; refine Z.t 2 rfl rfl rfl (by rfl) J3 (Jk hs) (Z.Yd.elem rfl rfl underlying34 sizeOf3 (fun hG => ⟨J2, J2⟩)) ?_; exact y.o) : p := f ⟨h⟩
theorem V229 (h : q) (f : Hid q → p := by intro y; refine Z.tb [4, 5] J3 rfl (Jk hs) rfl ?_; refine Z.t 6 rfl rfl rfl (by rfl) J3 (Jk hs) (Z.Yd.elem rfl rfl underlying34 sizeOf3 (fun hG => ⟨J2, J2⟩)) ?_; exact y.o) : p := f ⟨h⟩
theorem V230 (h : q) (f : Hid q → p := by intro y; refine Z.only [6, 7, 8] rfl ?_; refine V90 ?_; exact y.o) : p := f ⟨h⟩
theorem V231 (h : q) (f : Hid q → p := by intro y; refine Z.l rfl rfl (by rfl) (Z.keepS hs) (Z.Yd.fieldA (m := 9) rfl J3) ?_; exact y.o) : p := f ⟨h⟩
theorem V232 (h : q) (f : Hid q → p := by intro y; refine Z.t 6 rfl rfl rfl (by rfl) J3 (Jk hs) (Z.Yd.buildL [(0, 1), (1, 1), (2, 1)] [.slice none 0 0, .slice none 0 0, .int .i64 0] rfl rfl J18) ?_; refine V108 ?_; exact y.o) : p := f ⟨h⟩
theorem V233 (h : q) (f : Hid q → p := by intro y; refine Z.only [0, 1, 2, 3, 8, 9, 10, 21, 22, 23] rfl ?_; exact y.o) : p := f ⟨h⟩
theorem V234 (h : q) (f : Hid q → p := by intro y; refine Z.tb [0] J3 rfl (Jk hs) rfl ?_; exact y.o) : p := f ⟨h⟩
theorem V235 (h : q) (f : Hid q → p := by intro y; refine Z.only [0, 1, 2, 3, 8, 9] rfl ?_; exact y.o) : p := f ⟨h⟩
theorem V236 (h : q) (f : Hid q → p := by intro y; refine Z.tk (Dn := fun _ => true) (i := 7) (fun _ => (Jk hs)) ?_; refine Z.tb [8] J3 rfl (Jk hs) rfl ?_; refine V40 ?_; refine V124 ?_; refine Z.out2 J59 ?_; exact y.o) : p := f ⟨h⟩
theorem V237 (h : q) (f : Hid q → p := by intro y; refine Z.ZO.append (i0 := Tryz.t149) (size := 6) (bytes := 48) rfl rfl (by rfl) hs underlying145 J3 rfl rfl rfl rfl J12 rfl rfl J1 J1 J34 J38 J12 J17 J5 ?_; exact y.o) : p := f ⟨h⟩
theorem V238 (h : q) (f : Hid q → p := by intro y; refine Z.ZO.alloc rfl rfl (by rfl) zeroValue48 rfl hs ?_; exact y.o) : p := f ⟨h⟩
theorem V239 (h : q) (f : Hid q → p := by intro y; refine Z.ZO.alloc rfl rfl (by rfl) zeroValue39 rfl hs ?_; exact y.o) : p := f ⟨h⟩
theorem V240 (h : q) (f : Hid q → p := by intro y; refine V74 ?_; refine V6 ?_; refine V16 ?_; exact y.o) : p := f ⟨h⟩
theorem V241 (h : q) (f : Hid q → p := by intro y; refine V216 ?_; exact y.o) : p := f ⟨h⟩
theorem V242 (h : q) (f : Hid q → p := by intro y; refine V0 ?_; refine V65 ?_; refine V60 ?_; exact y.o) : p := f ⟨h⟩
theorem V243 (h : q) (f : Hid q → p := by intro y; refine V18 ?_; refine Z.l rfl rfl (by rfl) (Z.keepS hs) J83 ?_; refine V2 ?_; refine Z.ZO.litL (T' := 194) [(0, 2)] [.int .i64 0, .int .i64 0] rfl rfl (by rfl) rfl rfl J19 hs ?_; exact y.o) : p := f ⟨h⟩
theorem V244 (h : q) (f : Hid q → p := by intro y; refine Z.only [4, 6, 7, 9] rfl ?_; refine V210 ?_; refine Z.drawK (fun j => j != 7) mixed hs ?_; exact y.o) : p := f ⟨h⟩
theorem V245 (h : q) (f : Hid q → p := by intro y; refine V32 ?_; refine V12 ?_; exact y.o) : p := f ⟨h⟩
theorem V246 (h : q) (f : Hid q → p := by intro y; refine Z.only [1, 2, 4] rfl ?_; refine V192 ?_; refine V11 ?_; refine V48 ?_; refine V31 ?_; refine Z.only [1, 2, 4, 14] rfl ?_; exact y.o) : p := f ⟨h⟩
theorem V247 (h : q) (f : Hid q → p := by intro y; refine V3 ?_; refine Z.l rfl rfl (by rfl) (Z.keepS hs) J31 ?_; exact y.o) : p := f ⟨h⟩
theorem V248 (h : q) (f : Hid q → p := by intro y; refine V26 ?_; refine V1 ?_; exact y.o) : p := f ⟨h⟩
theorem V249 (h : q) (f : Hid q → p := by intro y; refine Z.only [0, 1, 4, 5, 7, 8, 9, 46, 47, 48] rfl ?_; exact y.o) : p := f ⟨h⟩
theorem V250 (h : q) (f : Hid q → p := by intro y; refine Z.ZO.append (i0 := Tryz.t123) (size := 1) (bytes := 8) rfl rfl (by rfl) hs underlying59 J3 rfl rfl rfl rfl J12 rfl rfl J1 J1 J34 J38 J12 J17 J5 ?_; exact y.o) : p := f ⟨h⟩
theorem V251 (h : q) (f : Hid q → p := by intro y; refine Z.ZO.append (i0 := Tryz.t86) (size := 6) (bytes := 48) rfl rfl (by rfl) hs underlying58 J3 rfl rfl rfl rfl J12 rfl rfl J1 J1 J34 J38 J12 J17 J5 ?_; exact y.o) : p := f ⟨h⟩
theorem V252 (h : q) (f : Hid q → p := by intro y; refine Z.only [0, 1, 2, 3, 4, 10, 11] rfl ?_; exact y.o) : p := f ⟨h⟩
theorem V253 (h : q) (f : Hid q → p := by intro y; refine V8 ?_; refine Z.l rfl rfl (by rfl) (Z.keepS hs) (Z.Yd.loadA _ rfl isAgg24 (fun _ => Z.cellsBo (cs := [.slice A n k, .int .i64 a, .int .i64 b, .int .i64 c, .int .i64 d, .bool up]) [.int .i64 a, .int .i64 b, .int .i64 c, .int .i64 d] J0 ⟨[.bool up], rfl⟩) (by exact sizeOf24)) ?_; exact y.o) : p := f ⟨h⟩
theorem V254 (h : q) (f : Hid q → p := by intro y; refine V19 ?_; refine V22 ?_; refine Z.l rfl rfl (by rfl) (Z.keepS hs) (Z.Yd.load rfl isAgg3 (fun _ => Z.cellB (cs := r.cells.toArray) J0 hget)) ?_; exact y.o) : p := f ⟨h⟩
theorem V255 (h : q) (f : Hid q → p := by intro y; refine Z.outDp call107 (mm_caught_pan g5 _ _ _ _ _ [Ent.blk g4 _ _] _ _ (hs.lend (L2 := [])) call121 (fun W hW ↦ mm_clearB g4 _ _ W hW)) ?_; exact y.o) : p := f ⟨h⟩
theorem V256 (h : q) (f : Hid q → p := by intro y; refine Z.l rfl rfl (by rfl) (Z.keepS hs) J47 ?_; exact y.o) : p := f ⟨h⟩
theorem V257 (h : q) (f : Hid q → p := by intro y; refine Z.only [4, 5] rfl ?_; refine V90 ?_; exact y.o) : p := f ⟨h⟩
theorem V258 (h : q) (f : Hid q → p := by intro y; refine V49 ?_; refine Z.l rfl rfl (by rfl) (Z.keepS hs) (Z.Yd.index (v := .int .u8 4) rfl rfl J56) ?_; refine V37 ?_; refine V33 ?_; refine V120 ?_; exact y.o) : p := f ⟨h⟩
theorem V259 (h : q) (f : Hid q → p := by intro y; refine Z.lb 4 rfl ?_; exact y.o) : p := f ⟨h⟩
theorem V260 (h : q) (f : Hid q → p := by intro y; refine Z.tn 4 rfl rfl J3 rfl trivial ?_; exact y.o) : p := f ⟨h⟩
theorem V261 (h : q) (f : Hid q → p := by intro y; refine Z.only [0, 3, 4] rfl ?_; exact y.o) : p := f ⟨h⟩
theorem V262 (h : q) (f : Hid q → p := by intro y; refine Z.tn 6 rfl rfl J3 rfl trivial ?_; exact y.o) : p := f ⟨h⟩
theorem V263 (h : q) (f : Hid q → p := by intro y; refine Z.only [0, 1, 2, 3, 10, 11, 12, 13, 15, 40, 41, 42] rfl ?_; exact y.o) : p := f ⟨h⟩
theorem V264 (h : q) (f : Hid q → p := by intro y; refine Z.only [1] rfl ?_; exact y.o) : p := f ⟨h⟩
theorem V265 (h : q) (f : Hid q → p := by intro y; refine V38 ?_; refine Z.l rfl rfl (by rfl) (Z.keepS hs) J63 ?_; refine Z.l rfl rfl (by rfl) (Z.keepS hs) (Z.Yd.lenS rfl underlying59) ?_; exact y.o) : p := f ⟨h⟩
theorem V266 (h : q) (f : Hid q → p := by intro y; refine V46 ?_; refine Z.t 3 rfl rfl rfl (by rfl) J3 (Jk hs) (Z.Yd.index (v := .agg #[.int .u64 0, .int .i64 7, .int .i64 127]) rfl rfl J56) ?_; exact y.o) : p := f ⟨h⟩
theorem V267 (h : q) (f : Hid q → p := by intro y; refine Z.t 4 rfl rfl rfl (by rfl) J3 (Jk hs) (Z.Yd.fieldA (m := 0) rfl J3) ?_; exact y.o) : p := f ⟨h⟩
theorem V268 (h : q) (f : Hid q → p := by intro y; refine V30 ?_; refine V62 ?_; exact y.o) : p := f ⟨h⟩
theorem V269 (h : q) (f : Hid q → p := by intro y; refine Z.only [0, 3] rfl ?_; exact y.o) : p := f ⟨h⟩
theorem V270 (h : q) (f : Hid q → p := by intro y; refine V133 ?_; refine V6 ?_; exact y.o) : p := f ⟨h⟩
theorem V271 (h : q) (f : Hid q → p := by intro y; refine V241 ?_; exact y.o) : p := f ⟨h⟩
theorem V272 (h : q) (f : Hid q → p := by intro y; refine V150 ?_; refine V0 ?_; exact y.o) : p := f ⟨h⟩
theorem V273 (h : q) (f : Hid q → p := by intro y; refine V175 ?_; refine V60 ?_; refine V31 ?_; refine V240 ?_; exact y.o) : p := f ⟨h⟩
theorem V274 (h : q) (f : Hid q → p := by intro y; refine V2 ?_; refine V56 ?_; exact y.o) : p := f ⟨h⟩
theorem V275 (h : q) (f : Hid q → p := by intro y; refine V27 ?_; refine V1 ?_; exact y.o) : p := f ⟨h⟩
theorem V276 (h : q) (f : Hid q → p := by intro y; refine V14 ?_; refine V32 ?_; exact y.o) : p := f ⟨h⟩
theorem V277 (h : q) (f : Hid q → p := by intro y; refine V11 ?_; refine V12 ?_; exact y.o) : p := f ⟨h⟩
theorem V278 (h : q) (f : Hid q → p := by intro y; refine V8 ?_; refine Z.l rfl rfl (by rfl) (Z.keepS hs) J64 ?_; refine Z.l rfl rfl (by rfl) (Z.keepS hs) (Z.Yd.lenS rfl underlying58) ?_; exact y.o) : p := f ⟨h⟩
theorem V279 (h : q) (f : Hid q → p := by intro y; refine Z.yes (s := 6) (b := true) rfl (rfl) rfl ?_; refine V245 ?_; refine V19 ?_; refine Z.l rfl rfl (by rfl) (Z.keepS hs) (Z.Yd.load rfl isAgg53 (fun _ => Z.cellO hc.1 J16 (hc.2 2 _ rfl))) ?_; refine Z.yes (s := 6) (b := true) rfl rfl rfl ?_; refine V160 ?_; exact y.o) : p := f ⟨h⟩
theorem V280 (h : q) (f : Hid q → p := by intro y; refine V147 ?_; refine V90 ?_; exact y.o) : p := f ⟨h⟩
theorem V281 (h : q) (f : Hid q → p := by intro y; refine Z.l rfl rfl (by rfl) (Z.keepS hs) (Z.Yd.fieldA (m := 11) rfl J3) ?_; exact y.o) : p := f ⟨h⟩
theorem V282 (h : q) (f : Hid q → p := by intro y; refine Z.l rfl rfl (by rfl) (Z.keepS hs) (Z.Yd.fieldA (m := 21) rfl J3) ?_; exact y.o) : p := f ⟨h⟩
theorem V283 (h : q) (f : Hid q → p := by intro y; refine V141 ?_; refine V151 ?_; exact y.o) : p := f ⟨h⟩
theorem V284 (h : q) (f : Hid q → p := by intro y; refine Z.ZO.storeP rfl rfl hs rfl rfl J3 J4 J1 J80 ?_; exact y.o) : p := f ⟨h⟩
theorem V285 (h : q) (f : Hid q → p := by intro y; refine Z.ZO.alloc rfl rfl (by rfl) zeroValue61 rfl hs ?_; exact y.o) : p := f ⟨h⟩
theorem V286 (h : q) (f : Hid q → p := by intro y; refine Z.tk (Dn := fun _ => true) (i := 15) (fun _ => (Jk hs)) ?_; refine Z.t 16 rfl rfl rfl (by rfl) J3 (Jk hs) (Z.Yd.elem rfl rfl underlying34 sizeOf3 (fun hG => ⟨J2, J2⟩)) ?_; refine Z.tn 17 rfl rfl J3 rfl trivial ?_; refine V112 ?_; exact y.o) : p := f ⟨h⟩
theorem V287 (h : q) (f : Hid q → p := by intro y; refine V264 ?_; refine V210 ?_; refine Z.drawL [Ent.blk g1 190 #[.pointer (some ⟨g, 0, none⟩)]] (fun _ => true) mixed hs ?_; exact y.o) : p := f ⟨h⟩
theorem V288 (h : q) (f : Hid q → p := by intro y; refine Z.t 21 rfl rfl rfl (by rfl) J3 (Jk hs) (Z.Yd.mul rfl rfl (fun hG => Z.wi64 J2)) ?_; refine Z.t 22 rfl rfl rfl (by rfl) J3 (Jk hs) (Z.Yd.add rfl rfl (fun hG => Z.wi64 J2)) ?_; refine Z.t 23 rfl rfl rfl (by rfl) J3 (Jk hs) (Z.Yd.min rfl rfl) ?_; exact y.o) : p := f ⟨h⟩
theorem V289 (h : q) (f : Hid q → p := by intro y; refine Z.l rfl rfl (by rfl) (Z.keepS hs) (Z.Yd.mul rfl rfl (fun hG => Z.wi64 J2)) ?_; refine V22 ?_; refine V9 ?_; refine V5 ?_; refine Z.l rfl rfl (by rfl) (Z.keepS hs) (Z.Yd.mul rfl rfl (fun hG => Z.wi64 J2)) ?_; refine V22 ?_; refine V9 ?_; exact y.o) : p := f ⟨h⟩
theorem V290 (h : q) (f : Hid q → p := by intro y; refine V234 ?_; refine Z.t 1 rfl rfl rfl (by rfl) J3 (Jk hs) (Z.Yd.loadA _ rfl isAgg41 (fun _ => Z.cellsB (cs := meC Ra ca Bn dn mk2) J0) J50) ?_; refine Z.tb [2] J3 rfl (Jk hs) rfl ?_; refine Z.tn 3 rfl rfl J3 rfl trivial ?_; refine V7 ?_; exact y.o) : p := f ⟨h⟩
theorem V291 (h : q) (f : Hid q → p := by intro y; refine V3 ?_; refine Z.l rfl rfl (by rfl) (Z.keepS hs) (Z.Yd.load rfl isAgg4 (fun _ => Z.cellO hc.1 J16 (hc.2 0 _ rfl))) ?_; exact y.o) : p := f ⟨h⟩
theorem V292 (h : q) (f : Hid q → p := by intro y; refine V222 ?_; refine Z.t 18 rfl rfl rfl (by rfl) J3 (Jk hs) (Z.Yd.buildL [(0, 1), (1, 1), (2, 1), (3, 1)] [.pointer none, .slice none 0 0, .pointer none, .int .i64 0] rfl rfl J18) ?_; refine Z.tn 19 rfl rfl J3 rfl trivial ?_; refine V15 ?_; exact y.o) : p := f ⟨h⟩
theorem V293 (h : q) (f : Hid q → p := by intro y; refine Z.tb [6] J3 rfl (Jk hs) rfl ?_; refine Z.t 7 rfl rfl rfl (by rfl) J3 (Jk hs) (Z.Yd.nilc rfl rfl) ?_; refine Z.t 8 rfl rfl rfl (by rfl) J3 (Jk hs) (Z.Yd.fieldA (m := 1) rfl J3) ?_; refine Z.t 9 rfl rfl rfl (by rfl) J3 (Jk hs) J25 ?_; exact y.o) : p := f ⟨h⟩
theorem V294 (h : q) (f : Hid q → p := by intro y; refine Z.t 12 rfl rfl rfl (by rfl) J3 (Jk hs) (Z.Yd.elem rfl rfl underlying34 sizeOf3 (fun hG => ⟨J2, J2⟩)) ?_; exact y.o) : p := f ⟨h⟩
theorem V295 (h : q) (f : Hid q → p := by intro y; refine Z.t 9 rfl rfl rfl (by rfl) J3 (Jk hs) (Z.Yd.elemA rfl rfl underlying37 sizeOf3 (fun hG => ⟨J2, J2⟩)) ?_; exact y.o) : p := f ⟨h⟩
theorem V296 (h : q) (f : Hid q → p := by intro y; refine Z.only [10, 11, 124, 125, 126] rfl ?_; exact y.o) : p := f ⟨h⟩
theorem V297 (h : q) (f : Hid q → p := by intro y; refine Z.l rfl rfl (by rfl) (Z.keepS hs) (Z.Yd.loadA _ rfl isAgg41 (fun _ => Z.cellsB (cs := meC A c B d m) J0) J50) ?_; exact y.o) : p := f ⟨h⟩
theorem V298 (h : q) (f : Hid q → p := by intro y; refine V152 ?_; refine Z.ZO.call rfl rfl (by rfl) rfl rfl call66 rfl (mc_Need A n c ps _ (hx.st (Jn hs)) hl J5 hf) ?_; exact y.o) : p := f ⟨h⟩
theorem V299 (h : q) (f : Hid q → p := by intro y; refine V36 ?_; refine V36 ?_; exact y.o) : p := f ⟨h⟩
theorem V300 (h : q) (f : Hid q → p := by intro y; refine V6 ?_; refine V42 ?_; exact y.o) : p := f ⟨h⟩
theorem V301 (h : q) (f : Hid q → p := by intro y; refine V271 ?_; exact y.o) : p := f ⟨h⟩
theorem V302 (h : q) (f : Hid q → p := by intro y; refine V270 ?_; refine V93 ?_; exact y.o) : p := f ⟨h⟩
theorem V303 (h : q) (f : Hid q → p := by intro y; refine V60 ?_; refine V32 ?_; exact y.o) : p := f ⟨h⟩
theorem V304 (h : q) (f : Hid q → p := by intro y; refine V0 ?_; refine V2 ?_; exact y.o) : p := f ⟨h⟩
theorem V305 (h : q) (f : Hid q → p := by intro y; refine V181 ?_; refine V1 ?_; refine V240 ?_; exact y.o) : p := f ⟨h⟩
theorem V306 (h : q) (f : Hid q → p := by intro y; refine V31 ?_; refine Z.only [8, 9, 10] rfl ?_; refine V90 ?_; exact y.o) : p := f ⟨h⟩
theorem V307 (h : q) (f : Hid q → p := by intro y; refine V78 ?_; refine V22 ?_; refine Z.l rfl rfl (by rfl) (Z.keepS hs) (Z.Yd.load rfl isAgg3 (fun hG => Z.cellB J0 J74)) ?_; exact y.o) : p := f ⟨h⟩
theorem V308 (h : q) (f : Hid q → p := by intro y; refine Z.tk (Dn := fun _ => true) (i := 12) (fun _ => (Jk hs)) ?_; refine Z.tb [13] J3 rfl (Jk hs) rfl ?_; refine V40 ?_; exact y.o) : p := f ⟨h⟩
theorem V309 (h : q) (f : Hid q → p := by intro y; refine Z.outp ?_; exact y.o) : p := f ⟨h⟩
theorem V310 (h : q) (f : Hid q → p := by intro y; refine V128 ?_; refine Z.tkC (C := Z.lv2 _ _ [17, 18, 19, 20, 21, 22]) (i := 17) ⟨(Jk hs), fun h => absurd h J12⟩ ?_; exact y.o) : p := f ⟨h⟩
theorem V311 (h : q) (f : Hid q → p := by intro y; refine Z.only [0, 1, 2, 3, 8, 9, 10] rfl ?_; exact y.o) : p := f ⟨h⟩
theorem V312 (h : q) (f : Hid q → p := by intro y; refine Z.tkP (Dn := fun j => j != 16) (i := 16) (fun h => absurd h J12) ?_; refine Z.tdP (by rfl) J3 ?_; refine V77 ?_; exact y.o) : p := f ⟨h⟩
theorem V313 (h : q) (f : Hid q → p := by intro y; refine Z.l rfl rfl (by rfl) (Z.keepS hs) (Z.Yd.ptrNil rfl rfl underlying187) ?_; exact y.o) : p := f ⟨h⟩
theorem V314 (h : q) (f : Hid q → p := by intro y; refine Z.only [1, 2, 3, 6, 9, 10, 11, 12] rfl ?_; exact y.o) : p := f ⟨h⟩
theorem V315 (h : q) (f : Hid q → p := by intro y; refine Z.ZO.call rfl rfl (by rfl) rfl rfl call162 rfl (mm_bits_ok g T sv l (8 * p + 1) 15 _ hs.lend hl hb J5 J5) ?_; exact y.o) : p := f ⟨h⟩
theorem V316 (h : q) (f : Hid q → p := by intro y; refine Z.ZO.call rfl rfl (by rfl) rfl rfl call162 rfl (mm_bits_ok g T sv l (8 * p + 1) 7 _ hs.lend hl hb J5 J5) ?_; exact y.o) : p := f ⟨h⟩
theorem V317 (h : q) (f : Hid q → p := by intro y; refine Z.tk (Dn := fun _ => true) (i := 17) (fun _ => (Jk hs)) ?_; exact y.o) : p := f ⟨h⟩
theorem V318 (h : q) (f : Hid q → p := by intro y; refine Z.l rfl rfl (by rfl) (Z.keepS hs) J55 ?_; exact y.o) : p := f ⟨h⟩
theorem V319 (h : q) (f : Hid q → p := by intro y; refine Z.l rfl rfl (by rfl) (Z.keepS hs) J54 ?_; exact y.o) : p := f ⟨h⟩
theorem V320 (h : q) (f : Hid q → p := by intro y; refine V11 ?_; refine V48 ?_; refine V50 ?_; refine V104 ?_; refine V50 ?_; refine V104 ?_; refine V50 ?_; refine V19 ?_; refine V9 ?_; refine V50 ?_; refine V19 ?_; refine V9 ?_; refine V50 ?_; refine V38 ?_; exact y.o) : p := f ⟨h⟩
theorem V321 (h : q) (f : Hid q → p := by intro y; refine Z.ZO.call rfl rfl (by rfl) rfl rfl call124 rfl (putAll_any g7 _ sv1 _ _ 2 2 (lnF q.l.length) _ hs.lend (by have h0 := Z.blk_lentj hs (j := 0) rfl; exact h0) rfl J5 (by rw [unb_length]; simp; omega) hlnF.1) ?_; exact y.o) : p := f ⟨h⟩
theorem V322 (h : q) (f : Hid q → p := by intro y; refine Z.only [0, 1, 2, 3, 8, 9, 10, 15] rfl ?_; refine V125 ?_; refine V83 ?_; exact y.o) : p := f ⟨h⟩
theorem V323 (h : q) (f : Hid q → p := by intro y; refine V47 ?_; refine Z.out0n trivial ?_; exact y.o) : p := f ⟨h⟩
theorem V324 (h : q) (f : Hid q → p := by intro y; refine V245 ?_; refine V148 ?_; refine Z.l rfl rfl (by rfl) (Z.keepS hs) (Z.Yd.loadA _ rfl isAgg37 (fun _ => hc.part J16 [.int .i64 (m).b0, .int .i64 (m).b1, .int .i64 (m).b2, .int .i64 (m).b3] rfl) J100) ?_; exact y.o) : p := f ⟨h⟩
theorem V325 (h : q) (f : Hid q → p := by intro y; refine V21 ?_; refine Z.l rfl rfl (by rfl) (Z.keepS hs) (Z.Yd.load rfl isAgg3 (fun _ => Z.cellR J0 hcl)) ?_; exact y.o) : p := f ⟨h⟩
theorem V326 (h : q) (f : Hid q → p := by intro y; refine Z.tkP (Dn := fun j => j != 16) (i := 10) (fun _ => (Jk hs)) ?_; refine Z.tnP 11 rfl rfl J3 rfl trivial ?_; exact y.o) : p := f ⟨h⟩
theorem V327 (h : q) (f : Hid q → p := by intro y; refine Z.tkP (Dn := fun j => j != 16) (i := 11) (fun _ => (Jk hs)) ?_; refine Z.tnP 12 rfl rfl J3 rfl trivial ?_; exact y.o) : p := f ⟨h⟩
theorem V328 (h : q) (f : Hid q → p := by intro y; refine Z.l rfl rfl (by rfl) (Z.keepS hs) (Z.Yd.load rfl isAgg3 (fun _ => Z.cellXf hx2.sx lg_len hel rfl)) ?_; exact y.o) : p := f ⟨h⟩
theorem V329 (h : q) (f : Hid q → p := by intro y; refine V3 ?_; refine Z.l rfl rfl (by rfl) (Z.keepS hs) (Z.Yd.load rfl isAgg145 (fun _ => Z.cellO hc.1 J16 (hc.2 0 _ rfl))) ?_; refine Z.l rfl rfl (by rfl) (Z.keepS hs) (Z.Yd.lenS rfl underlying145) ?_; exact y.o) : p := f ⟨h⟩
theorem V330 (h : q) (f : Hid q → p := by intro y; refine V301 ?_; exact y.o) : p := f ⟨h⟩
theorem V331 (h : q) (f : Hid q → p := by intro y; refine V68 ?_; refine V6 ?_; refine V93 ?_; exact y.o) : p := f ⟨h⟩
theorem V332 (h : q) (f : Hid q → p := by intro y; refine V270 ?_; refine V127 ?_; exact y.o) : p := f ⟨h⟩
theorem V333 (h : q) (f : Hid q → p := by intro y; refine V60 ?_; refine V50 ?_; exact y.o) : p := f ⟨h⟩
theorem V334 (h : q) (f : Hid q → p := by intro y; refine V272 ?_; refine V21 ?_; refine Z.l rfl rfl (by rfl) (Z.keepS hs) (Z.Yd.load rfl isAgg3 (fun _ => Z.cellR J0 hyc)) ?_; refine V1 ?_; refine Z.only [10, 11, 17, 124, 125, 126] rfl ?_; refine V300 ?_; refine V116 ?_; refine V32 ?_; refine V17 ?_; refine Z.l rfl rfl (by rfl) (Z.keepS hs) (Z.Yd.max rfl rfl) ?_; refine V2 ?_; refine V57 ?_; exact y.o) : p := f ⟨h⟩
theorem V335 (h : q) (f : Hid q → p := by intro y; refine V206 ?_; refine V133 ?_; refine V302 ?_; refine V206 ?_; exact y.o) : p := f ⟨h⟩
theorem V336 (h : q) (f : Hid q → p := by intro y; refine V0 ?_; refine V65 ?_; exact y.o) : p := f ⟨h⟩
theorem V337 (h : q) (f : Hid q → p := by intro y; refine Z.only [6, 7] rfl ?_; refine V90 ?_; exact y.o) : p := f ⟨h⟩
theorem V338 (h : q) (f : Hid q → p := by intro y; refine Z.enterD func68 rfl ntmps68 rfl rfl ?_; refine V304 ?_; refine V238 ?_; exact y.o) : p := f ⟨h⟩
theorem V339 (h : q) (f : Hid q → p := by intro y; refine V31 ?_; refine V264 ?_; refine V192 ?_; refine V11 ?_; refine V48 ?_; refine V31 ?_; refine Z.only [1, 14] rfl ?_; exact y.o) : p := f ⟨h⟩
theorem V340 (h : q) (f : Hid q → p := by intro y; refine V128 ?_; refine Z.tkC (C := Z.lv2 _ _ [17, 18, 19, 20, 21, 22]) (i := 20) ⟨(Jk hs), fun h => absurd h J12⟩ ?_; exact y.o) : p := f ⟨h⟩
theorem V341 (h : q) (f : Hid q → p := by intro y; refine Z.tk (Dn := fun j => j != 33) (i := 33) (fun h => absurd h J12) ?_; refine V40 ?_; refine Z.only [] rfl ?_; exact y.o) : p := f ⟨h⟩
theorem V342 (h : q) (f : Hid q → p := by intro y; refine V22 ?_; refine Z.l rfl rfl (by rfl) (Z.keepS hs) (Z.Yd.load rfl isAgg3 (fun hG => Z.cellB J0 J86)) ?_; exact y.o) : p := f ⟨h⟩
theorem V343 (h : q) (f : Hid q → p := by intro y; refine V210 ?_; refine Z.drawL [] (fun _ => true) mixed hs ?_; exact y.o) : p := f ⟨h⟩
theorem V344 (h : q) (f : Hid q → p := by intro y; refine Z.ZO.alloc rfl rfl (by rfl) zeroValue149 rfl hs ?_; exact y.o) : p := f ⟨h⟩
theorem V345 (h : q) (f : Hid q → p := by intro y; refine Z.only [0, 2, 7, 8, 10] rfl ?_; exact y.o) : p := f ⟨h⟩
theorem V346 (h : q) (f : Hid q → p := by intro y; refine Z.yes (s := 15) (b := false) rfl hsp15 rfl ?_; exact y.o) : p := f ⟨h⟩
theorem V347 (h : q) (f : Hid q → p := by intro y; refine Z.ZO.callP rfl rfl rfl call162 rfl (mm_bits_bad g T sv l (8 * p + 1) 15 _ hs.lend hl hb J5 J5 J5) ?_; exact y.o) : p := f ⟨h⟩
theorem V348 (h : q) (f : Hid q → p := by intro y; refine Z.only [1, 2, 3, 4, 5, 10, 13, 14, 15] rfl ?_; exact y.o) : p := f ⟨h⟩
theorem V349 (h : q) (f : Hid q → p := by intro y; refine Z.ZO.call rfl rfl (by rfl) rfl rfl call116 rfl (mr_Control _ _) ?_; exact y.o) : p := f ⟨h⟩
theorem V350 (h : q) (f : Hid q → p := by intro y; refine Z.tn 13 rfl rfl J3 rfl trivial ?_; exact y.o) : p := f ⟨h⟩
theorem V351 (h : q) (f : Hid q → p := by intro y; refine Z.ZO.alloc rfl rfl (by rfl) zeroValue36 rfl hs ?_; exact y.o) : p := f ⟨h⟩
theorem V352 (h : q) (f : Hid q → p := by intro y; refine Z.only [0, 4] rfl ?_; exact y.o) : p := f ⟨h⟩
theorem V353 (h : q) (f : Hid q → p := by intro y; refine Z.l rfl rfl (by rfl) (Z.keepS hs) (Z.Yd.lenS rfl underlying27) ?_; exact y.o) : p := f ⟨h⟩
theorem V354 (h : q) (f : Hid q → p := by intro y; refine Z.ZO.alloc rfl rfl (by rfl) zeroValue3 rfl hs ?_; exact y.o) : p := f ⟨h⟩
theorem V355 (h : q) (f : Hid q → p := by intro y; refine Z.ZO.call rfl rfl (by rfl) rfl rfl call155 rfl (dbits_ok gr _ sv l 0 2 _ hs.lend J5 hb J5 J5) ?_; exact y.o) : p := f ⟨h⟩
theorem V356 (h : q) (f : Hid q → p := by intro y; refine Z.ZO.call rfl rfl (by rfl) rfl rfl call125 rfl (mc_extra q _) ?_; exact y.o) : p := f ⟨h⟩
theorem V357 (h : q) (f : Hid q → p := by intro y; refine Z.ZO.callP rfl rfl rfl call162 rfl (mm_bits_bad g T sv l (8 * p) 1 _ hs.lend hl hb J5 J5 J5) ?_; exact y.o) : p := f ⟨h⟩
theorem V358 (h : q) (f : Hid q → p := by intro y; refine Z.yes (s := 40) (b := false) rfl rfl rfl ?_; exact y.o) : p := f ⟨h⟩
theorem V359 (h : q) (f : Hid q → p := by intro y; refine V211 ?_; refine Z.ZO.callP rfl rfl rfl call109 rfl (mm_must_bad _ e _ (by simpa using he)) ?_; exact y.o) : p := f ⟨h⟩
theorem V360 (h : q) (f : Hid q → p := by intro y; refine V330 ?_; exact y.o) : p := f ⟨h⟩
theorem V361 (h : q) (f : Hid q → p := by intro y; refine V47 ?_; refine V6 ?_; exact y.o) : p := f ⟨h⟩
theorem V362 (h : q) (f : Hid q → p := by intro y; refine V157 ?_; refine V60 ?_; refine V145 ?_; refine V157 ?_; refine V60 ?_; refine Z.lb 6 rfl ?_; refine V2 ?_; refine Z.ZO.call rfl rfl (by rfl) rfl rfl call109 rfl (mm_must_ok _ 2 _ J45) ?_; exact y.o) : p := f ⟨h⟩
theorem V363 (h : q) (f : Hid q → p := by intro y; refine V0 ?_; refine V32 ?_; exact y.o) : p := f ⟨h⟩
theorem V364 (h : q) (f : Hid q → p := by intro y; refine V1 ?_; refine Z.only [2, 4, 6, 8, 9, 15] rfl ?_; refine V300 ?_; refine V8 ?_; refine Z.l rfl rfl (by rfl) (Z.keepS hs) J64 ?_; refine Z.l rfl rfl (by rfl) (Z.keepS hs) (Z.Yd.loadA _ rfl isAgg86 (fun _ => Z.cellsB (cs := (repV q.lc q.l).cells) J0) J126) ?_; exact y.o) : p := f ⟨h⟩
theorem V365 (h : q) (f : Hid q → p := by intro y; refine V118 ?_; refine V90 ?_; refine Z.out1 J48 ?_; exact y.o) : p := f ⟨h⟩
theorem V366 (h : q) (f : Hid q → p := by intro y; refine V150 ?_; refine V151 ?_; refine Z.only [0, 1, 5, 7, 8] rfl ?_; refine V333 ?_; refine V21 ?_; refine Z.l rfl rfl (by rfl) (Z.keepS hs) (Z.Yd.load rfl isAgg3 (fun hG => Z.cellS hx2 rfl J2 J2)) ?_; exact y.o) : p := f ⟨h⟩
theorem V367 (h : q) (f : Hid q → p := by intro y; refine V123 ?_; refine V11 ?_; exact y.o) : p := f ⟨h⟩
theorem V368 (h : q) (f : Hid q → p := by intro y; refine V272 ?_; refine V28 ?_; refine Z.l rfl rfl (by rfl) (Z.keepS hs) (Z.Yd.loadA _ rfl isAgg77 (fun _ W hK j u hu => Z.cellXq (enc := MpV.cells) hx2 mp_len hqi hu W hK) J20) ?_; refine V274 ?_; exact y.o) : p := f ⟨h⟩
theorem V369 (h : q) (f : Hid q → p := by intro y; refine Z.only [0, 1, 7, 8] rfl ?_; refine V121 ?_; refine Z.only [0, 1, 7, 8, 9] rfl ?_; refine V210 ?_; exact y.o) : p := f ⟨h⟩
theorem V370 (h : q) (f : Hid q → p := by intro y; refine Z.tk (Dn := fun _ => true) (i := 11) (fun _ => (Jk hs)) ?_; refine Z.tb [12] J3 rfl (Jk hs) rfl ?_; exact y.o) : p := f ⟨h⟩
theorem V371 (h : q) (f : Hid q → p := by intro y; refine Z.l rfl rfl (by rfl) (Z.keepS hs) (Z.Yd.fieldA (m := 12) rfl J3) ?_; exact y.o) : p := f ⟨h⟩
theorem V372 (h : q) (f : Hid q → p := by intro y; refine Z.ZO.call rfl rfl (by rfl) rfl rfl call164 rfl (mc_sdu _ _) ?_; exact y.o) : p := f ⟨h⟩
theorem V373 (h : q) (f : Hid q → p := by intro y; refine Z.ZO.call rfl rfl (by rfl) rfl rfl call115 rfl (mr_sdu _ _) ?_; exact y.o) : p := f ⟨h⟩
theorem V374 (h : q) (f : Hid q → p := by intro y; refine Z.l rfl rfl (by rfl) (Z.keepS hs) (Z.Yd.loadA _ rfl isAgg26 (fun _ => Z.cellsB (cs := [.slice A ls.length cc, .int .i64 a, .int .i64 b, .int .i64 c, .int .i64 d, .bool up]) J0) J116) ?_; exact y.o) : p := f ⟨h⟩
theorem V375 (h : q) (f : Hid q → p := by intro y; refine V67 ?_; refine Z.l rfl rfl (by rfl) (Z.keepS hs) (Z.Yd.load rfl isAgg5 (fun _ => hcl _)) ?_; exact y.o) : p := f ⟨h⟩
theorem V376 (h : q) (f : Hid q → p := by intro y; refine Z.tkC (C := Z.lv2 _ _ [17, 18, 19, 20, 21, 22]) (i := 19) ⟨(Jk hs), fun h => absurd h J12⟩ ?_; exact y.o) : p := f ⟨h⟩
theorem V377 (h : q) (f : Hid q → p := by intro y; refine Z.enterD func106 rfl ntmps106 rfl rfl ?_; refine V91 ?_; exact y.o) : p := f ⟨h⟩
theorem V378 (h : q) (f : Hid q → p := by intro y; refine Z.only [0, 1] rfl ?_; exact y.o) : p := f ⟨h⟩
theorem V379 (h : q) (f : Hid q → p := by intro y; refine Z.ZO.call rfl rfl (by rfl) rfl rfl call10 rfl (works29 _) ?_; exact y.o) : p := f ⟨h⟩
theorem V380 (h : q) (f : Hid q → p := by intro y; refine V125 ?_; refine Z.l rfl rfl (by rfl) (Z.keepS hs) (Z.Yd.ptrNil rfl rfl underlying245) ?_; exact y.o) : p := f ⟨h⟩
theorem V381 (h : q) (f : Hid q → p := by intro y; refine V211 ?_; refine Z.ZO.call rfl rfl (by rfl) rfl rfl call109 rfl (mm_must_ok _ 0 _ J16) ?_; exact y.o) : p := f ⟨h⟩
theorem V382 (h : q) (f : Hid q → p := by intro y; refine Z.l rfl rfl (by rfl) (Z.keepS hs) (Z.Yd.loadA _ rfl isAgg26 (fun _ => Z.cellsB (cs := [.slice A n cc, .int .i64 a, .int .i64 b, .int .i64 c, .int .i64 d, .bool up]) J0) J116) ?_; exact y.o) : p := f ⟨h⟩
theorem V383 (h : q) (f : Hid q → p := by intro y; refine Z.goto ?_; refine Z.gthen ?_; refine Z.gjump ?_; exact y.o) : p := f ⟨h⟩
theorem V384 (h : q) (f : Hid q → p := by intro y; refine V12 ?_; refine V3 ?_; exact y.o) : p := f ⟨h⟩
theorem V385 (h : q) (f : Hid q → p := by intro y; refine Z.l rfl rfl (by rfl) (Z.keepS hs) J46 ?_; exact y.o) : p := f ⟨h⟩
theorem V386 (h : q) (f : Hid q → p := by intro y; refine Z.tkC (C := Z.lv2 _ _ [17, 18, 19, 20, 21, 22]) (i := 15) ⟨(Jk hs), fun _ => (Jk hs)⟩ ?_; exact y.o) : p := f ⟨h⟩
theorem V387 (h : q) (f : Hid q → p := by intro y; refine Z.tkC (C := Z.lv2 _ _ [17, 18, 19, 20, 21, 22]) (i := 16) ⟨(Jk hs), fun _ => (Jk hs)⟩ ?_; exact y.o) : p := f ⟨h⟩
theorem V388 (h : q) (f : Hid q → p := by intro y; refine Z.t 14 rfl rfl rfl (by rfl) J3 (Jk hs) (Z.Yd.elem rfl rfl underlying34 sizeOf3 (fun hG => ⟨J2, J2⟩)) ?_; refine Z.tn 15 rfl rfl J3 rfl trivial ?_; refine V112 ?_; exact y.o) : p := f ⟨h⟩
theorem V389 (h : q) (f : Hid q → p := by intro y; refine Z.tkC (C := Z.lv2 _ _ [17, 18, 19, 20, 21, 22]) (i := 9) ⟨(Jk hs), fun _ => (Jk hs)⟩ ?_; exact y.o) : p := f ⟨h⟩
theorem V390 (h : q) (f : Hid q → p := by intro y; refine V360 ?_; exact y.o) : p := f ⟨h⟩
theorem V391 (h : q) (f : Hid q → p := by intro y; refine V74 ?_; refine V60 ?_; refine V215 ?_; exact y.o) : p := f ⟨h⟩
theorem V392 (h : q) (f : Hid q → p := by intro y; refine V68 ?_; refine V6 ?_; refine V127 ?_; exact y.o) : p := f ⟨h⟩
theorem V393 (h : q) (f : Hid q → p := by intro y; refine V2 ?_; refine V41 ?_; exact y.o) : p := f ⟨h⟩
theorem V394 (h : q) (f : Hid q → p := by intro y; refine V0 ?_; refine V94 ?_; exact y.o) : p := f ⟨h⟩
theorem V395 (h : q) (f : Hid q → p := by intro y; refine V17 ?_; refine V1 ?_; exact y.o) : p := f ⟨h⟩
theorem V396 (h : q) (f : Hid q → p := by intro y; refine V126 ?_; refine Z.only [2, 4, 6, 8, 9, 13] rfl ?_; refine V300 ?_; refine V38 ?_; refine Z.l rfl rfl (by rfl) (Z.keepS hs) J63 ?_; refine V62 ?_; refine Z.ZO.litL (T' := 123) [(0, 1)] [.int .u64 0] rfl rfl (by rfl) rfl rfl J19 hs ?_; exact y.o) : p := f ⟨h⟩
theorem V397 (h : q) (f : Hid q → p := by intro y; refine V3 ?_; refine V165 ?_; refine V32 ?_; exact y.o) : p := f ⟨h⟩
theorem V398 (h : q) (f : Hid q → p := by intro y; refine Z.enter func154 rfl ntmps154 rfl rfl ?_; refine V91 ?_; exact y.o) : p := f ⟨h⟩
theorem V399 (h : q) (f : Hid q → p := by intro y; refine V222 ?_; refine Z.tb [14] J3 rfl (Jk hs) rfl ?_; refine V40 ?_; refine Z.only [1, 7, 8, 9, 10, 11, 12] rfl ?_; refine V210 ?_; refine Z.drawK (fun j => j != 3) mixed hs ?_; exact y.o) : p := f ⟨h⟩
theorem V400 (h : q) (f : Hid q → p := by intro y; refine V124 ?_; refine Z.outDr call152 (caught_ret g3 _ _ _) ?_; exact y.o) : p := f ⟨h⟩
theorem V401 (h : q) (f : Hid q → p := by intro y; refine Z.only [0, 1, 2, 3, 10, 11, 12, 13, 14, 15, 40, 41, 42] rfl ?_; exact y.o) : p := f ⟨h⟩
theorem V402 (h : q) (f : Hid q → p := by intro y; refine V19 ?_; refine V22 ?_; refine V183 ?_; exact y.o) : p := f ⟨h⟩
theorem V403 (h : q) (f : Hid q → p := by intro y; refine V10 ?_; refine V30 ?_; exact y.o) : p := f ⟨h⟩
theorem V404 (h : q) (f : Hid q → p := by intro y; refine V109 ?_; refine Z.t 1 rfl rfl rfl (by rfl) J3 (Jk hs) J25 ?_; exact y.o) : p := f ⟨h⟩
theorem V405 (h : q) (f : Hid q → p := by intro y; refine Z.ZO.appendG (i0 := Tryz.t5) (size := 1) (bytes := 1) rfl rfl (by rfl) hs underlying48 J3 rfl rfl rfl rfl J12 rfl rfl J1 (SX.row_slB hs (j := 1) rfl) J23 J36 J17 J5 ?_; exact y.o) : p := f ⟨h⟩
theorem V406 (h : q) (f : Hid q → p := by intro y; refine Z.enter func161 rfl ntmps161 rfl rfl ?_; refine V336 ?_; refine V125 ?_; refine Z.l rfl rfl (by rfl) (Z.keepS hs) (Z.Yd.sliceNil rfl rfl underlying48) ?_; exact y.o) : p := f ⟨h⟩
theorem V407 (h : q) (f : Hid q → p := by intro y; refine Z.only [4, 5, 6, 7, 36, 37, 38] rfl ?_; exact y.o) : p := f ⟨h⟩
theorem V408 (h : q) (f : Hid q → p := by intro y; refine V8 ?_; refine V73 ?_; refine V67 ?_; refine Z.l rfl rfl (by rfl) (Z.keepS hs) J49 ?_; exact y.o) : p := f ⟨h⟩
theorem V409 (h : q) (f : Hid q → p := by intro y; refine V122 ?_; exact y.o) : p := f ⟨h⟩
theorem V410 (h : q) (f : Hid q → p := by intro y; refine Z.only [2, 3, 4, 6, 7, 9] rfl ?_; refine V333 ?_; refine Z.yes (s := 40) (b := true) rfl (J16) rfl ?_; refine V4 ?_; refine V13 ?_; refine V220 ?_; refine V20 ?_; exact y.o) : p := f ⟨h⟩
theorem V411 (h : q) (f : Hid q → p := by intro y; refine Z.only [2, 3, 6] rfl ?_; exact y.o) : p := f ⟨h⟩
theorem V412 (h : q) (f : Hid q → p := by intro y; refine Z.tn 8 rfl rfl J3 rfl trivial ?_; exact y.o) : p := f ⟨h⟩
theorem V413 (h : q) (f : Hid q → p := by intro y; refine V151 ?_; refine Z.only [1, 5] rfl ?_; exact y.o) : p := f ⟨h⟩
theorem V414 (h : q) (f : Hid q → p := by intro y; refine Z.yes (s := 21) (b := false) rfl hsp21 rfl ?_; exact y.o) : p := f ⟨h⟩
theorem V415 (h : q) (f : Hid q → p := by intro y; refine Z.tnS 132 false 28 rfl rfl J3 rfl rfl J16 rfl (by rfl) (fun _ => (Jk hs)) ?_; refine Z.t 29 rfl rfl rfl (by rfl) J3 (Jk hs) (Z.Yd.pickT rfl rfl) ?_; refine V66 ?_; exact y.o) : p := f ⟨h⟩
theorem V416 (h : q) (f : Hid q → p := by intro y; refine Z.tk (Dn := fun _ => true) (i := 7) (fun _ => (Jk hs)) ?_; refine Z.tb [9, 10, 11] J3 rfl (Jk hs) rfl ?_; refine Z.tn 12 rfl rfl J3 rfl trivial ?_; refine V7 ?_; exact y.o) : p := f ⟨h⟩
theorem V417 (h : q) (f : Hid q → p := by intro y; refine V367 ?_; refine V49 ?_; refine Z.l rfl rfl (by rfl) (Z.keepS hs) (Z.Yd.index (v := .int .u8 2) rfl rfl J56) ?_; refine V37 ?_; refine V33 ?_; refine V120 ?_; exact y.o) : p := f ⟨h⟩
theorem V418 (h : q) (f : Hid q → p := by intro y; refine V180 ?_; exact y.o) : p := f ⟨h⟩
theorem V419 (h : q) (f : Hid q → p := by intro y; refine Z.tk (Dn := fun _ => true) (i := 9) (fun _ => (Jk hs)) ?_; exact y.o) : p := f ⟨h⟩
theorem V420 (h : q) (f : Hid q → p := by intro y; refine V390 ?_; exact y.o) : p := f ⟨h⟩
theorem V421 (h : q) (f : Hid q → p := by intro y; refine V42 ?_; refine V32 ?_; refine Z.l rfl rfl (by rfl) (Z.keepS hs) (Z.Yd.iface rfl J129) ?_; refine V2 ?_; refine Z.ZO.panic rfl rfl ?_; refine V309 ?_; exact y.o) : p := f ⟨h⟩
theorem V422 (h : q) (f : Hid q → p := by intro y; refine V6 ?_; refine V16 ?_; exact y.o) : p := f ⟨h⟩
theorem V423 (h : q) (f : Hid q → p := by intro y; refine V60 ?_; refine V31 ?_; exact y.o) : p := f ⟨h⟩
theorem V424 (h : q) (f : Hid q → p := by intro y; refine V1 ?_; refine Z.only [3, 4] rfl ?_; refine V333 ?_; exact y.o) : p := f ⟨h⟩
theorem V425 (h : q) (f : Hid q → p := by intro y; refine Z.enter func165 rfl ntmps165 rfl rfl ?_; refine V91 ?_; exact y.o) : p := f ⟨h⟩
theorem V426 (h : q) (f : Hid q → p := by intro y; refine V74 ?_; refine V90 ?_; exact y.o) : p := f ⟨h⟩
theorem V427 (h : q) (f : Hid q → p := by intro y; refine V47 ?_; refine V30 ?_; exact y.o) : p := f ⟨h⟩
theorem V428 (h : q) (f : Hid q → p := by intro y; refine V82 ?_; refine Z.tb [7, 8, 9, 10, 11] J3 rfl (Jk hs) rfl ?_; refine V40 ?_; refine Z.only [0, 1, 2, 3, 8, 9, 10, 14, 21, 22, 23] rfl ?_; refine V300 ?_; refine V62 ?_; exact y.o) : p := f ⟨h⟩
theorem V429 (h : q) (f : Hid q → p := by intro y; refine V0 ?_; refine V23 ?_; refine V409 ?_; exact y.o) : p := f ⟨h⟩
theorem V430 (h : q) (f : Hid q → p := by intro y; refine V418 ?_; exact y.o) : p := f ⟨h⟩
theorem V431 (h : q) (f : Hid q → p := by intro y; refine Z.ZO.appendG (i0 := Tryz.t3) (size := 1) (bytes := 8) rfl rfl (by rfl) hs underlying34 J3 rfl rfl rfl rfl J12 rfl rfl J1 (hxo.st (Jn hs)) J23 J36 J17 J5 ?_; exact y.o) : p := f ⟨h⟩
theorem V432 (h : q) (f : Hid q → p := by intro y; refine Z.outD1 call203 (back8 g7 g8 g3 g6 g T svb _ _ a _ _ (St.lend (L1 := dfL _ _ _ _ _ _ _ _ _ _ _ _) (L2 := [_, _]) (hs.sel [3, 2, 5, 4, 0, 1, 6] J12))) ?_; exact y.o) : p := f ⟨h⟩
theorem V433 (h : q) (f : Hid q → p := by intro y; refine Z.ZO.litL (T' := 211) [(0, 2), (2, 2), (4, 2)] [.int .u64 0, .int .i64 0, .int .u64 0, .int .i64 0, .int .u64 0, .int .i64 0] rfl rfl (by rfl) rfl rfl J19 hs ?_; exact y.o) : p := f ⟨h⟩
theorem V434 (h : q) (f : Hid q → p := by intro y; refine V149 ?_; refine V7 ?_; exact y.o) : p := f ⟨h⟩
theorem V435 (h : q) (f : Hid q → p := by intro y; refine Z.ZO.store rfl rfl hs sizeOf30 rfl rfl rfl J1 J9 ?_; exact y.o) : p := f ⟨h⟩
theorem V436 (h : q) (f : Hid q → p := by intro y; refine Z.yes (s := 42) (b := false) rfl rfl rfl ?_; exact y.o) : p := f ⟨h⟩
theorem V437 (h : q) (f : Hid q → p := by intro y; refine Z.t 8 rfl rfl rfl (by rfl) J3 (Jk hs) (Z.Yd.add rfl rfl (fun hG => Z.wi64 J2)) ?_; exact y.o) : p := f ⟨h⟩
theorem V438 (h : q) (f : Hid q → p := by intro y; refine Z.yes (s := 17) (b := false) rfl rfl rfl ?_; exact y.o) : p := f ⟨h⟩
theorem V439 (h : q) (f : Hid q → p := by intro y; refine Z.only [0, 4, 5, 6, 7, 8, 9, 10, 85] rfl ?_; exact y.o) : p := f ⟨h⟩
theorem V440 (h : q) (f : Hid q → p := by intro y; refine Z.only [0, 1, 4, 5, 7, 8, 9, 11, 12, 46, 47, 48] rfl ?_; exact y.o) : p := f ⟨h⟩
theorem V441 (h : q) (f : Hid q → p := by intro y; refine Z.outDp call26 (mx_caught_pan g5 _ _ _ _ _ [Ent.blk g4 _ _] _ _ (hs.lend (L2 := [])) call50 (fun W hW ↦ mx_clearRec g4 _ _ _ _ _ W hW)) ?_; exact y.o) : p := f ⟨h⟩
theorem V442 (h : q) (f : Hid q → p := by intro y; refine Z.only [1, 2, 3, 6] rfl ?_; exact y.o) : p := f ⟨h⟩
theorem V443 (h : q) (f : Hid q → p := by intro y; refine Z.only [2, 5, 6, 7] rfl ?_; exact y.o) : p := f ⟨h⟩
theorem V444 (h : q) (f : Hid q → p := by intro y; refine V19 ?_; refine V9 ?_; exact y.o) : p := f ⟨h⟩
theorem V445 (h : q) (f : Hid q → p := by intro y; refine V272 ?_; refine V11 ?_; exact y.o) : p := f ⟨h⟩
theorem V446 (h : q) (f : Hid q → p := by intro y; refine Z.only [1, 2, 3, 6, 9] rfl ?_; exact y.o) : p := f ⟨h⟩
theorem V447 (h : q) (f : Hid q → p := by intro y; refine Z.only [1, 2, 3, 4, 5] rfl ?_; exact y.o) : p := f ⟨h⟩
theorem V448 (h : q) (f : Hid q → p := by intro y; refine Z.ZO.call rfl rfl (by rfl) rfl rfl call14 rfl (act29y gi gbi gri C kc svi soi Ra ca Rc cb2 mk y _ hs.lend hmo J119 J120 J131 (hgy.sx hfy hs)) ?_; exact y.o) : p := f ⟨h⟩
theorem V449 (h : q) (f : Hid q → p := by intro y; refine V3 ?_; refine V104 ?_; refine V3 ?_; refine V104 ?_; refine V17 ?_; refine V3 ?_; refine V48 ?_; refine V3 ?_; refine V48 ?_; refine V17 ?_; exact y.o) : p := f ⟨h⟩
theorem V450 (h : q) (f : Hid q → p := by intro y; refine V420 ?_; exact y.o) : p := f ⟨h⟩
theorem V451 (h : q) (f : Hid q → p := by intro y; refine V2 ?_; refine V71 ?_; exact y.o) : p := f ⟨h⟩
theorem V452 (h : q) (f : Hid q → p := by intro y; refine V92 ?_; refine V192 ?_; refine V1 ?_; refine Z.only [1, 2, 3, 10] rfl ?_; refine V6 ?_; exact y.o) : p := f ⟨h⟩
theorem V453 (h : q) (f : Hid q → p := by intro y; refine V155 ?_; refine V60 ?_; exact y.o) : p := f ⟨h⟩
theorem V454 (h : q) (f : Hid q → p := by intro y; refine V272 ?_; refine V32 ?_; exact y.o) : p := f ⟨h⟩
theorem V455 (h : q) (f : Hid q → p := by intro y; refine Z.enter func61 rfl ntmps61 rfl rfl ?_; refine V91 ?_; exact y.o) : p := f ⟨h⟩
theorem V456 (h : q) (f : Hid q → p := by intro y; refine V62 ?_; refine V7 ?_; exact y.o) : p := f ⟨h⟩
theorem V457 (h : q) (f : Hid q → p := by intro y; refine Z.only [1, 2, 4, 5] rfl ?_; refine V423 ?_; refine Z.only [1, 2, 4, 5, 24] rfl ?_; exact y.o) : p := f ⟨h⟩
theorem V458 (h : q) (f : Hid q → p := by intro y; refine V430 ?_; exact y.o) : p := f ⟨h⟩
theorem V459 (h : q) (f : Hid q → p := by intro y; refine Z.tb [9] J3 rfl (Jk hs) rfl ?_; refine Z.t 10 rfl rfl rfl (by rfl) J3 (Jk hs) (Z.Yd.min rfl rfl) ?_; refine Z.tb [11] J3 rfl (Jk hs) rfl ?_; refine V40 ?_; exact y.o) : p := f ⟨h⟩
theorem V460 (h : q) (f : Hid q → p := by intro y; refine V409 ?_; exact y.o) : p := f ⟨h⟩
theorem V461 (h : q) (f : Hid q → p := by intro y; refine Z.only [2, 3, 4, 6, 7, 9] rfl ?_; refine V333 ?_; refine Z.yes (s := 40) (b := false) rfl (J16) rfl ?_; refine V50 ?_; refine V3 ?_; refine V165 ?_; exact y.o) : p := f ⟨h⟩
theorem V462 (h : q) (f : Hid q → p := by intro y; refine Z.only [6] rfl ?_; refine V422 ?_; exact y.o) : p := f ⟨h⟩
theorem V463 (h : q) (f : Hid q → p := by intro y; refine V47 ?_; refine V214 ?_; exact y.o) : p := f ⟨h⟩
theorem V464 (h : q) (f : Hid q → p := by intro y; refine Z.l rfl rfl (by rfl) (Z.keepS hs) (Z.Yd.buildL [(0, 1), (1, 1), (2, 1), (3, 1)] [.int .i64 0, .int .i64 0, .int .i64 0, .int .i64 0] rfl rfl J18) ?_; exact y.o) : p := f ⟨h⟩
theorem V465 (h : q) (f : Hid q → p := by intro y; refine Z.outDp call152 (caught_pan g3 _ _ _ _ _ [Ent.blk g2 _ _] _ _ (hs.lend (L2 := [])) call160 (fun W hW ↦ repclear g2 _ _ rfl W hW)) ?_; exact y.o) : p := f ⟨h⟩
theorem V466 (h : q) (f : Hid q → p := by intro y; refine Z.outDp call26 (mx_caught_pan g3 _ _ _ _ _ [Ent.blk g2 _ _] _ _ (hs.lend (L2 := [])) call27 (fun W hW ↦ mx_clearNew g2 _ _ W hW)) ?_; exact y.o) : p := f ⟨h⟩
theorem V467 (h : q) (f : Hid q → p := by intro y; refine Z.exit ?_; refine Z.xblockn rfl ?_; refine Z.xthen ?_; refine Z.xthen ?_; refine Z.xblock ?_; refine Z.nscope ?_; refine Z.out0n trivial ?_; exact y.o) : p := f ⟨h⟩
theorem V468 (h : q) (f : Hid q → p := by intro y; refine V31 ?_; refine V124 ?_; refine V162 ?_; exact y.o) : p := f ⟨h⟩
theorem V469 (h : q) (f : Hid q → p := by intro y; refine V121 ?_; refine Z.only [0, 1, 2] rfl ?_; exact y.o) : p := f ⟨h⟩
theorem V470 (h : q) (f : Hid q → p := by intro y; refine Z.l rfl rfl (by rfl) (Z.keepS hs) J62 ?_; exact y.o) : p := f ⟨h⟩
theorem V471 (h : q) (f : Hid q → p := by intro y; refine V17 ?_; refine Z.l rfl rfl (by rfl) (Z.keepS hs) (Z.Yd.index (v := .agg #[.int .u64 fv.1, .int .i64 fv.2.1, .int .i64 fv.2.2]) rfl rfl J109) ?_; exact y.o) : p := f ⟨h⟩
theorem V472 (h : q) (f : Hid q → p := by intro y; refine Z.ZO.litL (T' := 149) [(0, 6)] [.int .i64 0, .int .i64 0, .int .i64 0, .int .i64 0, .int .i64 0, .int .i64 0] rfl rfl (by rfl) rfl rfl J19 hs ?_; exact y.o) : p := f ⟨h⟩
theorem V473 (h : q) (f : Hid q → p := by intro y; refine Z.outDp call152 (caught_pan g3 _ _ _ _ _ [Ent.blk g2 _ _] _ _ (hs.lend (L2 := [])) call153 (fun W hW ↦ powclear g2 _ _ W hW)) ?_; exact y.o) : p := f ⟨h⟩
theorem V474 (h : q) (f : Hid q → p := by intro y; refine Z.outDp call152 (caught_pan g3 _ _ _ _ _ [Ent.blk g2 _ _] _ _ (hs.lend (L2 := [])) call156 (fun W hW ↦ idclear g2 _ _ W hW)) ?_; exact y.o) : p := f ⟨h⟩
theorem V475 (h : q) (f : Hid q → p := by intro y; refine V11 ?_; refine V21 ?_; refine Z.l rfl rfl (by rfl) (Z.keepS hs) J107 ?_; exact y.o) : p := f ⟨h⟩
theorem V476 (h : q) (f : Hid q → p := by intro y; refine Z.lb 6 rfl ?_; exact y.o) : p := f ⟨h⟩
theorem V477 (h : q) (f : Hid q → p := by intro y; refine Z.t 8 rfl rfl rfl (by rfl) J3 (Jk hs) (Z.Yd.nilc rfl rfl) ?_; refine Z.t 9 rfl rfl rfl (by rfl) J3 (Jk hs) (Z.Yd.fieldA (m := 0) rfl J3) ?_; exact y.o) : p := f ⟨h⟩
theorem V478 (h : q) (f : Hid q → p := by intro y; refine Z.only [0, 1, 2, 8, 10, 37, 38, 44, 45, 46] rfl ?_; exact y.o) : p := f ⟨h⟩
theorem V479 (h : q) (f : Hid q → p := by intro y; refine Z.ZO.call rfl rfl (by rfl) rfl rfl call124 rfl (putAll_any g T sv (unb acc) _ 3 3 (hdP x _) _ hs.lend (Z.blk_lent hs) rfl J5 J5 h1) ?_; exact y.o) : p := f ⟨h⟩
theorem V480 (h : q) (f : Hid q → p := by intro y; refine V450 ?_; exact y.o) : p := f ⟨h⟩
theorem V481 (h : q) (f : Hid q → p := by intro y; refine V2 ?_; refine V79 ?_; exact y.o) : p := f ⟨h⟩
theorem V482 (h : q) (f : Hid q → p := by intro y; refine Z.only [0, 1, 4, 9] rfl ?_; refine V6 ?_; exact y.o) : p := f ⟨h⟩
theorem V483 (h : q) (f : Hid q → p := by intro y; refine V411 ?_; refine V60 ?_; refine V200 ?_; refine V152 ?_; exact y.o) : p := f ⟨h⟩
theorem V484 (h : q) (f : Hid q → p := by intro y; refine V1 ?_; refine V124 ?_; exact y.o) : p := f ⟨h⟩
theorem V485 (h : q) (f : Hid q → p := by intro y; refine V20 ?_; refine V32 ?_; exact y.o) : p := f ⟨h⟩
theorem V486 (h : q) (f : Hid q → p := by intro y; refine Z.enter func3 rfl ntmps3 rfl rfl ?_; refine V91 ?_; exact y.o) : p := f ⟨h⟩
theorem V487 (h : q) (f : Hid q → p := by intro y; refine V458 ?_; exact y.o) : p := f ⟨h⟩
theorem V488 (h : q) (f : Hid q → p := by intro y; refine V460 ?_; exact y.o) : p := f ⟨h⟩
theorem V489 (h : q) (f : Hid q → p := by intro y; refine V47 ?_; refine V300 ?_; exact y.o) : p := f ⟨h⟩
theorem V490 (h : q) (f : Hid q → p := by intro y; refine Z.t 18 rfl rfl rfl (by rfl) J3 (Jk hs) (Z.Yd.fieldA (m := 2) rfl J3) ?_; exact y.o) : p := f ⟨h⟩
theorem V491 (h : q) (f : Hid q → p := by intro y; refine Z.ZO.call rfl rfl (by rfl) rfl rfl call163 rfl (mc_Control _ _) ?_; exact y.o) : p := f ⟨h⟩
theorem V492 (h : q) (f : Hid q → p := by intro y; refine Z.only [2, 3, 4, 5, 18, 19, 20] rfl ?_; exact y.o) : p := f ⟨h⟩
theorem V493 (h : q) (f : Hid q → p := by intro y; refine Z.enter func182 rfl ntmps182 rfl rfl ?_; refine V394 ?_; refine V125 ?_; refine V248 ?_; refine Z.only [0, 1, 7, 8] rfl ?_; exact y.o) : p := f ⟨h⟩
theorem V494 (h : q) (f : Hid q → p := by intro y; refine Z.l rfl rfl (by rfl) (Z.keepS hs) (Z.Yd.buildL [(0, 1), (1, 1), (2, 1)] [.slice none 0 0, .slice none 0 0, .int .i64 0] rfl rfl J18) ?_; exact y.o) : p := f ⟨h⟩
theorem V495 (h : q) (f : Hid q → p := by intro y; refine Z.t 3 rfl rfl rfl (by rfl) J3 (Jk hs) (Z.Yd.fieldA (m := 0) rfl J3) ?_; exact y.o) : p := f ⟨h⟩
theorem V496 (h : q) (f : Hid q → p := by intro y; refine Z.t 4 rfl rfl rfl (by rfl) J3 (Jk hs) (Z.Yd.fieldA (m := 1) rfl J3) ?_; exact y.o) : p := f ⟨h⟩
theorem V497 (h : q) (f : Hid q → p := by intro y; refine Z.tk (Dn := fun _ => true) (i := 19) (fun _ => (Jk hs)) ?_; refine Z.tb [20] J3 rfl (Jk hs) rfl ?_; refine V40 ?_; refine V120 ?_; exact y.o) : p := f ⟨h⟩
theorem V498 (h : q) (f : Hid q → p := by intro y; refine V272 ?_; refine Z.l rfl rfl (by rfl) (Z.keepS hs) (Z.Yd.elem rfl rfl underlying246 sizeOf211 (fun hG => ⟨J2, J2⟩)) ?_; exact y.o) : p := f ⟨h⟩
theorem V499 (h : q) (f : Hid q → p := by intro y; refine V150 ?_; refine V96 ?_; exact y.o) : p := f ⟨h⟩
theorem V500 (h : q) (f : Hid q → p := by intro y; refine V8 ?_; refine Z.l rfl rfl (by rfl) (Z.keepS hs) (Z.Yd.load rfl isAgg48 (fun _ => Z.cellB (cs := q.cells.toArray) J0 rfl)) ?_; exact y.o) : p := f ⟨h⟩
theorem V501 (h : q) (f : Hid q → p := by intro y; refine Z.enterD func16 rfl ntmps16 rfl rfl ?_; refine V304 ?_; refine Z.ZO.alloc rfl rfl (by rfl) zeroValue34 rfl hs ?_; exact y.o) : p := f ⟨h⟩
theorem V502 (h : q) (f : Hid q → p := by intro y; refine V78 ?_; refine Z.l rfl rfl (by rfl) (Z.keepS hs) (Z.Yd.load rfl isAgg3 (fun _ => Z.cellR J0 (Z.flat_pos ch_len hg rfl))) ?_; exact y.o) : p := f ⟨h⟩
theorem V503 (h : q) (f : Hid q → p := by intro y; refine Z.only [8, 9] rfl ?_; refine V90 ?_; exact y.o) : p := f ⟨h⟩
theorem V504 (h : q) (f : Hid q → p := by intro y; refine Z.l rfl rfl (by rfl) (Z.keepS hs) (Z.Yd.fieldA (m := 15) rfl J3) ?_; exact y.o) : p := f ⟨h⟩
theorem V505 (h : q) (f : Hid q → p := by intro y; refine Z.l rfl rfl (by rfl) (Z.keepS hs) (Z.Yd.fieldA (m := 16) rfl J3) ?_; exact y.o) : p := f ⟨h⟩
theorem V506 (h : q) (f : Hid q → p := by intro y; refine V259 ?_; refine Z.l rfl rfl (by rfl) (Z.keepS hs) (Z.Yd.ptrNnil rfl rfl underlying30) ?_; refine V11 ?_; refine V179 ?_; exact y.o) : p := f ⟨h⟩
theorem V507 (h : q) (f : Hid q → p := by intro y; refine Z.l rfl rfl (by rfl) (Z.keepS hs) (Z.Yd.buildL [(0, 1), (1, 1), (2, 1)] [.int .u64 0, .int .i64 0, .int .i64 0] rfl rfl J18) ?_; exact y.o) : p := f ⟨h⟩
theorem V508 (h : q) (f : Hid q → p := by intro y; refine Z.l rfl rfl (by rfl) (Z.keepS hs) (Z.Yd.fieldA (m := 6) rfl J3) ?_; exact y.o) : p := f ⟨h⟩
theorem V509 (h : q) (f : Hid q → p := by intro y; refine V42 ?_; refine V62 ?_; refine Z.ZO.call rfl rfl (by rfl) rfl rfl call66 rfl (mc_Need A i c ps _ (hx.st hs) hl J5 hf) ?_; exact y.o) : p := f ⟨h⟩
theorem V510 (h : q) (f : Hid q → p := by intro y; refine V480 ?_; exact y.o) : p := f ⟨h⟩
theorem V511 (h : q) (f : Hid q → p := by intro y; refine V60 ?_; refine V1 ?_; exact y.o) : p := f ⟨h⟩
theorem V512 (h : q) (f : Hid q → p := by intro y; refine V64 ?_; refine V6 ?_; exact y.o) : p := f ⟨h⟩
theorem V513 (h : q) (f : Hid q → p := by intro y; refine V166 ?_; refine V2 ?_; exact y.o) : p := f ⟨h⟩
theorem V514 (h : q) (f : Hid q → p := by intro y; refine V182 ?_; refine V32 ?_; exact y.o) : p := f ⟨h⟩
theorem V515 (h : q) (f : Hid q → p := by intro y; refine V487 ?_; exact y.o) : p := f ⟨h⟩
theorem V516 (h : q) (f : Hid q → p := by intro y; refine V488 ?_; exact y.o) : p := f ⟨h⟩
theorem V517 (h : q) (f : Hid q → p := by intro y; refine Z.only [0, 5] rfl ?_; refine V300 ?_; refine V277 ?_; refine V451 ?_; exact y.o) : p := f ⟨h⟩
theorem V518 (h : q) (f : Hid q → p := by intro y; refine Z.enterD func102 rfl ntmps102 rfl rfl ?_; refine V91 ?_; exact y.o) : p := f ⟨h⟩
theorem V519 (h : q) (f : Hid q → p := by intro y; refine Z.only [1, 3] rfl ?_; exact y.o) : p := f ⟨h⟩
theorem V520 (h : q) (f : Hid q → p := by intro y; refine Z.only [0, 4, 5, 6, 7, 8, 9] rfl ?_; exact y.o) : p := f ⟨h⟩
theorem V521 (h : q) (f : Hid q → p := by intro y; refine Z.only [1, 5, 7, 8, 9] rfl ?_; exact y.o) : p := f ⟨h⟩
theorem V522 (h : q) (f : Hid q → p := by intro y; refine V8 ?_; refine V183 ?_; exact y.o) : p := f ⟨h⟩
theorem V523 (h : q) (f : Hid q → p := by intro y; refine V231 ?_; refine Z.l rfl rfl (by rfl) (Z.keepS hs) (Z.Yd.load rfl isAgg3 (fun _ => Z.cellO hc.1 J16 (hc.2 9 _ rfl))) ?_; exact y.o) : p := f ⟨h⟩
theorem V524 (h : q) (f : Hid q → p := by intro y; refine V69 ?_; refine Z.tn 0 rfl rfl J3 rfl trivial ?_; refine V80 ?_; exact y.o) : p := f ⟨h⟩
theorem V525 (h : q) (f : Hid q → p := by intro y; refine Z.tk (Dn := fun j => j != 3) (i := 3) (fun h => absurd h J12) ?_; refine V40 ?_; refine Z.only [1, 5, 7, 8, 9, 12] rfl ?_; exact y.o) : p := f ⟨h⟩
theorem V526 (h : q) (f : Hid q → p := by intro y; refine Z.t 15 rfl rfl rfl (by rfl) J3 (Jk hs) (Z.Yd.sub rfl rfl (fun hG => Z.wi64 J2)) ?_; refine Z.tb [16] J3 rfl (Jk hs) rfl ?_; exact y.o) : p := f ⟨h⟩
theorem V527 (h : q) (f : Hid q → p := by intro y; refine V152 ?_; exact y.o) : p := f ⟨h⟩
theorem V528 (h : q) (f : Hid q → p := by intro y; refine Z.ZO.empty rfl rfl (by rfl) underlying34 sizeOf3 hs ?_; exact y.o) : p := f ⟨h⟩
theorem V529 (h : q) (f : Hid q → p := by intro y; refine V160 ?_; refine Z.ZO.call rfl rfl (by rfl) rfl rfl call166 rfl (rleft_any g T sv l (8 * (p + k)) _ hs.lend hl J5) ?_; exact y.o) : p := f ⟨h⟩
theorem V530 (h : q) (f : Hid q → p := by intro y; refine Z.ZO.call rfl rfl (by rfl) rfl rfl call123 rfl (mm_headI g7 _ sv acc q.lc _ _ (hs.lend (L1 := WrL _ _ _ _)) J5 J5) ?_; exact y.o) : p := f ⟨h⟩
theorem V531 (h : q) (f : Hid q → p := by intro y; refine Z.l rfl rfl (by rfl) (Z.keepS hs) J85 ?_; refine Z.l rfl rfl (by rfl) (Z.keepS hs) (Z.Yd.lenS rfl underlying145) ?_; exact y.o) : p := f ⟨h⟩
theorem V532 (h : q) (f : Hid q → p := by intro y; refine V44 ?_; refine V53 ?_; refine Z.ZO.call rfl rfl (by rfl) rfl rfl call57 rfl (bk_copy gb m.b _ (hb.st hs) hm.b) ?_; exact y.o) : p := f ⟨h⟩
theorem V533 (h : q) (f : Hid q → p := by intro y; refine V21 ?_; refine Z.l rfl rfl (by rfl) (Z.keepS hs) (Z.Yd.load rfl isAgg3 (fun _ => Z.cellR J0 (Z.ints_at J5 J5))) ?_; exact y.o) : p := f ⟨h⟩
theorem V534 (h : q) (f : Hid q → p := by intro y; refine Z.l rfl rfl (by rfl) (Z.keepS hs) (Z.Yd.convI rfl ⟨_, underlying3⟩ underlying223 (fun hG => Z.wu64 J2)) ?_; exact y.o) : p := f ⟨h⟩
theorem V535 (h : q) (f : Hid q → p := by intro y; refine Z.l rfl rfl (by rfl) (Z.keepS hs) (Z.Yd.convI rfl ⟨_, underlying5⟩ underlying123 (fun hG => Z.wu64 J2)) ?_; exact y.o) : p := f ⟨h⟩
theorem V536 (h : q) (f : Hid q → p := by intro y; refine Z.l rfl rfl (by rfl) (Z.keepS hs) (Z.Yd.convI rfl ⟨_, underlying123⟩ underlying3 (fun hG => Z.wi64 J2)) ?_; exact y.o) : p := f ⟨h⟩
theorem V537 (h : q) (f : Hid q → p := by intro y; refine V181 ?_; refine V215 ?_; exact y.o) : p := f ⟨h⟩
theorem V538 (h : q) (f : Hid q → p := by intro y; refine V151 ?_; refine V175 ?_; exact y.o) : p := f ⟨h⟩
theorem V539 (h : q) (f : Hid q → p := by intro y; refine V125 ?_; refine V275 ?_; exact y.o) : p := f ⟨h⟩
theorem V540 (h : q) (f : Hid q → p := by intro y; refine V510 ?_; exact y.o) : p := f ⟨h⟩
theorem V541 (h : q) (f : Hid q → p := by intro y; refine V60 ?_; refine V527 ?_; exact y.o) : p := f ⟨h⟩
theorem V542 (h : q) (f : Hid q → p := by intro y; refine V31 ?_; refine V264 ?_; refine V192 ?_; refine V1 ?_; refine Z.only [1, 7] rfl ?_; refine V6 ?_; exact y.o) : p := f ⟨h⟩
theorem V543 (h : q) (f : Hid q → p := by intro y; refine V32 ?_; refine Z.yes (s := 22) (b := false) rfl rfl rfl ?_; exact y.o) : p := f ⟨h⟩
theorem V544 (h : q) (f : Hid q → p := by intro y; refine V48 ?_; refine V2 ?_; exact y.o) : p := f ⟨h⟩
theorem V545 (h : q) (f : Hid q → p := by intro y; refine V515 ?_; exact y.o) : p := f ⟨h⟩
theorem V546 (h : q) (f : Hid q → p := by intro y; refine V516 ?_; exact y.o) : p := f ⟨h⟩
theorem V547 (h : q) (f : Hid q → p := by intro y; refine Z.only [0, 1, 2, 3, 4, 10, 11, 12] rfl ?_; refine V511 ?_; refine Z.only [0, 1, 2, 3, 4, 10, 11, 12, 13] rfl ?_; refine V30 ?_; exact y.o) : p := f ⟨h⟩
theorem V548 (h : q) (f : Hid q → p := by intro y; refine Z.enterD func104 rfl ntmps104 rfl rfl ?_; refine V91 ?_; exact y.o) : p := f ⟨h⟩
theorem V549 (h : q) (f : Hid q → p := by intro y; refine V513 ?_; refine Z.ZO.call rfl rfl (by rfl) rfl rfl call154 rfl (opened_ok lc 26 1 A m c l _ ((hx.st hs).sx) hl hm h) ?_; exact y.o) : p := f ⟨h⟩
theorem V550 (h : q) (f : Hid q → p := by intro y; refine V8 ?_; refine Z.l rfl rfl (by rfl) (Z.keepS hs) (Z.Yd.load rfl isAgg3 (fun _ => Z.cellO hc.1 J16 (hc.2 1 _ rfl))) ?_; exact y.o) : p := f ⟨h⟩
theorem V551 (h : q) (f : Hid q → p := by intro y; refine Z.ZO.quiet rfl (by rfl) (Z.keepS hs) J60 ?_; exact y.o) : p := f ⟨h⟩
theorem V552 (h : q) (f : Hid q → p := by intro y; refine Z.only [0, 1, 4, 5, 7, 8, 9, 40, 41] rfl ?_; exact y.o) : p := f ⟨h⟩
theorem V553 (h : q) (f : Hid q → p := by intro y; refine Z.yes (s := 54) (b := false) rfl rfl rfl ?_; exact y.o) : p := f ⟨h⟩
theorem V554 (h : q) (f : Hid q → p := by intro y; refine Z.only [0, 4, 5, 11, 12, 13, 14, 15] rfl ?_; exact y.o) : p := f ⟨h⟩
theorem V555 (h : q) (f : Hid q → p := by intro y; refine Z.yes (s := 72) (b := false) rfl rfl rfl ?_; exact y.o) : p := f ⟨h⟩
theorem V556 (h : q) (f : Hid q → p := by intro y; refine V228 ?_; refine Z.t 3 rfl rfl rfl (by rfl) J3 (Jk hs) (Z.Yd.load rfl isAgg3 (fun _ => Z.cellS hdx rfl J5 J5)) ?_; exact y.o) : p := f ⟨h⟩
theorem V557 (h : q) (f : Hid q → p := by intro y; refine Z.tb [0, 1] J3 rfl (Jk hs) rfl ?_; exact y.o) : p := f ⟨h⟩
theorem V558 (h : q) (f : Hid q → p := by intro y; refine Z.t 14 rfl rfl rfl (by rfl) J3 (Jk hs) (Z.Yd.nilc rfl rfl) ?_; exact y.o) : p := f ⟨h⟩
theorem V559 (h : q) (f : Hid q → p := by intro y; refine Z.t 3 rfl rfl rfl (by rfl) J3 (Jk hs) (Z.Yd.elemA rfl rfl underlying37 sizeOf3 (fun hG => ⟨J2, J2⟩)) ?_; exact y.o) : p := f ⟨h⟩
theorem V560 (h : q) (f : Hid q → p := by intro y; refine Z.t 6 rfl rfl rfl (by rfl) J3 (Jk hs) (Z.Yd.elemA rfl rfl underlying37 sizeOf3 (fun hG => ⟨J2, J2⟩)) ?_; exact y.o) : p := f ⟨h⟩
theorem V561 (h : q) (f : Hid q → p := by intro y; refine Z.tn 11 rfl rfl J3 rfl trivial ?_; exact y.o) : p := f ⟨h⟩
theorem V562 (h : q) (f : Hid q → p := by intro y; refine Z.tn 10 rfl rfl J3 rfl trivial ?_; exact y.o) : p := f ⟨h⟩
theorem V563 (h : q) (f : Hid q → p := by intro y; refine Z.only [1, 2, 3, 6, 9, 11] rfl ?_; exact y.o) : p := f ⟨h⟩
theorem V564 (h : q) (f : Hid q → p := by intro y; refine Z.tk (Dn := fun _ => true) (i := 16) (fun _ => (Jk hs)) ?_; refine Z.tn 17 rfl rfl J3 rfl trivial ?_; refine V7 ?_; exact y.o) : p := f ⟨h⟩
theorem V565 (h : q) (f : Hid q → p := by intro y; refine Z.t 7 rfl rfl rfl (by rfl) J3 (Jk hs) (Z.Yd.elem rfl rfl underlying34 sizeOf3 (fun hG => ⟨J2, J2⟩)) ?_; exact y.o) : p := f ⟨h⟩
theorem V566 (h : q) (f : Hid q → p := by intro y; refine Z.t 8 rfl rfl rfl (by rfl) J3 (Jk hs) (Z.Yd.elem rfl rfl underlying34 sizeOf3 (fun hG => ⟨J2, J2⟩)) ?_; exact y.o) : p := f ⟨h⟩
theorem V567 (h : q) (f : Hid q → p := by intro y; refine Z.yes (s := 7) (b := false) rfl rfl rfl ?_; exact y.o) : p := f ⟨h⟩
theorem V568 (h : q) (f : Hid q → p := by intro y; refine Z.only [0, 1, 2, 3, 10, 11, 12, 13] rfl ?_; exact y.o) : p := f ⟨h⟩
theorem V569 (h : q) (f : Hid q → p := by intro y; refine V123 ?_; exact y.o) : p := f ⟨h⟩
theorem V570 (h : q) (f : Hid q → p := by intro y; refine V540 ?_; exact y.o) : p := f ⟨h⟩
theorem V571 (h : q) (f : Hid q → p := by intro y; refine V1 ?_; refine Z.only [0, 1, 4, 5, 7, 8, 9, 11, 12, 13, 46, 47, 48] rfl ?_; refine V60 ?_; refine V126 ?_; refine Z.only [0, 1, 4, 5, 7, 8, 9, 11, 13, 46, 47, 48, 72] rfl ?_; refine V6 ?_; exact y.o) : p := f ⟨h⟩
theorem V572 (h : q) (f : Hid q → p := by intro y; refine Z.enter func87 rfl ntmps87 rfl rfl ?_; refine V242 ?_; refine V32 ?_; refine Z.l rfl rfl (by rfl) (Z.keepS hs) (Z.Yd.ptrNil rfl rfl underlying53) ?_; exact y.o) : p := f ⟨h⟩
theorem V573 (h : q) (f : Hid q → p := by intro y; refine V0 ?_; refine V85 ?_; refine V2 ?_; refine Z.ZO.call rfl rfl (by rfl) rfl rfl call60 rfl (rdecid24 q.lc q.B _ q.c q.l _ (hqB.st (Jn hs)) rfl J104 hqy) ?_; exact y.o) : p := f ⟨h⟩
theorem V574 (h : q) (f : Hid q → p := by intro y; refine V545 ?_; exact y.o) : p := f ⟨h⟩
theorem V575 (h : q) (f : Hid q → p := by intro y; refine V546 ?_; exact y.o) : p := f ⟨h⟩
theorem V576 (h : q) (f : Hid q → p := by intro y; refine Z.enterD func11 rfl ntmps11 rfl rfl ?_; refine V91 ?_; exact y.o) : p := f ⟨h⟩
theorem V577 (h : q) (f : Hid q → p := by intro y; refine V259 ?_; refine Z.yes (s := 62) (b := false) rfl rfl rfl ?_; refine V276 ?_; refine V48 ?_; refine Z.lb 12 rfl ?_; exact y.o) : p := f ⟨h⟩
theorem V578 (h : q) (f : Hid q → p := by intro y; refine V569 ?_; exact y.o) : p := f ⟨h⟩
theorem V579 (h : q) (f : Hid q → p := by intro y; refine Z.t 1 rfl rfl rfl (by rfl) J3 (Jk hs) (Z.Yd.nilc rfl rfl) ?_; exact y.o) : p := f ⟨h⟩
theorem V580 (h : q) (f : Hid q → p := by intro y; refine Z.l rfl rfl (by rfl) (Z.keepS hs) (Z.Yd.elem rfl rfl underlying145 sizeOf149 (fun hG => ⟨J2, J2⟩)) ?_; exact y.o) : p := f ⟨h⟩
theorem V581 (h : q) (f : Hid q → p := by intro y; refine Z.ZO.quiet rfl (by rfl) (Z.keepS hs) (Z.Yd.elem rfl rfl underlying34 sizeOf3 (fun hG => ⟨J2, J2⟩)) ?_; exact y.o) : p := f ⟨h⟩
theorem V582 (h : q) (f : Hid q → p := by intro y; refine Z.l rfl rfl (by rfl) (Z.keepS hs) (Z.Yd.loadA _ rfl isAgg77 (fun _ => Z.cellsB (cs := MpV.cells q) J0) J20) ?_; exact y.o) : p := f ⟨h⟩
theorem V583 (h : q) (f : Hid q → p := by intro y; refine V272 ?_; refine V103 ?_; refine V274 ?_; exact y.o) : p := f ⟨h⟩
theorem V584 (h : q) (f : Hid q → p := by intro y; refine V21 ?_; refine Z.l rfl rfl (by rfl) (Z.keepS hs) (Z.Yd.load rfl isAgg3 (fun _ => Z.cellS hdx rfl J5 J5)) ?_; exact y.o) : p := f ⟨h⟩
theorem V585 (h : q) (f : Hid q → p := by intro y; refine V155 ?_; refine V30 ?_; exact y.o) : p := f ⟨h⟩
theorem V586 (h : q) (f : Hid q → p := by intro y; refine Z.tn 9 rfl rfl J3 rfl trivial ?_; exact y.o) : p := f ⟨h⟩
theorem V587 (h : q) (f : Hid q → p := by intro y; refine Z.only [0, 4, 18, 19, 20] rfl ?_; exact y.o) : p := f ⟨h⟩
theorem V588 (h : q) (f : Hid q → p := by intro y; refine Z.only [2, 3, 4] rfl ?_; exact y.o) : p := f ⟨h⟩
theorem V589 (h : q) (f : Hid q → p := by intro y; refine Z.only [0, 5, 6] rfl ?_; exact y.o) : p := f ⟨h⟩
theorem V590 (h : q) (f : Hid q → p := by intro y; refine Z.l rfl rfl (by rfl) (Z.keepS hs) (Z.Yd.elem rfl rfl underlying27 sizeOf50 (fun hG => ⟨J2, J2⟩)) ?_; exact y.o) : p := f ⟨h⟩
theorem V591 (h : q) (f : Hid q → p := by intro y; refine V570 ?_; exact y.o) : p := f ⟨h⟩
theorem V592 (h : q) (f : Hid q → p := by intro y; refine V242 ?_; refine V1 ?_; refine V269 ?_; refine V214 ?_; refine V261 ?_; refine V574 ?_; exact y.o) : p := f ⟨h⟩
theorem V593 (h : q) (f : Hid q → p := by intro y; refine V60 ?_; exact y.o) : p := f ⟨h⟩
theorem V594 (h : q) (f : Hid q → p := by intro y; refine V6 ?_; refine V63 ?_; refine V0 ?_; exact y.o) : p := f ⟨h⟩
theorem V595 (h : q) (f : Hid q → p := by intro y; refine V2 ?_; refine V119 ?_; exact y.o) : p := f ⟨h⟩
theorem V596 (h : q) (f : Hid q → p := by intro y; refine V575 ?_; exact y.o) : p := f ⟨h⟩
theorem V597 (h : q) (f : Hid q → p := by intro y; refine V32 ?_; exact y.o) : p := f ⟨h⟩
theorem V598 (h : q) (f : Hid q → p := by intro y; refine Z.enter func59 rfl ntmps59 rfl rfl ?_; refine V91 ?_; exact y.o) : p := f ⟨h⟩
theorem V599 (h : q) (f : Hid q → p := by intro y; refine V578 ?_; exact y.o) : p := f ⟨h⟩
theorem V600 (h : q) (f : Hid q → p := by intro y; refine V591 ?_; exact y.o) : p := f ⟨h⟩
theorem V601 (h : q) (f : Hid q → p := by intro y; refine V593 ?_; exact y.o) : p := f ⟨h⟩
theorem V602 (h : q) (f : Hid q → p := by intro y; refine V597 ?_; exact y.o) : p := f ⟨h⟩
theorem V603 (h : q) (f : Hid q → p := by intro y; refine V219 ?_; refine V6 ?_; exact y.o) : p := f ⟨h⟩
theorem V604 (h : q) (f : Hid q → p := by intro y; refine V0 ?_; refine V85 ?_; refine V2 ?_; refine Z.ZO.call rfl rfl (by rfl) rfl rfl call61 rfl (rdecrep24 q.lc q.B _ q.c q.l _ (hqB.st (Jn hs)) rfl hqy) ?_; exact y.o) : p := f ⟨h⟩
theorem V605 (h : q) (f : Hid q → p := by intro y; refine V596 ?_; exact y.o) : p := f ⟨h⟩
theorem V606 (h : q) (f : Hid q → p := by intro y; refine V574 ?_; exact y.o) : p := f ⟨h⟩
theorem V607 (h : q) (f : Hid q → p := by intro y; refine V1 ?_; refine Z.only [1, 2, 3, 4] rfl ?_; exact y.o) : p := f ⟨h⟩
theorem V608 (h : q) (f : Hid q → p := by intro y; refine Z.enter func60 rfl ntmps60 rfl rfl ?_; refine V91 ?_; exact y.o) : p := f ⟨h⟩
theorem V609 (h : q) (f : Hid q → p := by intro y; refine V599 ?_; exact y.o) : p := f ⟨h⟩
theorem V610 (h : q) (f : Hid q → p := by intro y; refine V600 ?_; exact y.o) : p := f ⟨h⟩
theorem V611 (h : q) (f : Hid q → p := by intro y; refine V601 ?_; exact y.o) : p := f ⟨h⟩
theorem V612 (h : q) (f : Hid q → p := by intro y; refine V602 ?_; exact y.o) : p := f ⟨h⟩
theorem V613 (h : q) (f : Hid q → p := by intro y; refine V213 ?_; refine V6 ?_; exact y.o) : p := f ⟨h⟩
theorem V614 (h : q) (f : Hid q → p := by intro y; refine V605 ?_; exact y.o) : p := f ⟨h⟩
theorem V615 (h : q) (f : Hid q → p := by intro y; refine V606 ?_; exact y.o) : p := f ⟨h⟩
theorem V616 (h : q) (f : Hid q → p := by intro y; refine V2 ?_; refine V15 ?_; exact y.o) : p := f ⟨h⟩
theorem V617 (h : q) (f : Hid q → p := by intro y; refine V1 ?_; refine Z.only [1, 4] rfl ?_; refine V423 ?_; exact y.o) : p := f ⟨h⟩
theorem V618 (h : q) (f : Hid q → p := by intro y; refine V609 ?_; exact y.o) : p := f ⟨h⟩
theorem V619 (h : q) (f : Hid q → p := by intro y; refine V610 ?_; exact y.o) : p := f ⟨h⟩
theorem V620 (h : q) (f : Hid q → p := by intro y; refine V611 ?_; exact y.o) : p := f ⟨h⟩
theorem V621 (h : q) (f : Hid q → p := by intro y; refine V612 ?_; exact y.o) : p := f ⟨h⟩
theorem V622 (h : q) (f : Hid q → p := by intro y; refine V187 ?_; refine V6 ?_; exact y.o) : p := f ⟨h⟩
theorem V623 (h : q) (f : Hid q → p := by intro y; refine V614 ?_; exact y.o) : p := f ⟨h⟩
theorem V624 (h : q) (f : Hid q → p := by intro y; refine V615 ?_; exact y.o) : p := f ⟨h⟩
theorem V625 (h : q) (f : Hid q → p := by intro y; refine V50 ?_; refine V2 ?_; exact y.o) : p := f ⟨h⟩
theorem V626 (h : q) (f : Hid q → p := by intro y; refine V1 ?_; refine V264 ?_; exact y.o) : p := f ⟨h⟩
theorem V627 (h : q) (f : Hid q → p := by intro y; refine V618 ?_; exact y.o) : p := f ⟨h⟩
theorem V628 (h : q) (f : Hid q → p := by intro y; refine V619 ?_; exact y.o) : p := f ⟨h⟩
theorem V629 (h : q) (f : Hid q → p := by intro y; refine V620 ?_; exact y.o) : p := f ⟨h⟩
theorem V630 (h : q) (f : Hid q → p := by intro y; refine V621 ?_; exact y.o) : p := f ⟨h⟩
theorem V631 (h : q) (f : Hid q → p := by intro y; refine V352 ?_; refine V6 ?_; exact y.o) : p := f ⟨h⟩
theorem V632 (h : q) (f : Hid q → p := by intro y; refine V623 ?_; exact y.o) : p := f ⟨h⟩
theorem V633 (h : q) (f : Hid q → p := by intro y; refine V624 ?_; exact y.o) : p := f ⟨h⟩
theorem V634 (h : q) (f : Hid q → p := by intro y; refine Z.only [0, 1, 4, 5, 7, 8, 9, 11, 14, 46, 47, 48] rfl ?_; refine V300 ?_; refine V3 ?_; refine V163 ?_; refine V2 ?_; refine V194 ?_; exact y.o) : p := f ⟨h⟩
theorem V635 (h : q) (f : Hid q → p := by intro y; refine V627 ?_; exact y.o) : p := f ⟨h⟩
theorem V636 (h : q) (f : Hid q → p := by intro y; refine V628 ?_; exact y.o) : p := f ⟨h⟩
theorem V637 (h : q) (f : Hid q → p := by intro y; refine V629 ?_; exact y.o) : p := f ⟨h⟩
theorem V638 (h : q) (f : Hid q → p := by intro y; refine V630 ?_; exact y.o) : p := f ⟨h⟩
theorem V639 (h : q) (f : Hid q → p := by intro y; refine V632 ?_; exact y.o) : p := f ⟨h⟩
theorem V640 (h : q) (f : Hid q → p := by intro y; refine V633 ?_; exact y.o) : p := f ⟨h⟩
theorem V641 (h : q) (f : Hid q → p := by intro y; refine V302 ?_; refine V261 ?_; refine V6 ?_; exact y.o) : p := f ⟨h⟩
theorem V642 (h : q) (f : Hid q → p := by intro y; refine V2 ?_; refine Z.ZO.alloc rfl rfl (by rfl) zeroValue123 rfl hs ?_; exact y.o) : p := f ⟨h⟩
theorem V643 (h : q) (f : Hid q → p := by intro y; refine V635 ?_; exact y.o) : p := f ⟨h⟩
theorem V644 (h : q) (f : Hid q → p := by intro y; refine V636 ?_; exact y.o) : p := f ⟨h⟩
theorem V645 (h : q) (f : Hid q → p := by intro y; refine V637 ?_; exact y.o) : p := f ⟨h⟩
theorem V646 (h : q) (f : Hid q → p := by intro y; refine V638 ?_; exact y.o) : p := f ⟨h⟩
theorem V647 (h : q) (f : Hid q → p := by intro y; refine V639 ?_; exact y.o) : p := f ⟨h⟩
theorem V648 (h : q) (f : Hid q → p := by intro y; refine V640 ?_; exact y.o) : p := f ⟨h⟩
theorem V649 (h : q) (f : Hid q → p := by intro y; refine V1 ?_; refine V345 ?_; refine V302 ?_; refine V345 ?_; refine V6 ?_; exact y.o) : p := f ⟨h⟩
theorem V650 (h : q) (f : Hid q → p := by intro y; refine V2 ?_; refine Z.ZO.alloc rfl rfl (by rfl) zeroValue30 rfl hs ?_; exact y.o) : p := f ⟨h⟩
theorem V651 (h : q) (f : Hid q → p := by intro y; refine V643 ?_; exact y.o) : p := f ⟨h⟩
theorem V652 (h : q) (f : Hid q → p := by intro y; refine V644 ?_; exact y.o) : p := f ⟨h⟩
theorem V653 (h : q) (f : Hid q → p := by intro y; refine V645 ?_; exact y.o) : p := f ⟨h⟩
theorem V654 (h : q) (f : Hid q → p := by intro y; refine V646 ?_; exact y.o) : p := f ⟨h⟩
theorem V655 (h : q) (f : Hid q → p := by intro y; refine V647 ?_; exact y.o) : p := f ⟨h⟩
theorem V656 (h : q) (f : Hid q → p := by intro y; refine V648 ?_; exact y.o) : p := f ⟨h⟩
theorem V657 (h : q) (f : Hid q → p := by intro y; refine V449 ?_; refine V2 ?_; refine Z.ZO.litL (T' := 3) [(0, 1), (1, 1)] [.int .i64 0, .int .i64 0] rfl rfl (by rfl) rfl rfl J19 hs ?_; exact y.o) : p := f ⟨h⟩
theorem V658 (h : q) (f : Hid q → p := by intro y; refine V4 ?_; refine V4 ?_; refine V299 ?_; refine V20 ?_; refine V1 ?_; refine Z.only [0, 3, 4, 33] rfl ?_; refine V6 ?_; exact y.o) : p := f ⟨h⟩
theorem V659 (h : q) (f : Hid q → p := by intro y; refine V651 ?_; exact y.o) : p := f ⟨h⟩
theorem V660 (h : q) (f : Hid q → p := by intro y; refine V652 ?_; exact y.o) : p := f ⟨h⟩
theorem V661 (h : q) (f : Hid q → p := by intro y; refine V653 ?_; exact y.o) : p := f ⟨h⟩
theorem V662 (h : q) (f : Hid q → p := by intro y; refine V654 ?_; exact y.o) : p := f ⟨h⟩
theorem V663 (h : q) (f : Hid q → p := by intro y; refine V655 ?_; exact y.o) : p := f ⟨h⟩
theorem V664 (h : q) (f : Hid q → p := by intro y; refine V656 ?_; exact y.o) : p := f ⟨h⟩
theorem V665 (h : q) (f : Hid q → p := by intro y; refine V1 ?_; refine V410 ?_; refine V2 ?_; refine Z.ZO.call rfl rfl (by rfl) rfl rfl call109 rfl (mm_must_ok _ 9 _ J16) ?_; exact y.o) : p := f ⟨h⟩
theorem V666 (h : q) (f : Hid q → p := by intro y; refine V659 ?_; exact y.o) : p := f ⟨h⟩
theorem V667 (h : q) (f : Hid q → p := by intro y; refine Z.tk (Dn := fun j => j != 27) (i := 27) (fun h => absurd h J12) ?_; refine V40 ?_; refine V175 ?_; refine V6 ?_; exact y.o) : p := f ⟨h⟩
theorem V668 (h : q) (f : Hid q → p := by intro y; refine V660 ?_; exact y.o) : p := f ⟨h⟩
theorem V669 (h : q) (f : Hid q → p := by intro y; refine V661 ?_; exact y.o) : p := f ⟨h⟩
theorem V670 (h : q) (f : Hid q → p := by intro y; refine V662 ?_; exact y.o) : p := f ⟨h⟩
theorem V671 (h : q) (f : Hid q → p := by intro y; refine V663 ?_; exact y.o) : p := f ⟨h⟩
theorem V672 (h : q) (f : Hid q → p := by intro y; refine V664 ?_; exact y.o) : p := f ⟨h⟩
theorem V673 (h : q) (f : Hid q → p := by intro y; refine V2 ?_; refine Z.ZO.call rfl rfl (by rfl) rfl rfl call76 rfl (bk_or _ _ (a.pr - b.pr) (a.id - b.id) _ (hs.blkSl J0)) ?_; exact y.o) : p := f ⟨h⟩
theorem V674 (h : q) (f : Hid q → p := by intro y; refine V666 ?_; exact y.o) : p := f ⟨h⟩
theorem V675 (h : q) (f : Hid q → p := by intro y; refine Z.tk (Dn := fun j => j != 22) (i := 22) (fun h => absurd h J12) ?_; refine V40 ?_; refine V175 ?_; refine V6 ?_; exact y.o) : p := f ⟨h⟩
theorem V676 (h : q) (f : Hid q → p := by intro y; refine V668 ?_; exact y.o) : p := f ⟨h⟩
theorem V677 (h : q) (f : Hid q → p := by intro y; refine V669 ?_; exact y.o) : p := f ⟨h⟩
theorem V678 (h : q) (f : Hid q → p := by intro y; refine V670 ?_; exact y.o) : p := f ⟨h⟩
theorem V679 (h : q) (f : Hid q → p := by intro y; refine V671 ?_; exact y.o) : p := f ⟨h⟩
theorem V680 (h : q) (f : Hid q → p := by intro y; refine V672 ?_; exact y.o) : p := f ⟨h⟩
theorem V681 (h : q) (f : Hid q → p := by intro y; refine V2 ?_; refine V113 ?_; exact y.o) : p := f ⟨h⟩
theorem V682 (h : q) (f : Hid q → p := by intro y; refine V674 ?_; exact y.o) : p := f ⟨h⟩
theorem V683 (h : q) (f : Hid q → p := by intro y; refine Z.only [0, 1, 7, 8] rfl ?_; refine V6 ?_; exact y.o) : p := f ⟨h⟩
theorem V684 (h : q) (f : Hid q → p := by intro y; refine V676 ?_; exact y.o) : p := f ⟨h⟩
theorem V685 (h : q) (f : Hid q → p := by intro y; refine V677 ?_; exact y.o) : p := f ⟨h⟩
theorem V686 (h : q) (f : Hid q → p := by intro y; refine V678 ?_; exact y.o) : p := f ⟨h⟩
theorem V687 (h : q) (f : Hid q → p := by intro y; refine V679 ?_; exact y.o) : p := f ⟨h⟩
theorem V688 (h : q) (f : Hid q → p := by intro y; refine V680 ?_; exact y.o) : p := f ⟨h⟩
theorem V689 (h : q) (f : Hid q → p := by intro y; refine V476 ?_; refine V2 ?_; exact y.o) : p := f ⟨h⟩
theorem V690 (h : q) (f : Hid q → p := by intro y; refine V682 ?_; exact y.o) : p := f ⟨h⟩
theorem V691 (h : q) (f : Hid q → p := by intro y; refine V684 ?_; exact y.o) : p := f ⟨h⟩
theorem V692 (h : q) (f : Hid q → p := by intro y; refine V685 ?_; exact y.o) : p := f ⟨h⟩
theorem V693 (h : q) (f : Hid q → p := by intro y; refine V686 ?_; exact y.o) : p := f ⟨h⟩
theorem V694 (h : q) (f : Hid q → p := by intro y; refine V687 ?_; exact y.o) : p := f ⟨h⟩
theorem V695 (h : q) (f : Hid q → p := by intro y; refine V688 ?_; exact y.o) : p := f ⟨h⟩
theorem V696 (h : q) (f : Hid q → p := by intro y; refine V2 ?_; refine V201 ?_; exact y.o) : p := f ⟨h⟩
theorem V697 (h : q) (f : Hid q → p := by intro y; refine V690 ?_; exact y.o) : p := f ⟨h⟩
theorem V698 (h : q) (f : Hid q → p := by intro y; refine V691 ?_; exact y.o) : p := f ⟨h⟩
theorem V699 (h : q) (f : Hid q → p := by intro y; refine V692 ?_; exact y.o) : p := f ⟨h⟩
theorem V700 (h : q) (f : Hid q → p := by intro y; refine V693 ?_; exact y.o) : p := f ⟨h⟩
theorem V701 (h : q) (f : Hid q → p := by intro y; refine V694 ?_; exact y.o) : p := f ⟨h⟩
theorem V702 (h : q) (f : Hid q → p := by intro y; refine V695 ?_; exact y.o) : p := f ⟨h⟩
theorem V703 (h : q) (f : Hid q → p := by intro y; refine Z.l rfl rfl (by rfl) (Z.keepS hs) (Z.Yd.buildL [(0, 1), (1, 1)] [.int .i64 0, .int .i64 0] rfl rfl J18) ?_; refine V2 ?_; exact y.o) : p := f ⟨h⟩
theorem V704 (h : q) (f : Hid q → p := by intro y; refine V697 ?_; exact y.o) : p := f ⟨h⟩
theorem V705 (h : q) (f : Hid q → p := by intro y; refine V698 ?_; exact y.o) : p := f ⟨h⟩
theorem V706 (h : q) (f : Hid q → p := by intro y; refine V699 ?_; exact y.o) : p := f ⟨h⟩
theorem V707 (h : q) (f : Hid q → p := by intro y; refine V700 ?_; exact y.o) : p := f ⟨h⟩
theorem V708 (h : q) (f : Hid q → p := by intro y; refine V701 ?_; exact y.o) : p := f ⟨h⟩
theorem V709 (h : q) (f : Hid q → p := by intro y; refine V702 ?_; exact y.o) : p := f ⟨h⟩
theorem V710 (h : q) (f : Hid q → p := by intro y; refine V11 ?_; refine V307 ?_; refine V2 ?_; refine Z.ZO.call rfl rfl (by rfl) rfl rfl call136 rfl (rlevel_any _ _) ?_; exact y.o) : p := f ⟨h⟩
theorem V711 (h : q) (f : Hid q → p := by intro y; refine V704 ?_; exact y.o) : p := f ⟨h⟩
theorem V712 (h : q) (f : Hid q → p := by intro y; refine V705 ?_; exact y.o) : p := f ⟨h⟩
theorem V713 (h : q) (f : Hid q → p := by intro y; refine V706 ?_; exact y.o) : p := f ⟨h⟩
theorem V714 (h : q) (f : Hid q → p := by intro y; refine V707 ?_; exact y.o) : p := f ⟨h⟩
theorem V715 (h : q) (f : Hid q → p := by intro y; refine V708 ?_; exact y.o) : p := f ⟨h⟩
theorem V716 (h : q) (f : Hid q → p := by intro y; refine V709 ?_; exact y.o) : p := f ⟨h⟩
theorem V717 (h : q) (f : Hid q → p := by intro y; refine V585 ?_; refine V202 ?_; refine V2 ?_; refine Z.ZO.call rfl rfl (by rfl) rfl rfl call184 rfl (rvalid24 r _) ?_; exact y.o) : p := f ⟨h⟩
theorem V718 (h : q) (f : Hid q → p := by intro y; refine V711 ?_; exact y.o) : p := f ⟨h⟩
theorem V719 (h : q) (f : Hid q → p := by intro y; refine V712 ?_; exact y.o) : p := f ⟨h⟩
theorem V720 (h : q) (f : Hid q → p := by intro y; refine V713 ?_; exact y.o) : p := f ⟨h⟩
theorem V721 (h : q) (f : Hid q → p := by intro y; refine V714 ?_; exact y.o) : p := f ⟨h⟩
theorem V722 (h : q) (f : Hid q → p := by intro y; refine V715 ?_; exact y.o) : p := f ⟨h⟩
theorem V723 (h : q) (f : Hid q → p := by intro y; refine V716 ?_; exact y.o) : p := f ⟨h⟩
theorem V724 (h : q) (f : Hid q → p := by intro y; refine V718 ?_; exact y.o) : p := f ⟨h⟩
theorem V725 (h : q) (f : Hid q → p := by intro y; refine V719 ?_; exact y.o) : p := f ⟨h⟩
theorem V726 (h : q) (f : Hid q → p := by intro y; refine V720 ?_; exact y.o) : p := f ⟨h⟩
theorem V727 (h : q) (f : Hid q → p := by intro y; refine V721 ?_; exact y.o) : p := f ⟨h⟩
theorem V728 (h : q) (f : Hid q → p := by intro y; refine V722 ?_; exact y.o) : p := f ⟨h⟩
theorem V729 (h : q) (f : Hid q → p := by intro y; refine V723 ?_; exact y.o) : p := f ⟨h⟩
theorem V730 (h : q) (f : Hid q → p := by intro y; refine V724 ?_; exact y.o) : p := f ⟨h⟩
theorem V731 (h : q) (f : Hid q → p := by intro y; refine V725 ?_; exact y.o) : p := f ⟨h⟩
theorem V732 (h : q) (f : Hid q → p := by intro y; refine V726 ?_; exact y.o) : p := f ⟨h⟩
theorem V733 (h : q) (f : Hid q → p := by intro y; refine V727 ?_; exact y.o) : p := f ⟨h⟩
theorem V734 (h : q) (f : Hid q → p := by intro y; refine V728 ?_; exact y.o) : p := f ⟨h⟩
theorem V735 (h : q) (f : Hid q → p := by intro y; refine V729 ?_; exact y.o) : p := f ⟨h⟩
theorem V736 (h : q) (f : Hid q → p := by intro y; refine V730 ?_; exact y.o) : p := f ⟨h⟩
theorem V737 (h : q) (f : Hid q → p := by intro y; refine V731 ?_; exact y.o) : p := f ⟨h⟩
theorem V738 (h : q) (f : Hid q → p := by intro y; refine V732 ?_; exact y.o) : p := f ⟨h⟩
theorem V739 (h : q) (f : Hid q → p := by intro y; refine V733 ?_; exact y.o) : p := f ⟨h⟩
theorem V740 (h : q) (f : Hid q → p := by intro y; refine V734 ?_; exact y.o) : p := f ⟨h⟩
theorem V741 (h : q) (f : Hid q → p := by intro y; refine V735 ?_; exact y.o) : p := f ⟨h⟩
theorem V742 (h : q) (f : Hid q → p := by intro y; refine V736 ?_; exact y.o) : p := f ⟨h⟩
theorem V743 (h : q) (f : Hid q → p := by intro y; refine V737 ?_; exact y.o) : p := f ⟨h⟩
theorem V744 (h : q) (f : Hid q → p := by intro y; refine V738 ?_; exact y.o) : p := f ⟨h⟩
theorem V745 (h : q) (f : Hid q → p := by intro y; refine V739 ?_; exact y.o) : p := f ⟨h⟩
theorem V746 (h : q) (f : Hid q → p := by intro y; refine V740 ?_; exact y.o) : p := f ⟨h⟩
theorem V747 (h : q) (f : Hid q → p := by intro y; refine V741 ?_; exact y.o) : p := f ⟨h⟩
theorem V748 (h : q) (f : Hid q → p := by intro y; refine V742 ?_; exact y.o) : p := f ⟨h⟩
theorem V749 (h : q) (f : Hid q → p := by intro y; refine V743 ?_; exact y.o) : p := f ⟨h⟩
theorem V750 (h : q) (f : Hid q → p := by intro y; refine V744 ?_; exact y.o) : p := f ⟨h⟩
theorem V751 (h : q) (f : Hid q → p := by intro y; refine V745 ?_; exact y.o) : p := f ⟨h⟩
theorem V752 (h : q) (f : Hid q → p := by intro y; refine V746 ?_; exact y.o) : p := f ⟨h⟩
theorem V753 (h : q) (f : Hid q → p := by intro y; refine V747 ?_; exact y.o) : p := f ⟨h⟩
theorem V754 (h : q) (f : Hid q → p := by intro y; refine V748 ?_; exact y.o) : p := f ⟨h⟩
theorem V755 (h : q) (f : Hid q → p := by intro y; refine V749 ?_; exact y.o) : p := f ⟨h⟩
theorem V756 (h : q) (f : Hid q → p := by intro y; refine V750 ?_; exact y.o) : p := f ⟨h⟩
theorem V757 (h : q) (f : Hid q → p := by intro y; refine V751 ?_; exact y.o) : p := f ⟨h⟩
theorem V758 (h : q) (f : Hid q → p := by intro y; refine V752 ?_; exact y.o) : p := f ⟨h⟩
theorem V759 (h : q) (f : Hid q → p := by intro y; refine V753 ?_; exact y.o) : p := f ⟨h⟩
theorem V760 (h : q) (f : Hid q → p := by intro y; refine V754 ?_; exact y.o) : p := f ⟨h⟩
theorem V761 (h : q) (f : Hid q → p := by intro y; refine V755 ?_; exact y.o) : p := f ⟨h⟩
theorem V762 (h : q) (f : Hid q → p := by intro y; refine V756 ?_; exact y.o) : p := f ⟨h⟩
theorem V763 (h : q) (f : Hid q → p := by intro y; refine V757 ?_; exact y.o) : p := f ⟨h⟩
theorem V764 (h : q) (f : Hid q → p := by intro y; refine V758 ?_; exact y.o) : p := f ⟨h⟩
theorem V765 (h : q) (f : Hid q → p := by intro y; refine V759 ?_; exact y.o) : p := f ⟨h⟩
theorem V766 (h : q) (f : Hid q → p := by intro y; refine V760 ?_; exact y.o) : p := f ⟨h⟩
theorem V767 (h : q) (f : Hid q → p := by intro y; refine V761 ?_; exact y.o) : p := f ⟨h⟩
theorem V768 (h : q) (f : Hid q → p := by intro y; refine V762 ?_; exact y.o) : p := f ⟨h⟩
theorem V769 (h : q) (f : Hid q → p := by intro y; refine V763 ?_; exact y.o) : p := f ⟨h⟩
theorem V770 (h : q) (f : Hid q → p := by intro y; refine V764 ?_; exact y.o) : p := f ⟨h⟩
theorem V771 (h : q) (f : Hid q → p := by intro y; refine V765 ?_; exact y.o) : p := f ⟨h⟩
theorem V772 (h : q) (f : Hid q → p := by intro y; refine V766 ?_; exact y.o) : p := f ⟨h⟩
theorem V773 (h : q) (f : Hid q → p := by intro y; refine V767 ?_; exact y.o) : p := f ⟨h⟩
theorem V774 (h : q) (f : Hid q → p := by intro y; refine V768 ?_; exact y.o) : p := f ⟨h⟩
theorem V775 (h : q) (f : Hid q → p := by intro y; refine V769 ?_; exact y.o) : p := f ⟨h⟩
theorem V776 (h : q) (f : Hid q → p := by intro y; refine V770 ?_; exact y.o) : p := f ⟨h⟩
theorem V777 (h : q) (f : Hid q → p := by intro y; refine V771 ?_; exact y.o) : p := f ⟨h⟩
theorem V778 (h : q) (f : Hid q → p := by intro y; refine V772 ?_; exact y.o) : p := f ⟨h⟩
theorem V779 (h : q) (f : Hid q → p := by intro y; refine V773 ?_; exact y.o) : p := f ⟨h⟩
theorem V780 (h : q) (f : Hid q → p := by intro y; refine V774 ?_; exact y.o) : p := f ⟨h⟩
theorem V781 (h : q) (f : Hid q → p := by intro y; refine V775 ?_; exact y.o) : p := f ⟨h⟩
theorem V782 (h : q) (f : Hid q → p := by intro y; refine V776 ?_; exact y.o) : p := f ⟨h⟩
theorem V783 (h : q) (f : Hid q → p := by intro y; refine V777 ?_; exact y.o) : p := f ⟨h⟩
theorem V784 (h : q) (f : Hid q → p := by intro y; refine V778 ?_; exact y.o) : p := f ⟨h⟩
theorem V785 (h : q) (f : Hid q → p := by intro y; refine V779 ?_; exact y.o) : p := f ⟨h⟩
theorem V786 (h : q) (f : Hid q → p := by intro y; refine V780 ?_; exact y.o) : p := f ⟨h⟩
theorem V787 (h : q) (f : Hid q → p := by intro y; refine V781 ?_; exact y.o) : p := f ⟨h⟩
theorem V788 (h : q) (f : Hid q → p := by intro y; refine V782 ?_; exact y.o) : p := f ⟨h⟩
theorem V789 (h : q) (f : Hid q → p := by intro y; refine V783 ?_; exact y.o) : p := f ⟨h⟩
theorem V790 (h : q) (f : Hid q → p := by intro y; refine V784 ?_; exact y.o) : p := f ⟨h⟩
theorem V791 (h : q) (f : Hid q → p := by intro y; refine V785 ?_; exact y.o) : p := f ⟨h⟩
theorem V792 (h : q) (f : Hid q → p := by intro y; refine V786 ?_; exact y.o) : p := f ⟨h⟩
theorem V793 (h : q) (f : Hid q → p := by intro y; refine V787 ?_; exact y.o) : p := f ⟨h⟩
theorem V794 (h : q) (f : Hid q → p := by intro y; refine V788 ?_; exact y.o) : p := f ⟨h⟩
theorem V795 (h : q) (f : Hid q → p := by intro y; refine V789 ?_; exact y.o) : p := f ⟨h⟩
theorem V796 (h : q) (f : Hid q → p := by intro y; refine V790 ?_; exact y.o) : p := f ⟨h⟩
theorem V797 (h : q) (f : Hid q → p := by intro y; refine V791 ?_; exact y.o) : p := f ⟨h⟩
theorem V798 (h : q) (f : Hid q → p := by intro y; refine V792 ?_; exact y.o) : p := f ⟨h⟩
theorem V799 (h : q) (f : Hid q → p := by intro y; refine V793 ?_; exact y.o) : p := f ⟨h⟩
theorem V800 (h : q) (f : Hid q → p := by intro y; refine V794 ?_; exact y.o) : p := f ⟨h⟩
theorem V801 (h : q) (f : Hid q → p := by intro y; refine V795 ?_; exact y.o) : p := f ⟨h⟩
theorem V802 (h : q) (f : Hid q → p := by intro y; refine V796 ?_; exact y.o) : p := f ⟨h⟩
theorem V803 (h : q) (f : Hid q → p := by intro y; refine V797 ?_; exact y.o) : p := f ⟨h⟩
theorem V804 (h : q) (f : Hid q → p := by intro y; refine V798 ?_; exact y.o) : p := f ⟨h⟩
theorem V805 (h : q) (f : Hid q → p := by intro y; refine V799 ?_; exact y.o) : p := f ⟨h⟩
theorem V806 (h : q) (f : Hid q → p := by intro y; refine V800 ?_; exact y.o) : p := f ⟨h⟩
theorem V807 (h : q) (f : Hid q → p := by intro y; refine V801 ?_; exact y.o) : p := f ⟨h⟩
theorem V808 (h : q) (f : Hid q → p := by intro y; refine V802 ?_; exact y.o) : p := f ⟨h⟩
theorem V809 (h : q) (f : Hid q → p := by intro y; refine V803 ?_; exact y.o) : p := f ⟨h⟩
theorem V810 (h : q) (f : Hid q → p := by intro y; refine V804 ?_; exact y.o) : p := f ⟨h⟩
theorem V811 (h : q) (f : Hid q → p := by intro y; refine V805 ?_; exact y.o) : p := f ⟨h⟩
theorem V812 (h : q) (f : Hid q → p := by intro y; refine V806 ?_; exact y.o) : p := f ⟨h⟩
theorem V813 (h : q) (f : Hid q → p := by intro y; refine V807 ?_; exact y.o) : p := f ⟨h⟩
theorem V814 (h : q) (f : Hid q → p := by intro y; refine V808 ?_; exact y.o) : p := f ⟨h⟩
theorem V815 (h : q) (f : Hid q → p := by intro y; refine V809 ?_; exact y.o) : p := f ⟨h⟩
theorem V816 (h : q) (f : Hid q → p := by intro y; refine V810 ?_; exact y.o) : p := f ⟨h⟩
theorem V817 (h : q) (f : Hid q → p := by intro y; refine V811 ?_; exact y.o) : p := f ⟨h⟩
theorem V818 (h : q) (f : Hid q → p := by intro y; refine V812 ?_; exact y.o) : p := f ⟨h⟩
theorem V819 (h : q) (f : Hid q → p := by intro y; refine V813 ?_; exact y.o) : p := f ⟨h⟩
theorem V820 (h : q) (f : Hid q → p := by intro y; refine V814 ?_; exact y.o) : p := f ⟨h⟩
theorem V821 (h : q) (f : Hid q → p := by intro y; refine V815 ?_; exact y.o) : p := f ⟨h⟩
theorem V822 (h : q) (f : Hid q → p := by intro y; refine V816 ?_; exact y.o) : p := f ⟨h⟩
theorem V823 (h : q) (f : Hid q → p := by intro y; refine V817 ?_; exact y.o) : p := f ⟨h⟩
theorem V824 (h : q) (f : Hid q → p := by intro y; refine V818 ?_; exact y.o) : p := f ⟨h⟩
theorem V825 (h : q) (f : Hid q → p := by intro y; refine V819 ?_; exact y.o) : p := f ⟨h⟩
theorem V826 (h : q) (f : Hid q → p := by intro y; refine V820 ?_; exact y.o) : p := f ⟨h⟩
theorem V827 (h : q) (f : Hid q → p := by intro y; refine V821 ?_; exact y.o) : p := f ⟨h⟩
theorem V828 (h : q) (f : Hid q → p := by intro y; refine V822 ?_; exact y.o) : p := f ⟨h⟩
theorem V829 (h : q) (f : Hid q → p := by intro y; refine V823 ?_; exact y.o) : p := f ⟨h⟩
theorem V830 (h : q) (f : Hid q → p := by intro y; refine V824 ?_; exact y.o) : p := f ⟨h⟩
theorem V831 (h : q) (f : Hid q → p := by intro y; refine V825 ?_; exact y.o) : p := f ⟨h⟩
theorem V832 (h : q) (f : Hid q → p := by intro y; refine V826 ?_; exact y.o) : p := f ⟨h⟩
theorem V833 (h : q) (f : Hid q → p := by intro y; refine V827 ?_; exact y.o) : p := f ⟨h⟩
theorem V834 (h : q) (f : Hid q → p := by intro y; refine V828 ?_; exact y.o) : p := f ⟨h⟩
theorem V835 (h : q) (f : Hid q → p := by intro y; refine V829 ?_; exact y.o) : p := f ⟨h⟩
theorem V836 (h : q) (f : Hid q → p := by intro y; refine V830 ?_; exact y.o) : p := f ⟨h⟩
theorem V837 (h : q) (f : Hid q → p := by intro y; refine V831 ?_; exact y.o) : p := f ⟨h⟩
theorem V838 (h : q) (f : Hid q → p := by intro y; refine V832 ?_; exact y.o) : p := f ⟨h⟩
theorem V839 (h : q) (f : Hid q → p := by intro y; refine V833 ?_; exact y.o) : p := f ⟨h⟩
theorem V840 (h : q) (f : Hid q → p := by intro y; refine V834 ?_; exact y.o) : p := f ⟨h⟩
theorem V841 (h : q) (f : Hid q → p := by intro y; refine V835 ?_; exact y.o) : p := f ⟨h⟩
theorem V842 (h : q) (f : Hid q → p := by intro y; refine V836 ?_; exact y.o) : p := f ⟨h⟩
theorem V843 (h : q) (f : Hid q → p := by intro y; refine V837 ?_; exact y.o) : p := f ⟨h⟩
theorem V844 (h : q) (f : Hid q → p := by intro y; refine V838 ?_; exact y.o) : p := f ⟨h⟩
theorem V845 (h : q) (f : Hid q → p := by intro y; refine V839 ?_; exact y.o) : p := f ⟨h⟩
theorem V846 (h : q) (f : Hid q → p := by intro y; refine V840 ?_; exact y.o) : p := f ⟨h⟩
theorem V847 (h : q) (f : Hid q → p := by intro y; refine V841 ?_; exact y.o) : p := f ⟨h⟩
theorem V848 (h : q) (f : Hid q → p := by intro y; refine V842 ?_; exact y.o) : p := f ⟨h⟩
theorem V849 (h : q) (f : Hid q → p := by intro y; refine V843 ?_; exact y.o) : p := f ⟨h⟩
theorem V850 (h : q) (f : Hid q → p := by intro y; refine V844 ?_; exact y.o) : p := f ⟨h⟩
theorem V851 (h : q) (f : Hid q → p := by intro y; refine V845 ?_; exact y.o) : p := f ⟨h⟩
theorem V852 (h : q) (f : Hid q → p := by intro y; refine V846 ?_; exact y.o) : p := f ⟨h⟩
theorem V853 (h : q) (f : Hid q → p := by intro y; refine V847 ?_; exact y.o) : p := f ⟨h⟩
theorem V854 (h : q) (f : Hid q → p := by intro y; refine V848 ?_; exact y.o) : p := f ⟨h⟩
theorem V855 (h : q) (f : Hid q → p := by intro y; refine V849 ?_; exact y.o) : p := f ⟨h⟩
theorem V856 (h : q) (f : Hid q → p := by intro y; refine V850 ?_; exact y.o) : p := f ⟨h⟩
theorem V857 (h : q) (f : Hid q → p := by intro y; refine V851 ?_; exact y.o) : p := f ⟨h⟩
theorem V858 (h : q) (f : Hid q → p := by intro y; refine V852 ?_; exact y.o) : p := f ⟨h⟩
theorem V859 (h : q) (f : Hid q → p := by intro y; refine V853 ?_; exact y.o) : p := f ⟨h⟩
theorem V860 (h : q) (f : Hid q → p := by intro y; refine V854 ?_; exact y.o) : p := f ⟨h⟩
theorem V861 (h : q) (f : Hid q → p := by intro y; refine V855 ?_; exact y.o) : p := f ⟨h⟩
theorem V862 (h : q) (f : Hid q → p := by intro y; refine V856 ?_; exact y.o) : p := f ⟨h⟩

theorem mixed : Tryz.prog.follows .mixedOrders = true := by kernel_rfl

def swp (l : List Int) (j : Nat) : List Int := (l.set j (elt l ((j : Int) - 1))).set (j - 1) (elt l (j : Int))
theorem swp_len (l : List Int) (j : Nat) : (swp l j).length = l.length := by simp [swp]
theorem elt_get {l : List Int} {i : Nat} (h : i < l.length) : elt l (i : Int) = l[i] := by simp [elt, h]
theorem elt_swp {l : List Int} {j : Nat} (hj : 0 < j) (hl : j < l.length) (q : Nat) (hq : q < l.length) : elt (swp l j) (q : Int) = if q = j then elt l ((j - 1 : Nat) : Int) else if q = j - 1 then elt l (j : Int) else elt l (q : Int) := by
  have e1 : elt l ((j : Int) - 1) = elt l ((j - 1 : Nat) : Int) := by congr 1; omega
  rw [elt_get (by rw [swp_len]; exact hq)]; simp only [swp, e1, List.getElem_set]
  by_cases h1 : q = j
  · subst h1
    rw [if_pos rfl, if_neg J5, if_pos rfl]
  rw [if_neg h1]
  by_cases h2 : q = j - 1
  · rw [if_pos h2, if_pos h2.symm]
  rw [if_neg h2, if_neg (fun h => h2 h.symm), if_neg (fun h => h1 h.symm), elt_get hq]
theorem swp_perm {l : List Int} {j : Nat} (hj : 0 < j) (hl : j < l.length) : (swp l j).Perm l := by
  obtain ⟨k, rfl⟩ : ∃ k, j = k + 1 := ⟨j - 1, by omega⟩; have h1 : l = l.take k ++ l[k] :: l[k + 1] :: l.drop (k + 2) := by
    rw [List.getElem_cons_drop, List.getElem_cons_drop, List.take_append_drop]
  have h2 : swp l (k + 1) = l.take k ++ l[k + 1] :: l[k] :: l.drop (k + 2) := by
    refine List.ext_getElem ?_ fun i hi hi2 => ?_
    · rw [swp_len]; simp; omega
    have hi3 : i < l.length := by rw [swp_len] at hi; exact hi
    have := elt_swp (l := l) (j := k + 1) J5 hl i hi3; rw [elt_get hi] at this; rw [this]
    by_cases c1 : i = k + 1
    · subst c1
      rw [if_pos rfl, elt_get J5]; rw [List.getElem_append_right J45]; simp [show min k l.length = k from by omega, show k + 1 - k = 1 from by omega]
    rw [if_neg c1]
    by_cases c2 : i = k
    · subst c2
      rw [if_pos J5, elt_get J5]; rw [List.getElem_append_right J45]; simp [show min i l.length = i from by omega]
    rw [if_neg J5, elt_get hi3]
    by_cases c3 : i < k
    · rw [List.getElem_append_left J45]
      simp
    rw [List.getElem_append_right J45]; have : i - min k l.length = (i - (k + 2)) + 2 := by omega
    simp only [List.length_take, this, List.getElem_cons_succ, List.getElem_drop]
    congr 1
    omega
  rw [h2]
  conv => rhs; rw [h1]
  exact List.Perm.append_left _ (List.Perm.swap _ _ _)
def Srt (κ : Int → Int) (l : List Int) (i j : Nat) : Prop := ∀ p q : Nat, p < q → q < i → q ≠ j → κ (elt l (p : Int)) ≤ κ (elt l (q : Int))
theorem Srt.step {κ : Int → Int} {l : List Int} {i j : Nat} (h : Srt κ l i j) (hj : 0 < j) (hi : j < i) (hl : i ≤ l.length) (hlt : κ (elt l (j : Int)) < κ (elt l ((j - 1 : Nat) : Int))) : Srt κ (swp l j) i (j - 1) := by
  intro p q hpq hq hqj; rw [elt_swp hj J5 p J5, elt_swp hj J5 q J5]
  by_cases q1 : q = j
  · subst q1
    rw [if_pos rfl, if_neg (show ¬ p = q by omega)]
    by_cases p1 : p = q - 1
    · rw [if_pos p1]; omega
    rw [if_neg p1]; exact h p (q - 1) J5 J5 J5
  rw [if_neg q1, if_neg hqj]
  by_cases p1 : p = j
  · rw [if_pos p1]; exact h (j - 1) q J5 hq q1
  rw [if_neg p1]
  by_cases p2 : p = j - 1
  · rw [if_pos p2]; exact h j q J5 hq q1
  rw [if_neg p2]; exact h p q hpq hq q1
theorem Srt.stop {κ : Int → Int} {l : List Int} {i j : Nat} (h : Srt κ l i j) (hj : j = 0 ∨ κ (elt l ((j - 1 : Nat) : Int)) ≤ κ (elt l (j : Int))) : Srt κ l i i := by
  intro p q hpq hq _
  by_cases q1 : q = j
  · subst q1
    rcases hj with h0 | h0
    · omega
    by_cases p1 : p = q - 1
    · subst p1; exact h0
    exact Int.le_trans (h p (q - 1) J5 J5 J5) h0
  exact h p q hpq hq q1
theorem Srt.next {κ : Int → Int} {l : List Int} {i : Nat} (h : Srt κ l i i) : Srt κ l (i + 1) i := fun p q hpq hq hqi => h p q hpq J5 hqi

theorem ints_swp {l : List Int} {j : Nat} (hj : 0 < j) : ((ints .i64 l).set ((j : Int).toNat * 1) (.int .i64 (elt l ((j : Int) - 1)))).set (((j : Int) - 1).toNat * 1) (.int .i64 (elt l (j : Int))) = ints .i64 (swp l j) := by
  rw [show (j : Int).toNat * 1 = j from by omega, show ((j : Int) - 1).toNat * 1 = j - 1 from by omega]; simp [ints, swp, List.map_set]
def Cmps (w : World) (M : List Nat) (k : Nat) (cap : Array Value) (κ : Int → Int) (xs : List Int) : Prop :=
  ∀ x ∈ xs, ∀ y ∈ xs, ∀ W L, St w M W L → Calls Tryz.prog k (Value.int .i64 x :: .int .i64 y :: cap.toList).toArray W (Ret fun v w' => (∃ z : Int, v = .int .i64 z ∧ (z < 0 ↔ κ x < κ y)) ∧ St W [] w' [])
theorem inssort (g n c T k : Nat) (cap : Array Value) (κ : Int → Int) (xs : List Int) (w : World) (hs : St w (idsOf [Ent.row (.slice (some ⟨g, 0, none⟩) n c) T 1 n (ints .i64 xs)]) w [Ent.row (.slice (some ⟨g, 0, none⟩) n c) T 1 n (ints .i64 xs)])
    (hl : xs.length = n) (hn : n ≤ 12) (hk : ∀ args w, (callFunc k args).run Tryz.prog w = .ok (.enter k args) w) (hc : Cmps w (idsOf [Ent.row (.slice (some ⟨g, 0, none⟩) n c) T 1 n (ints .i64 xs)]) k cap κ xs) :
    Calls Tryz.prog 172 #[.slice (some ⟨g, 0, none⟩) n c, .int .i64 0, .int .i64 (n : Int), .func (.func k) #[] cap] w (Ret fun v w' => v = .tuple #[] ∧ ∃ ys, ys.Perm xs ∧ Srt κ ys n n ∧ St w (idsOf [Ent.row (.slice (some ⟨g, 0, none⟩) n c) T 1 n (ints .i64 xs)]) w' [Ent.row (.slice (some ⟨g, 0, none⟩) n c) T 1 n (ints .i64 ys)]) := by
  generalize hM : idsOf [Ent.row (.slice (some ⟨g, 0, none⟩) n c) T 1 n (ints .i64 xs)] = M at *; refine Z.enter func172 rfl ntmps172 rfl rfl ?_; refine V363 ?_; refine V33 ?_; refine Z.only [0, 1, 2, 3, 8] rfl ?_; refine V861 ?_; refine Z.loopk (ι := Nat × List Int) [0, 1, 2, 3] rfl (fun x => [(8, [], .int .i64 (x.1 : Int))]) (fun x wr => (1 ≤ x.1 ∧ (x.1 ≤ n ∨ x.1 = 1) ∧ x.2.Perm xs ∧ Srt κ x.2 x.1 x.1) ∧ St w M wr [Ent.row (.slice (some ⟨g, 0, none⟩) n c) T 1 n (ints .i64 x.2)]) (fun x => 13 - x.1) (1, xs) J6 ⟨⟨by simp, .inr rfl, List.Perm.refl _, fun p q h1 h2 _ => by simp only at h2; omega⟩, hs⟩ ?_; clear hs; rintro ⟨i, ys⟩ w1 ⟨⟨hi1, hi, hp, hS⟩, hs⟩; refine Z.only [0, 1, 2, 3, 8] rfl ?_
  (try dsimp only at hs)
  dsimp only at hi1 hi hp hS hs; refine V182 ?_; refine V184 ?_; refine Z.only [0, 1, 2, 3, 8, 14] rfl ?_; refine V6 ?_; refine Z.cond rfl (fun hc1 => ?_) (fun hc1 => ?_)
  · (try simp at hc1)
    have hin : i < n := by omega
    refine V150 ?_; refine V151 ?_; refine V235 ?_; refine V861 ?_; refine Z.loopk (ι := Nat × List Int) [0, 1, 2, 3, 8] rfl (fun x => [(9, [], .int .i64 (x.1 : Int))]) (fun x wr => (x.1 ≤ i ∧ x.2.Perm xs ∧ Srt κ x.2 (i + 1) x.1) ∧ St w M wr [Ent.row (.slice (some ⟨g, 0, none⟩) n c) T 1 n (ints .i64 x.2)]) (fun x => x.1) (i, ys) J6 ⟨⟨Nat.le_refl _, hp, hS.next⟩, hs⟩ ?_; clear hs; rintro ⟨j, zs⟩ w4 ⟨⟨hj, hp, hS⟩, hs⟩; refine V235 ?_
    (try dsimp only at hs)
    dsimp only at hj hp hS hs; have hzl : zs.length = n := by rw [hp.length_eq, hl]
    refine V141 ?_; refine V96 ?_; clear hs; intro wd4 hs; refine Z.tb [0, 1, 2, 3] J3 rfl (Jk hs) rfl ?_; refine Z.split (s := 21) rfl (fun hsp21 => ?_) (fun hsp21 => ?_)
    · refine Z.yes (s := 21) (b := true) rfl hsp21 rfl ?_
      (try simp at hsp21)
      have hx1 : elt zs (j : Int) ∈ xs := hp.subset (by rw [elt_get J5]; exact List.getElem_mem _); have hx2 : elt zs ((j : Int) - 1) ∈ xs := hp.subset (by rw [show (j : Int) - 1 = ((j - 1 : Nat) : Int) from by omega, elt_get J5]; exact List.getElem_mem _); refine Z.tb [4, 5, 6] J3 rfl (Jk hs) rfl ?_; refine V565 ?_; refine Z.t 8 rfl rfl rfl (by rfl) J3 (Jk hs) J60 ?_; refine Z.tb [9, 10] J3 rfl (Jk hs) rfl ?_; refine Z.t 11 rfl rfl rfl (by rfl) J3 (Jk hs) (Z.Yd.sub rfl rfl (fun hG => Z.wi64 J2)) ?_; refine V294 ?_; refine Z.t 13 rfl rfl rfl (by rfl) J3 (Jk hs) J60 ?_; refine Z.yes (s := 21) (b := true) rfl rfl rfl ?_; refine Z.tn 14 rfl rfl J3 rfl J7 ?_; refine Z.ZO.call rfl rfl (by rfl) rfl rfl hk J34 (hc _ hx1 _ hx2 _ _ hs) ?_; rintro v4_14 w4_14 ⟨⟨z, rfl, hz⟩, hy⟩; replace hs := U0 (hs.call hy); clear hy; refine Z.tk (Dn := fun _ => true) (i := 14) (fun _ => (Jk hs)) ?_; refine Z.tb [15] J3 rfl (Jk hs) rfl ?_; refine Z.yes (s := 21) (b := true) rfl rfl rfl ?_; refine Z.t 16 rfl rfl rfl (by rfl) J3 (Jk hs) (Z.Yd.pickT rfl rfl) ?_; refine V40 ?_; refine Z.only [0, 1, 2, 3, 8, 9, 34] rfl ?_; refine V6 ?_; refine Z.cond rfl (fun hc4 => ?_) (fun hc4 => ?_)
      · (try simp at hc4)
        refine V150 ?_; refine Z.drawL [] (fun _ => true) mixed hs ?_; clear hs; intro wd6 hs; refine Z.tb [0, 1, 2, 3] J3 rfl (Jk hs) rfl ?_; refine Z.t 4 rfl rfl rfl (by rfl) J3 (Jk hs) (Z.Yd.sub rfl rfl (fun hG => Z.wi64 J2)) ?_; refine Z.tb [5, 6] J3 rfl (Jk hs) rfl ?_; refine Z.t 7 rfl rfl rfl (by rfl) J3 (Jk hs) (Z.Yd.sub rfl rfl (fun hG => Z.wi64 J2)) ?_; refine V566 ?_; refine Z.tb [10, 11] J3 rfl (Jk hs) rfl ?_; refine V294 ?_; refine Z.fork2 9 13 rfl rfl rfl J3 rfl rfl trivial trivial ?_ ?_
        · skip
          refine V551 ?_; refine V419 ?_; refine V350 ?_; refine V551 ?_; refine V222 ?_; refine V388 ?_; clear hs; intro ws hs; replace hs := U1 hs; refine V286 ?_; clear hs; intro ws hs; replace hs := U1 hs; refine V317 ?_; refine V40 ?_; refine V235 ?_; refine V270 ?_; refine V42 ?_; rw [ints_swp J5] at hs; refine V18 ?_; refine V395 ?_; refine V235 ?_; refine V6 ?_; exact Z.again (j - 1, swp zs j) J21 ⟨⟨by simp only; omega, (swp_perm J5 J5).trans hp, hS.step J5 J5 J5 J130⟩, hs⟩ J22
        skip
        refine V551 ?_; refine V222 ?_; refine V586 ?_; refine V551 ?_; refine V419 ?_; refine V388 ?_; clear hs; intro ws hs; replace hs := U1 hs; refine V286 ?_; clear hs; intro ws hs; replace hs := U1 hs; refine V317 ?_; refine V40 ?_; refine V235 ?_; refine V270 ?_; refine V42 ?_; rw [ints_swp J5] at hs; refine V18 ?_; refine V395 ?_; refine V235 ?_; refine V6 ?_; exact Z.again (j - 1, swp zs j) J21 ⟨⟨by simp only; omega, (swp_perm J5 J5).trans hp, hS.step J5 J5 J5 J130⟩, hs⟩ J22
      (try simp at hc4)
      have hst3 : j = 0 ∨ κ (elt zs ((j - 1 : Nat) : Int)) ≤ κ (elt zs (j : Int)) := by
        (right; rw [show ((j - 1 : Nat) : Int) = (j : Int) - 1 from by omega]; exact Int.not_lt.1 fun h => absurd (hz.2 h) J5)
      refine V10 ?_; refine V302 ?_; refine Z.only [0, 1, 2, 3, 8] rfl ?_; refine V6 ?_; exact Z.again (i + 1, zs) J8 ⟨⟨by simp only; omega, .inl J22, hp, hS.stop hst3⟩, hs⟩ J22
    refine V414 ?_
    (try simp at hsp21)
    have hst : j = 0 ∨ κ (elt zs ((j - 1 : Nat) : Int)) ≤ κ (elt zs (j : Int)) := .inl J5; refine Z.t 4 rfl rfl rfl (by rfl) J3 (Jk hs) (Z.Yd.off (v := undef) 21 true rfl J65 J93) ?_; refine Z.t 5 rfl rfl rfl (by rfl) J3 (Jk hs) (Z.Yd.off (v := undef) 21 true rfl J65 J93) ?_; refine Z.t 6 rfl rfl rfl (by rfl) J3 (Jk hs) (Z.Yd.off (v := undef) 21 true rfl J65 J93) ?_; refine Z.t 7 rfl rfl rfl (by rfl) J3 (Jk hs) (Z.Yd.off (v := undef) 21 true rfl J65 J93) ?_; refine Z.t 8 rfl rfl rfl (by rfl) J3 (Jk hs) (Z.Yd.off (v := undef) 21 true rfl J65 J93) ?_; refine Z.t 9 rfl rfl rfl (by rfl) J3 (Jk hs) (Z.Yd.off (v := undef) 21 true rfl J65 J93) ?_; refine Z.t 10 rfl rfl rfl (by rfl) J3 (Jk hs) (Z.Yd.off (v := undef) 21 true rfl J65 J93) ?_; refine Z.t 11 rfl rfl rfl (by rfl) J3 (Jk hs) (Z.Yd.off (v := undef) 21 true rfl J65 J93) ?_; refine Z.t 12 rfl rfl rfl (by rfl) J3 (Jk hs) (Z.Yd.off (v := undef) 21 true rfl J65 J93) ?_; refine Z.t 13 rfl rfl rfl (by rfl) J3 (Jk hs) (Z.Yd.off (v := undef) 21 true rfl J65 J93) ?_; refine Z.yes (s := 21) (b := false) rfl rfl rfl ?_; refine Z.tnS 21 true 14 rfl rfl J3 rfl rfl J16 rfl (by rfl) (fun _ => (Jk hs)) ?_; refine Z.t 15 rfl rfl rfl (by rfl) J3 (Jk hs) (Z.Yd.off (v := undef) 21 true rfl J65 J93) ?_; refine Z.yes (s := 21) (b := false) rfl rfl rfl ?_; refine Z.t 16 rfl rfl rfl (by rfl) J3 (Jk hs) (Z.Yd.pickF rfl rfl) ?_; refine V40 ?_; refine Z.only [0, 1, 2, 3, 8, 9, 34] rfl ?_; refine V6 ?_
    refine Z.cond rfl (fun hc4 => ?_) (fun hc4 => ?_)
    · (exfalso; simp at hc4 <;> omega)
    (try simp at hc4)
    have hst3 : j = 0 ∨ κ (elt zs ((j - 1 : Nat) : Int)) ≤ κ (elt zs (j : Int)) := by
      exact hst
    refine V10 ?_; refine V302 ?_; refine Z.only [0, 1, 2, 3, 8] rfl ?_; refine V6 ?_; exact Z.again (i + 1, zs) J8 ⟨⟨by simp only; omega, .inl J22, hp, hS.stop hst3⟩, hs⟩ J22
  (try simp at hc1)
  refine V10 ?_; refine Z.out0n trivial ?_; exact ⟨_, rfl, rfl, ys, hp, fun p q h1 h2 h3 => hS p q h1 J5 J5, hs⟩

theorem bl64_1 (w : World) : Calls Tryz.prog 181 #[.int .u64 1] w (Ret fun v w' => (∃ z : Int, v = .int .i64 z) ∧ St w [] w' []) := by
  have hs := St.start w; refine V603 ?_; refine Z.cond rfl (fun h => absurd h J16) (fun hc1 => ?_); refine V613 ?_; refine Z.cond rfl (fun h => absurd h J16) (fun hc4 => ?_); refine V622 ?_; refine Z.cond rfl (fun h => absurd h J16) (fun hc7 => ?_); refine V367 ?_; refine V49 ?_; refine Z.l rfl rfl (by rfl) (Z.keepS hs) (Z.Yd.index (v := .int .u8 1) rfl rfl J56) ?_; refine V37 ?_; refine V33 ?_; refine V120 ?_; exact ⟨_, rfl, ⟨_, rfl⟩, hs⟩
theorem bl64_2 (w : World) : Calls Tryz.prog 181 #[.int .u64 2] w (Ret fun v w' => (∃ z : Int, v = .int .i64 z) ∧ St w [] w' []) := by
  have hs := St.start w; refine V603 ?_; refine Z.cond rfl (fun h => absurd h J16) (fun hc1 => ?_); refine V613 ?_; refine Z.cond rfl (fun h => absurd h J16) (fun hc4 => ?_); refine V622 ?_; refine Z.cond rfl (fun h => absurd h J16) (fun hc7 => ?_); refine V417 ?_; exact ⟨_, rfl, ⟨_, rfl⟩, hs⟩
theorem bl64_3 (w : World) : Calls Tryz.prog 181 #[.int .u64 3] w (Ret fun v w' => (∃ z : Int, v = .int .i64 z) ∧ St w [] w' []) := by
  have hs := St.start w; refine V603 ?_; refine Z.cond rfl (fun h => absurd h J16) (fun hc1 => ?_); refine V613 ?_; refine Z.cond rfl (fun h => absurd h J16) (fun hc4 => ?_); refine V622 ?_; refine Z.cond rfl (fun h => absurd h J16) (fun hc7 => ?_); refine V417 ?_; exact ⟨_, rfl, ⟨_, rfl⟩, hs⟩
theorem bl64_4 (w : World) : Calls Tryz.prog 181 #[.int .u64 4] w (Ret fun v w' => (∃ z : Int, v = .int .i64 z) ∧ St w [] w' []) := by
  have hs := St.start w; refine V603 ?_; refine Z.cond rfl (fun h => absurd h J16) (fun hc1 => ?_); refine V613 ?_; refine Z.cond rfl (fun h => absurd h J16) (fun hc4 => ?_); refine V622 ?_; refine Z.cond rfl (fun h => absurd h J16) (fun hc7 => ?_); refine V367 ?_; refine V167 ?_; exact ⟨_, rfl, ⟨_, rfl⟩, hs⟩
theorem bl64_5 (w : World) : Calls Tryz.prog 181 #[.int .u64 5] w (Ret fun v w' => (∃ z : Int, v = .int .i64 z) ∧ St w [] w' []) := by
  have hs := St.start w; refine V603 ?_; refine Z.cond rfl (fun h => absurd h J16) (fun hc1 => ?_); refine V613 ?_; refine Z.cond rfl (fun h => absurd h J16) (fun hc4 => ?_); refine V622 ?_; refine Z.cond rfl (fun h => absurd h J16) (fun hc7 => ?_); refine V367 ?_; refine V167 ?_; exact ⟨_, rfl, ⟨_, rfl⟩, hs⟩
theorem bl64_6 (w : World) : Calls Tryz.prog 181 #[.int .u64 6] w (Ret fun v w' => (∃ z : Int, v = .int .i64 z) ∧ St w [] w' []) := by
  have hs := St.start w; refine V603 ?_; refine Z.cond rfl (fun h => absurd h J16) (fun hc1 => ?_); refine V613 ?_; refine Z.cond rfl (fun h => absurd h J16) (fun hc4 => ?_); refine V622 ?_; refine Z.cond rfl (fun h => absurd h J16) (fun hc7 => ?_); refine V367 ?_; refine V167 ?_; exact ⟨_, rfl, ⟨_, rfl⟩, hs⟩
theorem bl64_7 (w : World) : Calls Tryz.prog 181 #[.int .u64 7] w (Ret fun v w' => (∃ z : Int, v = .int .i64 z) ∧ St w [] w' []) := by
  have hs := St.start w; refine V603 ?_; refine Z.cond rfl (fun h => absurd h J16) (fun hc1 => ?_); refine V613 ?_; refine Z.cond rfl (fun h => absurd h J16) (fun hc4 => ?_); refine V622 ?_; refine Z.cond rfl (fun h => absurd h J16) (fun hc7 => ?_); refine V367 ?_; refine V167 ?_; exact ⟨_, rfl, ⟨_, rfl⟩, hs⟩
theorem bl64_8 (w : World) : Calls Tryz.prog 181 #[.int .u64 8] w (Ret fun v w' => (∃ z : Int, v = .int .i64 z) ∧ St w [] w' []) := by
  have hs := St.start w; refine V603 ?_; refine Z.cond rfl (fun h => absurd h J16) (fun hc1 => ?_); refine V613 ?_; refine Z.cond rfl (fun h => absurd h J16) (fun hc4 => ?_); refine V622 ?_; refine Z.cond rfl (fun h => absurd h J16) (fun hc7 => ?_); refine V367 ?_; refine V258 ?_; exact ⟨_, rfl, ⟨_, rfl⟩, hs⟩
theorem bl64_9 (w : World) : Calls Tryz.prog 181 #[.int .u64 9] w (Ret fun v w' => (∃ z : Int, v = .int .i64 z) ∧ St w [] w' []) := by
  have hs := St.start w; refine V603 ?_; refine Z.cond rfl (fun h => absurd h J16) (fun hc1 => ?_); refine V613 ?_; refine Z.cond rfl (fun h => absurd h J16) (fun hc4 => ?_); refine V622 ?_; refine Z.cond rfl (fun h => absurd h J16) (fun hc7 => ?_); refine V367 ?_; refine V258 ?_; exact ⟨_, rfl, ⟨_, rfl⟩, hs⟩
theorem bl64_10 (w : World) : Calls Tryz.prog 181 #[.int .u64 10] w (Ret fun v w' => (∃ z : Int, v = .int .i64 z) ∧ St w [] w' []) := by
  have hs := St.start w; refine V603 ?_; refine Z.cond rfl (fun h => absurd h J16) (fun hc1 => ?_); refine V613 ?_; refine Z.cond rfl (fun h => absurd h J16) (fun hc4 => ?_); refine V622 ?_; refine Z.cond rfl (fun h => absurd h J16) (fun hc7 => ?_); refine V367 ?_; refine V258 ?_; exact ⟨_, rfl, ⟨_, rfl⟩, hs⟩
theorem bl64 (n : Nat) (w : World) (h1 : 1 ≤ n) (h2 : n ≤ 10) : Calls Tryz.prog 181 #[.int .u64 (n : Int)] w (Ret fun v w' => (∃ z : Int, v = .int .i64 z) ∧ St w [] w' []) := by
  have h : n = 1 ∨ n = 2 ∨ n = 3 ∨ n = 4 ∨ n = 5 ∨ n = 6 ∨ n = 7 ∨ n = 8 ∨ n = 9 ∨ n = 10 := by omega
  rcases h with rfl | rfl | rfl | rfl | rfl | rfl | rfl | rfl | rfl | rfl
  · exact bl64_1 w
  · exact bl64_2 w
  · exact bl64_3 w
  · exact bl64_4 w
  · exact bl64_5 w
  · exact bl64_6 w
  · exact bl64_7 w
  · exact bl64_8 w
  · exact bl64_9 w
  exact bl64_10 w
theorem bitslen (n : Nat) (w : World) (h1 : 1 ≤ n) (h2 : n ≤ 10) : Calls Tryz.prog 132 #[.int .u64 (n : Int)] w (Ret fun v w' => (∃ z : Int, v = .int .i64 z) ∧ St w [] w' []) := by
  have hs := St.start w; refine Z.enter func132 rfl ntmps132 rfl rfl ?_; refine V336 ?_; refine V210 ?_; refine Z.cond rfl (fun h => absurd h J16) (fun hc0 => ?_); refine V862 ?_; refine V62 ?_; refine Z.ZO.call rfl rfl (by rfl) rfl rfl call181 rfl (bl64 n _ h1 h2) ?_; rintro v2_1 w2_1 ⟨⟨z, rfl⟩, hy⟩; replace hs := U0 (hs.call hy); clear hy; refine V186 ?_; exact ⟨_, rfl, ⟨_, rfl⟩, hs⟩

theorem pdqsort (g n c T k : Nat) (z : Int) (cap : Array Value) (κ : Int → Int) (xs : List Int) (w : World) (hs : St w (idsOf [Ent.row (.slice (some ⟨g, 0, none⟩) n c) T 1 n (ints .i64 xs)]) w [Ent.row (.slice (some ⟨g, 0, none⟩) n c) T 1 n (ints .i64 xs)])
    (hl : xs.length = n) (hn : n ≤ 10) (hk : ∀ args w, (callFunc k args).run Tryz.prog w = .ok (.enter k args) w) (hc : Cmps w (idsOf [Ent.row (.slice (some ⟨g, 0, none⟩) n c) T 1 n (ints .i64 xs)]) k cap κ xs) :
    Calls Tryz.prog 131 #[.slice (some ⟨g, 0, none⟩) n c, .int .i64 0, .int .i64 (n : Int), .int .i64 z, .func (.func k) #[] cap] w (Ret fun v w' => v = .tuple #[] ∧ ∃ ys, ys.Perm xs ∧ Srt κ ys n n ∧ St w (idsOf [Ent.row (.slice (some ⟨g, 0, none⟩) n c) T 1 n (ints .i64 xs)]) w' [Ent.row (.slice (some ⟨g, 0, none⟩) n c) T 1 n (ints .i64 ys)]) := by
  have hI := inssort g n c T k cap κ xs w hs hl J5 hk hc; generalize hM : idsOf [Ent.row (.slice (some ⟨g, 0, none⟩) n c) T 1 n (ints .i64 xs)] = M at *; refine Z.enter func131 rfl ntmps131 rfl rfl ?_; refine V121 ?_; refine Z.only [0, 1, 2, 3, 4, 10] rfl ?_; refine V511 ?_; refine V252 ?_; refine V861 ?_; refine Z.loopk (ι := Unit) [0, 4] rfl (fun _ => [(1, [], .int .i64 0), (2, [], .int .i64 (n : Int)), (3, [], .int .i64 z), (10, [], .bool true), (11, [], .bool true)]) (fun _ wr => wr = w ∧ St w M wr [Ent.row (.slice (some ⟨g, 0, none⟩) n c) T 1 n (ints .i64 xs)]) (fun _ => 0) () J8 ⟨rfl, hs⟩ ?_; clear hs; rintro _ w1 ⟨rfl, hs⟩; refine V252 ?_; refine V171 ?_; refine V0 ?_; refine V11 ?_; refine V395 ?_; refine Z.only [0, 1, 2, 3, 4, 10, 11, 12] rfl ?_; refine V84 ?_; refine Z.only [0, 1, 2, 3, 4, 10, 11, 12, 25] rfl ?_; refine V6 ?_; refine Z.cond rfl (fun hc3 => ?_) (fun h => absurd h J45); refine V0 ?_; refine V259 ?_; refine V2 ?_; refine Z.ZO.call rfl rfl (by rfl) rfl rfl call172 rfl (hI) ?_; rintro v4_4 w4_4 ⟨rfl, ys, hp, hS, hz⟩; refine V857 ?_; refine Z.only [] rfl ?_; refine V90 ?_
  repeat (first | refine Z.rthen ?_ | refine Z.rblock ?_ | refine Z.rscope ?_)
  refine Z.out0 trivial ?_; exact ⟨_, rfl, rfl, ys, hp, hS, hz⟩
theorem sortfunc (g n c T k : Nat) (cap : Array Value) (κ : Int → Int) (xs : List Int) (w : World) (hs : St w (idsOf [Ent.row (.slice (some ⟨g, 0, none⟩) n c) T 1 n (ints .i64 xs)]) w [Ent.row (.slice (some ⟨g, 0, none⟩) n c) T 1 n (ints .i64 xs)])
    (hl : xs.length = n) (h1 : 1 ≤ n) (hn : n ≤ 10) (hk : ∀ args w, (callFunc k args).run Tryz.prog w = .ok (.enter k args) w) (hc : Cmps w (idsOf [Ent.row (.slice (some ⟨g, 0, none⟩) n c) T 1 n (ints .i64 xs)]) k cap κ xs) :
    Calls Tryz.prog 74 #[.slice (some ⟨g, 0, none⟩) n c, .func (.func k) #[] cap] w (Ret fun v w' => v = .tuple #[] ∧ ∃ ys, ys.Perm xs ∧ Srt κ ys n n ∧ St w (idsOf [Ent.row (.slice (some ⟨g, 0, none⟩) n c) T 1 n (ints .i64 xs)]) w' [Ent.row (.slice (some ⟨g, 0, none⟩) n c) T 1 n (ints .i64 ys)]) := by
  generalize hM : idsOf [Ent.row (.slice (some ⟨g, 0, none⟩) n c) T 1 n (ints .i64 xs)] = M at *; refine Z.enter func74 rfl ntmps74 rfl rfl ?_; refine V363 ?_; refine V248 ?_; refine Z.only [0, 1, 4] rfl ?_; refine V300 ?_; refine V50 ?_; refine V534 ?_; refine V2 ?_; refine Z.ZO.call rfl rfl (by rfl) rfl rfl call132 rfl (bitslen n _ h1 hn) ?_; rintro v1_4 w1_4 ⟨⟨z, rfl⟩, hy⟩; replace hs := U0 (hs.call hy); clear hy; refine V62 ?_; refine Z.ZO.call rfl rfl (by rfl) rfl rfl call131 rfl (pdqsort g n c T k z cap κ xs _ (hs.lend (L2 := [])) hl hn hk (fun x hx y hy' W L hW ↦ hc x hx y hy' W L (by have h0 := St.regain (L2 := []) hs hW; rw [List.append_nil] at h0; exact h0))) ?_; rintro v1_6 w1_6 ⟨rfl, ys, hp, hS, hz⟩; replace hs := hs.regain (L2 := []) hz; refine V857 ?_; refine V77 ?_; exact ⟨_, rfl, rfl, ys, hp, hS, hs⟩

structure LgV where
  id : Int
  pr : Int
  rt : Int
  dp : Int
  gr : Int
deriving DecidableEq, Inhabited
def LgV.cells (x : LgV) : List Value := [.int .i64 x.id, .int .i64 x.pr, .int .i64 x.rt, .int .i64 x.dp, .int .i64 x.gr]
def chC : LgV × Int → List Value
  | (x, b) => [.int .i64 x.id, .int .i64 x.pr, .int .i64 x.rt, .int .i64 x.dp, .int .i64 x.gr, .int .i64 b]
theorem lg_len (x : LgV) : x.cells.length = 5 := rfl
theorem ch_len (x : LgV × Int) : (chC x).length = 6 := rfl
theorem lg_one (x : LgV) : ∀ u ∈ x.cells, u.oneCell' = true := by simp [LgV.cells, Value.oneCell']
theorem ch_one (x : LgV × Int) : ∀ u ∈ chC x, u.oneCell' = true := by simp [chC, Value.oneCell']
theorem flat_len {α β : Type} {enc : α → List β} {s : Nat} (hs : ∀ x, (enc x).length = s) (l : List α) : (l.flatMap enc).length = l.length * s := by
  induction l with
  | nil => simp
  | cons x l ih => rw [List.flatMap_cons, List.length_append, ih, hs, List.length_cons, Nat.succ_mul]; omega
theorem flat_one {α : Type} {enc : α → List Value} (hs : ∀ x, ∀ u ∈ enc x, u.oneCell' = true) (l : List α) : ∀ u ∈ l.flatMap enc, u.oneCell' = true := by
  intro u hu; obtain ⟨x, -, hx⟩ := List.mem_flatMap.1 hu; exact hs x u hx
def okLg (x : LgV) : Prop := (1 ≤ x.id ∧ x.id ≤ 10) ∧ (1 ≤ x.pr ∧ x.pr ≤ 16) ∧ (0 ≤ x.rt ∧ x.rt ≤ 1048576) ∧ (0 ≤ x.dp ∧ x.dp ≤ 16777216) ∧ 0 ≤ x.gr ∧ x.gr ≤ 3
instance (x : LgV) : Decidable (okLg x) := by unfold okLg; infer_instance
def ids (l : List LgV) : Prop := l.Pairwise fun x y => x.id ≠ y.id
instance (l : List LgV) : Decidable (ids l) := by unfold ids; infer_instance
def okSet (l : List LgV) : Prop := (1 ≤ l.length ∧ l.length ≤ 10) ∧ (∀ x ∈ l, okLg x) ∧ ids l
instance (l : List LgV) : Decidable (okSet l) := by unfold okSet; infer_instance
def key (l : List LgV) (i : Int) : Int := l[i.toNat]!.pr * 11 + l[i.toNat]!.id
structure BkV where
  l : List LgV
  b : List Int
  now : Int
deriving DecidableEq
def BkV.chs (m : BkV) : List (LgV × Int) := m.l.zip m.b
structure BkV.ok (m : BkV) : Prop where
  set : okSet m.l
  len : m.b.length = m.l.length
  bd : ∀ i : Nat, i < m.l.length → 0 ≤ elt m.b (i : Int) ∧ elt m.b (i : Int) ≤ m.l[i]!.dp
  now : 0 ≤ m.now ∧ m.now < 1073741824
theorem BkV.ok.chl {m : BkV} (h : m.ok) : m.chs.length = m.l.length := by simp [BkV.chs, h.len]
theorem BkV.ok.chg {m : BkV} (h : m.ok) {i : Nat} (hi : i < m.l.length) : m.chs[i]? = some (m.l[i]!, elt m.b (i : Int)) := by
  have hb : i < m.b.length := by rw [h.len]; exact hi
  rw [List.getElem?_eq_getElem (by rw [h.chl]; exact hi), elt_get hb, getElem!_pos m.l i hi]; simp [BkV.chs]
theorem okSet.lg {l : List LgV} (h : okSet l) {i : Nat} (hi : i < l.length) : okLg l[i]! := h.2.1 _ (by rw [getElem!_pos l i hi]; exact List.getElem_mem _)
theorem okSet.idne {l : List LgV} (h : okSet l) {i j : Nat} (hi : i < l.length) (hj : j < l.length) (hij : i ≠ j) : l[i]!.id ≠ l[j]!.id := by
  have := List.pairwise_iff_getElem.1 h.2.2; rw [getElem!_pos l i hi, getElem!_pos l j hj]
  rcases Nat.lt_or_gt_of_ne hij with h1 | h1
  · exact this i j hi hj h1
  exact fun e => this j i hj hi h1 e.symm
theorem okSet.keyinj {l : List LgV} (h : okSet l) {i j : Nat} (hi : i < l.length) (hj : j < l.length) (he : key l (i : Int) = key l (j : Int)) : i = j := by
  refine Decidable.byContradiction fun hne => h.idne hi hj hne ?_
  have h1 := (h.lg hi).1; have h2 := (h.lg hj).1; simp only [key, Int.toNat_natCast] at he
  omega
def ordP (l : List LgV) (p : Int) (d : Int) : List Nat := (List.range l.length).filter fun i => decide (l[i]!.pr = p ∧ l[i]!.id = d)
def ordQ (l : List LgV) (p : Int) : List Nat := (List.range 10).flatMap fun (d : Nat) => ordP l p ((d : Int) + 1)
def ordL (l : List LgV) : List Nat := (List.range 16).flatMap fun (p : Nat) => ordQ l ((p : Int) + 1)
theorem mem_ordP {l : List LgV} {p d : Int} {i : Nat} : i ∈ ordP l p d ↔ i < l.length ∧ l[i]!.pr = p ∧ l[i]!.id = d := by simp [ordP]
theorem mem_ordQ {l : List LgV} (h : okSet l) {p : Int} {i : Nat} : i ∈ ordQ l p ↔ i < l.length ∧ l[i]!.pr = p := by
  simp only [ordQ, List.mem_flatMap, List.mem_range, mem_ordP]
  constructor
  · rintro ⟨d, -, h1, h2, -⟩; exact ⟨h1, h2⟩
  rintro ⟨h1, h2⟩; have h3 := (h.lg h1).1; exact ⟨(l[i]!.id - 1).toNat, by omega, h1, h2, by omega⟩
theorem mem_ordL {l : List LgV} (h : okSet l) {i : Nat} : i ∈ ordL l ↔ i < l.length := by
  simp only [ordL, List.mem_flatMap, List.mem_range, mem_ordQ h]
  constructor
  · rintro ⟨p, -, h1, -⟩; exact h1
  intro h1; have h3 := (h.lg h1).2.1; exact ⟨(l[i]!.pr - 1).toNat, by omega, h1, by omega⟩
theorem pw_flat {α β : Type} {R : β → β → Prop} {f : α → List β} {l : List α} (h1 : ∀ x ∈ l, (f x).Pairwise R) (h2 : l.Pairwise fun x y => ∀ a ∈ f x, ∀ b ∈ f y, R a b) : (l.flatMap f).Pairwise R := List.pairwise_flatMap.2 ⟨h1, h2⟩
theorem ordP_short {l : List LgV} (h : okSet l) (p d : Int) : (ordP l p d).Pairwise fun (i j : Nat) => key l (i : Int) < key l (j : Int) := by
  have h1 : (ordP l p d).Pairwise (· < ·) := List.Pairwise.sublist List.filter_sublist List.pairwise_lt_range; refine List.Pairwise.imp_of_mem ?_ h1; intro i j hi hj hlt; have a := mem_ordP.1 hi; have b := mem_ordP.1 hj; exact absurd (a.2.2.trans b.2.2.symm) (h.idne a.1 b.1 J5)
theorem ordQ_key {l : List LgV} (h : okSet l) (p : Int) : (ordQ l p).Pairwise fun (i j : Nat) => key l (i : Int) < key l (j : Int) := by
  refine pw_flat (fun d _ => ordP_short h _ _) ?_; refine List.Pairwise.imp ?_ List.pairwise_lt_range; intro d e hde i hi j hj; obtain ⟨-, a1, a2⟩ := mem_ordP.1 hi; obtain ⟨-, b1, b2⟩ := mem_ordP.1 hj; simp only [key, Int.toNat_natCast]
  omega
theorem ordL_key {l : List LgV} (h : okSet l) : (ordL l).Pairwise fun (i j : Nat) => key l (i : Int) < key l (j : Int) := by
  refine pw_flat (fun d _ => ordQ_key h _) ?_; refine List.Pairwise.imp ?_ List.pairwise_lt_range; intro d e hde i hi j hj; obtain ⟨a0, a1⟩ := (mem_ordQ h).1 hi; obtain ⟨b0, b1⟩ := (mem_ordQ h).1 hj; have c1 := (h.lg a0).1; have c2 := (h.lg b0).1; simp only [key, Int.toNat_natCast]
  omega
theorem ordL_nodup {l : List LgV} (h : okSet l) : (ordL l).Nodup := List.Pairwise.imp (fun {i j} hlt he => by subst he; omega) (ordL_key h)
theorem ordL_perm {l : List LgV} (h : okSet l) : (ordL l).Perm (List.range l.length) := (List.perm_ext_iff_of_nodup (ordL_nodup h) List.nodup_range).2 fun i => by rw [mem_ordL h, List.mem_range]
theorem ordL_len {l : List LgV} (h : okSet l) : (ordL l).length = l.length := by rw [(ordL_perm h).length_eq, List.length_range]
def natI (l : List Nat) : List Int := l.map fun (i : Nat) => (i : Int)
theorem ord_unique {l : List LgV} (h : okSet l) {ys : List Int} (hp : ys.Perm (natI (List.range l.length))) (hS : Srt (key l) ys l.length l.length) : ys = natI (ordL l) := by
  have hl : ys.length = l.length := by rw [hp.length_eq]; simp [natI]
  have hmem : ∀ y ∈ ys, ∃ i : Nat, i < l.length ∧ y = (i : Int) := fun y hy => by
    have := hp.subset hy; simp only [natI, List.mem_map, List.mem_range] at this; obtain ⟨i, hi, rfl⟩ := this; exact ⟨i, hi, rfl⟩
  refine List.Perm.eq_of_pairwise (le := fun x y => key l x ≤ key l y) ?_ ?_ ?_ ?_
  · intro a b ha hb h1 h2
    obtain ⟨i, hi, rfl⟩ := hmem a ha; simp only [natI, List.mem_map] at hb; obtain ⟨j, hj, rfl⟩ := hb; have hj' := (mem_ordL h).1 hj; rw [h.keyinj hi hj' J5]
  · rw [List.pairwise_iff_getElem]
    intro i j hi hj hij; have := hS i j hij J5 J5
    rwa [elt_get hi, elt_get hj] at this
  · simp only [natI, List.pairwise_map]
    exact (ordL_key h).imp fun hlt => by omega
  exact hp.trans ((ordL_perm h).symm.map _)

def idxG {α : Type} (p : α → Bool) (l : List α) : Int := match l.findIdx? p with | some i => (i : Int) | none => -1
theorem idxG_some {α : Type} {p : α → Bool} {l : List α} {k : Nat} (h0 : ∀ x ∈ l.take k, p x = false) (hk : k < l.length) (h1 : p l[k] = true) : idxG p l = (k : Int) := by
  have : l.findIdx? p = some k := by
    rw [List.findIdx?_eq_some_iff_getElem]; refine ⟨hk, h1, fun j hj => ?_⟩; have := h0 l[j] (List.mem_take_iff_getElem.2 ⟨j, by omega, rfl⟩); simp [this]
  unfold idxG; rw [this]
theorem idxG_none {α : Type} {p : α → Bool} {l : List α} (h0 : ∀ x ∈ l, p x = false) : idxG p l = -1 := by
  have : l.findIdx? p = none := by
    rw [List.findIdx?_eq_none_iff]; exact h0
  unfold idxG; rw [this]
theorem idxG_any {α : Type} (p : α → Bool) (l : List α) : decide (0 ≤ idxG p l) = l.any p := by
  unfold idxG
  cases h : l.findIdx? p with
  | some i =>
    obtain ⟨h1, h2, -⟩ := List.findIdx?_eq_some_iff_getElem.1 h; rw [List.any_eq_true.2 ⟨l[i], List.getElem_mem _, h2⟩]; simp
  | none =>
    have h2 := List.findIdx?_eq_none_iff.1 h
    symm
    show l.any p = false
    rw [List.any_eq_false]; intro x hx
    simpa using h2 x hx
theorem bk_indexI (A : Option Addr) (n c : Nat) (l : List Int) (k : Nat) (cap : Array Value) (p : Int → Bool) (w : World) (hx : Sl w A (ints .i64 l)) (hl : l.length = n) (hn : n ≤ 1000)
    (hk : ∀ args w, (callFunc k args).run Tryz.prog w = .ok (.enter k args) w) (hp : ∀ x W, St w [] W [] → Calls Tryz.prog k (Value.int .i64 x :: cap.toList).toArray W (Ret fun v w' => v = .bool (p x) ∧ St W [] w' [])) :
    Calls Tryz.prog 182 #[.slice A n c, .func (.func k) #[] cap] w (Ret fun v w' => v = .int .i64 (idxG p l) ∧ St w [] w' []) := by
  have hs := St.start w; refine V493 ?_; refine V6 ?_; refine V138 ?_; clear hs; rintro i w1 ⟨⟨hi, hj⟩, hs⟩; refine V369 ?_; refine Z.cond rfl (fun hc2 => ?_) (fun hc2 => ?_)
  · (try simp at hc2)
    have hlt : i < l.length := by omega
    have hel : elt l (i : Int) = l[i] := by simp [elt, hlt]
    obtain ⟨b, off, rfl, hb0, hx2⟩ := Z.Sl.some hx J92; refine V366 ?_; refine V2 ?_; refine Z.ZO.call rfl rfl (by rfl) rfl rfl hk J34 (hp (elt l (i : Int)) _ hs) ?_; rintro v4_5 w4_5 ⟨rfl, hy⟩; replace hs := U0 (hs.call hy); clear hy; refine V857 ?_; refine Z.only [0, 1, 5, 7, 8, 16] rfl ?_; refine V6 ?_; refine Z.cond rfl (fun hc4 => ?_) (fun hc4 => ?_)
    · (try simp at hc4)
      refine V151 ?_; refine V426 ?_
      repeat (first | refine Z.rthen ?_ | refine Z.rblock ?_ | refine Z.rscope ?_)
      refine V199 ?_; refine ⟨_, rfl, ?_, hs⟩; rw [idxG_some hj hlt (by rw [← hel]; assumption)]
    (try simp at hc4)
    refine V392 ?_; refine V683 ?_; refine Z.again (i + 1) J10 ⟨⟨by omega, fun x hm => ?_⟩, hs⟩ J5; rw [List.take_add_one, List.getElem?_eq_getElem hlt] at hm
    rcases List.mem_append.1 hm with hm | hm
    · exact hj x hm
    obtain rfl : x = l[i] := by simpa using hm
    rw [← hel]; assumption
  (try simp at hc2)
  refine V305 ?_; rw [List.take_of_length_le J5] at hj; refine ⟨_, rfl, ?_, hs⟩; rw [idxG_none hj]
theorem bk_containsI (A : Option Addr) (n c : Nat) (l : List Int) (k : Nat) (cap : Array Value) (p : Int → Bool) (w : World) (hx : Sl w A (ints .i64 l)) (hl : l.length = n) (hn : n ≤ 1000)
    (hk : ∀ args w, (callFunc k args).run Tryz.prog w = .ok (.enter k args) w) (hp : ∀ x W, St w [] W [] → Calls Tryz.prog k (Value.int .i64 x :: cap.toList).toArray W (Ret fun v w' => v = .bool (p x) ∧ St W [] w' [])) :
    Calls Tryz.prog 133 #[.slice A n c, .func (.func k) #[] cap] w (Ret fun v w' => v = .bool (l.any p) ∧ St w [] w' []) := by
  have hs := St.start w; refine Z.enter func133 rfl ntmps133 rfl rfl ?_; refine V394 ?_; refine V541 ?_; refine Z.ZO.call rfl rfl (by rfl) rfl rfl call182 rfl (bk_indexI A n c l k cap p _ hx hl hn hk hp) ?_; rintro v1_2 w1_2 ⟨rfl, hy⟩; replace hs := U0 (hs.call hy); clear hy; refine V31 ?_; refine V240 ?_; exact ⟨_, rfl, by rw [← idxG_any], hs⟩
theorem bk_indexL (A : Option Addr) (n c : Nat) (l : List LgV) (k : Nat) (cap : Array Value) (p : LgV → Bool) (w : World) (hx : Sl w A (l.flatMap LgV.cells)) (hl : l.length = n) (hn : n ≤ 1000)
    (hk : ∀ args w, (callFunc k args).run Tryz.prog w = .ok (.enter k args) w) (hp : ∀ x W, St w [] W [] → Calls Tryz.prog k (Value.agg (LgV.cells x).toArray :: cap.toList).toArray W (Ret fun v w' => v = .bool (p x) ∧ St W [] w' [])) :
    Calls Tryz.prog 130 #[.slice A n c, .func (.func k) #[] cap] w (Ret fun v w' => v = .int .i64 (idxG p l) ∧ St w [] w' []) := by
  have hs := St.start w; refine Z.enter func130 rfl ntmps130 rfl rfl ?_; refine V394 ?_; refine V125 ?_; refine V208 ?_; refine V1 ?_; refine V683 ?_; refine V138 ?_; clear hs; rintro i w1 ⟨⟨hi, hj⟩, hs⟩; refine V369 ?_; refine Z.cond rfl (fun hc2 => ?_) (fun hc2 => ?_)
  · (try simp at hc2)
    have hlt : i < l.length := by omega
    have hel : l[i]? = some l[i] := List.getElem?_eq_getElem hlt; obtain ⟨b, off, rfl, hb0, hx2⟩ := Z.Sl.some hx J91; refine V150 ?_; refine V151 ?_; refine Z.only [0, 1, 5, 7, 8] rfl ?_; refine V333 ?_; refine V209 ?_; refine V2 ?_; refine Z.ZO.call rfl rfl (by rfl) rfl rfl hk J34 (hp l[i] _ hs) ?_; rintro v4_5 w4_5 ⟨rfl, hy⟩; replace hs := U0 (hs.call hy); clear hy; refine V857 ?_; refine Z.only [0, 1, 5, 7, 8, 16] rfl ?_; refine V6 ?_; refine Z.cond rfl (fun hc4 => ?_) (fun hc4 => ?_)
    · (try simp at hc4)
      refine V151 ?_; refine V426 ?_
      repeat (first | refine Z.rthen ?_ | refine Z.rblock ?_ | refine Z.rscope ?_)
      refine V199 ?_; refine ⟨_, rfl, ?_, hs⟩; rw [idxG_some hj hlt J72]
    (try simp at hc4)
    refine V392 ?_; refine V683 ?_; refine Z.again (i + 1) J10 ⟨⟨by omega, fun x hm => ?_⟩, hs⟩ J5; rw [List.take_add_one, hel] at hm
    rcases List.mem_append.1 hm with hm | hm
    · exact hj x hm
    obtain rfl : x = l[i] := by simpa using hm
    assumption
  (try simp at hc2)
  refine V305 ?_; rw [List.take_of_length_le J5] at hj; refine ⟨_, rfl, ?_, hs⟩; rw [idxG_none hj]
theorem bk_containsL (A : Option Addr) (n c : Nat) (l : List LgV) (k : Nat) (cap : Array Value) (p : LgV → Bool) (w : World) (hx : Sl w A (l.flatMap LgV.cells)) (hl : l.length = n) (hn : n ≤ 1000)
    (hk : ∀ args w, (callFunc k args).run Tryz.prog w = .ok (.enter k args) w) (hp : ∀ x W, St w [] W [] → Calls Tryz.prog k (Value.agg (LgV.cells x).toArray :: cap.toList).toArray W (Ret fun v w' => v = .bool (p x) ∧ St W [] w' [])) :
    Calls Tryz.prog 72 #[.slice A n c, .func (.func k) #[] cap] w (Ret fun v w' => v = .bool (l.any p) ∧ St w [] w' []) := by
  have hs := St.start w; refine Z.enter func72 rfl ntmps72 rfl rfl ?_; refine V394 ?_; refine V541 ?_; refine Z.ZO.call rfl rfl (by rfl) rfl rfl call130 rfl (bk_indexL A n c l k cap p _ hx hl hn hk hp) ?_; rintro v1_2 w1_2 ⟨rfl, hy⟩; replace hs := U0 (hs.call hy); clear hy; refine V31 ?_; refine V240 ?_; exact ⟨_, rfl, by rw [← idxG_any], hs⟩
theorem bk_between (x a b : Int) (w : World) : Calls Tryz.prog 69 #[.int .i64 x, .int .i64 a, .int .i64 b] w (Ret fun v w' => v = .bool (decide (a ≤ x ∧ x ≤ b)) ∧ St w [] w' []) := by
  have hs := St.start w; refine Z.enter func69 rfl ntmps69 rfl rfl ?_; refine V469 ?_; refine V858 ?_; refine Z.lb 9 rfl ?_; refine V857 ?_; refine V462 ?_; exact ⟨_, rfl, by congr 1; simp, hs⟩
theorem bk_valid (x : LgV) (w : World) : Calls Tryz.prog 71 #[.agg x.cells.toArray] w (Ret fun v w' => v = .bool (decide (okLg x)) ∧ St w [] w' []) := by
  have hs := St.start w
  show Calls Tryz.prog 71 #[.agg #[.int .i64 x.id, .int .i64 x.pr, .int .i64 x.rt, .int .i64 x.dp, .int .i64 x.gr]] w _
  have e : ∀ u : Bool, u = decide (okLg x) → ∀ w', St w [] w' [] → ∃ v, Ending.returned (.bool u) = .returned v ∧ v = .bool (decide (okLg x)) ∧ St w [] w' [] := fun u hx w' hw => ⟨_, rfl, by rw [hx], hw⟩
  refine Z.enter func71 rfl ntmps71 rfl rfl ?_; refine V91 ?_; clear hs; intro g1 w1 hs; refine V626 ?_; refine V858 ?_; refine V544 ?_; refine Z.ZO.call rfl rfl (by rfl) rfl rfl call69 rfl (bk_between x.id 1 10 _) ?_; rintro v1_2 w1_2 ⟨rfl, hy⟩; replace hs := U0 (hs.call hy); clear hy; refine V859 ?_; refine Z.split (s := 6) rfl (fun hsp6 => ?_) (fun hsp6 => ?_)
  · refine Z.yes (s := 6) (b := true) rfl hsp6 rfl ?_
    (try simp at hsp6)
    refine V104 ?_; refine Z.yes (s := 6) (b := true) rfl rfl rfl ?_; refine V160 ?_; refine Z.ZO.call rfl rfl (by rfl) rfl rfl call69 rfl (bk_between x.pr 1 16 _) ?_; rintro v1_6 w1_6 ⟨rfl, hy⟩; replace hs := U0 (hs.call hy); clear hy; refine V485 ?_; refine Z.split (s := 11) rfl (fun hsp11 => ?_) (fun hsp11 => ?_)
    · refine Z.yes (s := 11) (b := true) rfl hsp11 rfl ?_
      (try simp at hsp11)
      refine V444 ?_; refine Z.yes (s := 11) (b := true) rfl rfl rfl ?_; refine V160 ?_; refine Z.ZO.call rfl rfl (by rfl) rfl rfl call69 rfl (bk_between x.rt 0 1048576 _) ?_; rintro v1_11 w1_11 ⟨rfl, hy⟩; replace hs := U0 (hs.call hy); clear hy; refine V485 ?_; refine Z.split (s := 16) rfl (fun hsp16 => ?_) (fun hsp16 => ?_)
      · refine Z.yes (s := 16) (b := true) rfl hsp16 rfl ?_
        (try simp at hsp16)
        refine V38 ?_; refine V9 ?_; refine Z.yes (s := 16) (b := true) rfl rfl rfl ?_; refine V160 ?_; refine Z.ZO.call rfl rfl (by rfl) rfl rfl call69 rfl (bk_between x.dp 0 16777216 _) ?_; rintro v1_16 w1_16 ⟨rfl, hy⟩; replace hs := U0 (hs.call hy); clear hy; refine V485 ?_; refine Z.split (s := 21) rfl (fun hsp21 => ?_) (fun hsp21 => ?_)
        · refine Z.yes (s := 21) (b := true) rfl hsp21 rfl ?_
          (try simp at hsp21)
          refine V54 ?_; refine V9 ?_; refine Z.yes (s := 21) (b := true) rfl rfl rfl ?_; refine V160 ?_; refine Z.ZO.call rfl rfl (by rfl) rfl rfl call69 rfl (bk_between x.gr 0 3 _) ?_; rintro v1_21 w1_21 ⟨rfl, hy⟩; replace hs := U0 (hs.call hy); clear hy; refine V20 ?_; refine V186 ?_; refine e _ ?_ _ (Jn hs); rw [Bool.eq_iff_iff]; simp only [decide_eq_true_eq]; unfold okLg
          simp_all
          try omega
        refine V414 ?_
        (try simp at hsp21)
        refine V4 ?_; refine V14 ?_; refine V186 ?_; refine e _ ?_ _ (Jn hs); rw [Bool.eq_iff_iff]; simp only [decide_eq_true_eq]; unfold okLg
        simp_all
        try omega
      refine Z.yes (s := 16) (b := false) rfl hsp16 rfl ?_
      (try simp at hsp16)
      refine V4 ?_; refine V276 ?_; refine Z.split (s := 21) rfl (fun hsp21 => ?_) (fun hsp21 => ?_)
      · (exfalso; simp at hsp21 <;> omega)
      refine V414 ?_
      (try simp at hsp21)
      refine V4 ?_; refine V14 ?_; refine V186 ?_; refine e _ ?_ _ (Jn hs); rw [Bool.eq_iff_iff]; simp only [decide_eq_true_eq]; unfold okLg
      simp_all
      try omega
    refine Z.yes (s := 11) (b := false) rfl hsp11 rfl ?_
    (try simp at hsp11)
    refine V4 ?_; refine V276 ?_; refine Z.split (s := 16) rfl (fun hsp16 => ?_) (fun hsp16 => ?_)
    · (exfalso; simp at hsp16 <;> omega)
    refine Z.yes (s := 16) (b := false) rfl hsp16 rfl ?_
    (try simp at hsp16)
    refine V4 ?_; refine V276 ?_; refine Z.split (s := 21) rfl (fun hsp21 => ?_) (fun hsp21 => ?_)
    · (exfalso; simp at hsp21 <;> omega)
    refine V414 ?_
    (try simp at hsp21)
    refine V4 ?_; refine V14 ?_; refine V186 ?_; refine e _ ?_ _ (Jn hs); rw [Bool.eq_iff_iff]; simp only [decide_eq_true_eq]; unfold okLg
    simp_all
    try omega
  refine Z.yes (s := 6) (b := false) rfl hsp6 rfl ?_
  (try simp at hsp6)
  refine V4 ?_; refine V276 ?_; refine Z.split (s := 11) rfl (fun hsp11 => ?_) (fun hsp11 => ?_)
  · (exfalso; simp at hsp11 <;> omega)
  refine Z.yes (s := 11) (b := false) rfl hsp11 rfl ?_
  (try simp at hsp11)
  refine V4 ?_; refine V276 ?_; refine Z.split (s := 16) rfl (fun hsp16 => ?_) (fun hsp16 => ?_)
  · (exfalso; simp at hsp16 <;> omega)
  refine Z.yes (s := 16) (b := false) rfl hsp16 rfl ?_
  (try simp at hsp16)
  refine V4 ?_; refine V276 ?_; refine Z.split (s := 21) rfl (fun hsp21 => ?_) (fun hsp21 => ?_)
  · (exfalso; simp at hsp21 <;> omega)
  refine V414 ?_
  (try simp at hsp21)
  refine V4 ?_; refine V14 ?_; refine V186 ?_; refine e _ ?_ _ (Jn hs); rw [Bool.eq_iff_iff]; simp only [decide_eq_true_eq]; unfold okLg
  simp_all
  try omega
theorem bk_everyL1 (g k : Nat) (cap : Array Value) (p : LgV → Bool) (x : LgV) (w : World) (hc : Cel w g [.func (.func k) #[] cap])
    (hk : ∀ args w, (callFunc k args).run Tryz.prog w = .ok (.enter k args) w) (hp : ∀ x W, St w [] W [] → Calls Tryz.prog k (Value.agg (LgV.cells x).toArray :: cap.toList).toArray W (Ret fun v w' => v = .bool (p x) ∧ St W [] w' [])) :
    Calls Tryz.prog 129 #[.agg x.cells.toArray, .pointer (some ⟨g, 0, none⟩)] w (Ret fun v w' => v = .bool (!p x) ∧ St w [] w' []) := by
  have hs := St.start w; refine Z.enter func129 rfl ntmps129 rfl rfl ?_; refine V91 ?_; clear hs; intro g2 w2 hs; refine V453 ?_; refine Z.l rfl rfl (by rfl) (Z.keepS hs) (Z.Yd.load rfl isAgg144 (fun _ => Z.cellO hc.1 J16 (hc.2 0 _ rfl))) ?_; refine Z.l rfl rfl (by rfl) (Z.keepS hs) (Z.Yd.loadA _ rfl isAgg75 (fun _ => Z.cellsB (cs := LgV.cells x) J0) J127) ?_; refine V2 ?_; refine Z.ZO.call rfl rfl (by rfl) rfl rfl hk J34 (hp x _ (Jn hs)) ?_; rintro v1_2 w1_2 ⟨rfl, hy⟩; replace hs := U0 (hs.call hy); clear hy; refine V31 ?_; refine Z.only [3] rfl ?_; refine V422 ?_; exact ⟨_, rfl, rfl, Jn hs⟩
theorem bk_everyL (A : Option Addr) (n c : Nat) (l : List LgV) (k : Nat) (cap : Array Value) (p : LgV → Bool) (w : World) (hx : Sl w A (l.flatMap LgV.cells)) (hl : l.length = n) (hn : n ≤ 1000)
    (hk : ∀ args w, (callFunc k args).run Tryz.prog w = .ok (.enter k args) w) (hp : ∀ x W, St w [] W [] → Calls Tryz.prog k (Value.agg (LgV.cells x).toArray :: cap.toList).toArray W (Ret fun v w' => v = .bool (p x) ∧ St W [] w' [])) :
    Calls Tryz.prog 70 #[.slice A n c, .func (.func k) #[] cap] w (Ret fun v w' => v = .bool (l.all p) ∧ St w [] w' []) := by
  have hs := St.start w; refine Z.enter func70 rfl ntmps70 rfl rfl ?_; refine V91 ?_; clear hs; intro g3 w3 hs; refine V1 ?_; refine V269 ?_; refine V541 ?_; refine Z.ZO.call rfl rfl (by rfl) rfl rfl call72 rfl (bk_containsL A n c l 129 _ (fun x ↦ !p x) _ (hx.st (Jn hs)) hl hn call129 (fun x W hW ↦ bk_everyL1 g3 k cap p x W (Cel.st (hs.celOf J0) hW) hk (fun y V hV ↦ hp y V (St.sub (hs.call (hW.call hV)) (List.nil_sublist _))))) ?_; rintro v1_2 w1_2 ⟨rfl, hy⟩; replace hs := U0 (hs.call hy); clear hy; refine V31 ?_; refine V240 ?_; exact ⟨_, rfl, by congr 1; rw [Bool.eq_iff_iff]; simp, Jn hs⟩
theorem bk_everyI1 (g k : Nat) (cap : Array Value) (p : Int → Bool) (x : Int) (w : World) (hc : Cel w g [.func (.func k) #[] cap])
    (hk : ∀ args w, (callFunc k args).run Tryz.prog w = .ok (.enter k args) w) (hp : ∀ x W, St w [] W [] → Calls Tryz.prog k (Value.int .i64 x :: cap.toList).toArray W (Ret fun v w' => v = .bool (p x) ∧ St W [] w' [])) :
    Calls Tryz.prog 151 #[.int .i64 x, .pointer (some ⟨g, 0, none⟩)] w (Ret fun v w' => v = .bool (!p x) ∧ St w [] w' []) := by
  have hs := St.start w; refine Z.enter func151 rfl ntmps151 rfl rfl ?_; refine V394 ?_; refine V858 ?_; refine Z.l rfl rfl (by rfl) (Z.keepS hs) (Z.Yd.load rfl isAgg133 (fun _ => Z.cellO hc.1 J16 (hc.2 0 _ rfl))) ?_; refine V62 ?_; refine Z.ZO.call rfl rfl (by rfl) rfl rfl hk J34 (hp x _ hs) ?_; rintro v1_2 w1_2 ⟨rfl, hy⟩; replace hs := U0 (hs.call hy); clear hy; refine V31 ?_; refine Z.only [3] rfl ?_; refine V422 ?_; exact ⟨_, rfl, rfl, hs⟩
theorem bk_everyI (A : Option Addr) (n c : Nat) (l : List Int) (k : Nat) (cap : Array Value) (p : Int → Bool) (w : World) (hx : Sl w A (ints .i64 l)) (hl : l.length = n) (hn : n ≤ 1000)
    (hk : ∀ args w, (callFunc k args).run Tryz.prog w = .ok (.enter k args) w) (hp : ∀ x W, St w [] W [] → Calls Tryz.prog k (Value.int .i64 x :: cap.toList).toArray W (Ret fun v w' => v = .bool (p x) ∧ St W [] w' [])) :
    Calls Tryz.prog 98 #[.slice A n c, .func (.func k) #[] cap] w (Ret fun v w' => v = .bool (l.all p) ∧ St w [] w' []) := by
  have hs := St.start w; refine Z.enter func98 rfl ntmps98 rfl rfl ?_; refine V91 ?_; clear hs; intro g3 w3 hs; refine V1 ?_; refine V269 ?_; refine V541 ?_; refine Z.ZO.call rfl rfl (by rfl) rfl rfl call133 rfl (bk_containsI A n c l 151 _ (fun x ↦ !p x) _ (hx.st (Jn hs)) hl hn call151 (fun x W hW ↦ bk_everyI1 g3 k cap p x W (Cel.st (hs.celOf J0) hW) hk (fun y V hV ↦ hp y V (St.sub (hs.call (hW.call hV)) (List.nil_sublist _))))) ?_; rintro v1_2 w1_2 ⟨rfl, hy⟩; replace hs := U0 (hs.call hy); clear hy; refine V31 ?_; refine V240 ?_; exact ⟨_, rfl, by congr 1; rw [Bool.eq_iff_iff]; simp, Jn hs⟩

theorem bk_new1 (g : Nat) (x y : LgV) (w : World) (hc : Cel w g x.cells) :
    Calls Tryz.prog 73 #[.agg y.cells.toArray, .pointer (some ⟨g, 0, none⟩)] w (Ret fun v w' => v = .bool (decide (y.id = x.id)) ∧ St w [] w' []) := by
  have hs := St.start w
  show Calls Tryz.prog 73 #[.agg #[.int .i64 y.id, .int .i64 y.pr, .int .i64 y.rt, .int .i64 y.dp, .int .i64 y.gr], _] w _
  refine Z.enter func73 rfl ntmps73 rfl rfl ?_; refine V91 ?_; clear hs; intro g2 w2 hs; refine V453 ?_; refine V48 ?_; refine V3 ?_; refine Z.l rfl rfl (by rfl) (Z.keepS hs) (Z.Yd.load rfl isAgg3 (fun _ => Z.cellO hc.1 J16 (hc.2 0 _ rfl))) ?_; refine V31 ?_; refine Z.only [3] rfl ?_; refine V422 ?_; exact ⟨_, rfl, rfl, Jn hs⟩
theorem bk_or (A : Option Addr) (c : Nat) (a b : Int) (w : World) (hx : Sl w A (ints .i64 [a, b])) :
    Calls Tryz.prog 76 #[.slice A 2 c] w (Ret fun v w' => v = .int .i64 (if a ≠ 0 then a else b) ∧ St w [] w' []) := by
  have hs := St.start w; obtain ⟨bb, off, rfl, hb0, hx2⟩ := Z.Sl.some hx (by simp [ints]); refine Z.enter func76 rfl ntmps76 rfl rfl ?_; refine V242 ?_; refine V1 ?_; refine V269 ?_; refine V125 ?_; refine V248 ?_; refine Z.only [3, 6, 7, 8] rfl ?_; refine V861 ?_; refine Z.loopk (ι := Nat) [3, 6, 7] rfl (fun k => [(8, [], .int .i64 (k : Int))]) (fun k wr => (k ≤ 2 ∧ (0 < k → a = 0) ∧ (1 < k → b = 0)) ∧ St w [] wr []) (fun k => 2 - k) 0 J6 ⟨⟨by omega, by omega, by omega⟩, hs⟩ ?_; clear hs; rintro i w1 ⟨⟨hi, h1, h2⟩, hs⟩; refine Z.only [3, 6, 7, 8] rfl ?_; refine V121 ?_; refine Z.only [3, 6, 7, 8, 9] rfl ?_; refine V210 ?_; refine Z.cond rfl (fun hc3 => ?_) (fun hc3 => ?_)
  · (try simp at hc3)
    have hi2 : i = 0 ∨ i = 1 := by omega
    have hel : elt [a, b] (i : Int) = if i = 0 then a else b := by rcases hi2 with rfl | rfl <;> rfl
    refine V272 ?_; refine V21 ?_; refine Z.l rfl rfl (by rfl) (Z.keepS hs) (Z.Yd.load rfl isAgg3 (fun hG => Z.cellS hx2 rfl J5 J45)) ?_; refine V1 ?_; refine Z.only [3, 5, 6, 7, 8] rfl ?_; refine V858 ?_; refine V184 ?_; refine Z.only [3, 5, 6, 7, 8, 14] rfl ?_; refine V6 ?_; refine Z.cond rfl (fun hc5 => ?_) (fun hc5 => ?_)
    · (try simp at hc5)
      refine V151 ?_; refine V43 ?_; refine V90 ?_
      repeat (first | refine Z.rthen ?_ | refine Z.rblock ?_ | refine Z.rscope ?_)
      refine V199 ?_; refine ⟨_, rfl, ?_, hs⟩
      rcases hi2 with rfl | rfl
      · rw [hel] at *; simp_all
      rw [hel] at *; have := h1 J5; simp_all
    (try simp at hc5)
    refine V392 ?_; refine Z.only [3, 6, 7, 8] rfl ?_; refine V6 ?_; refine Z.again (i + 1) J10 ⟨⟨by omega, ?_, ?_⟩, hs⟩ J5
    · intro _
      rcases hi2 with rfl | rfl
      · simp_all
      exact h1 J5
    intro _
    rcases hi2 with rfl | rfl
    · omega
    simp_all
  (try simp at hc3)
  refine V537 ?_; refine ⟨_, rfl, ?_, hs⟩; rw [if_neg (by have := h1 J5; simp_all)]
  congr 1
  exact (h2 J5).symm
theorem bk_new2 (gb gk n c : Nat) (A : Option Addr) (so nw : Value) (ls : List LgV) (x y : Int) (w : World) (hb : Cel w gb [.pointer (some ⟨gk, 0, none⟩)]) (hk : Cel w gk [.slice A n c, so, nw])
    (hA : Sl w A ((ls.map fun x => (x, (0 : Int))).flatMap chC)) (hl : ls.length = n) (hset : okSet ls) (hx : ∃ i : Nat, i < n ∧ x = (i : Int)) (hy : ∃ i : Nat, i < n ∧ y = (i : Int)) :
    Calls Tryz.prog 75 #[.int .i64 x, .int .i64 y, .pointer (some ⟨gb, 0, none⟩)] w (Ret fun v w' => (∃ z : Int, v = .int .i64 z ∧ (z < 0 ↔ key ls x < key ls y)) ∧ St w [] w' []) := by
  obtain ⟨i, hi, rfl⟩ := hx; obtain ⟨k, hk1, rfl⟩ := hy; have hs := St.start w; obtain ⟨bb, off, rfl, hb0, hx2⟩ := Z.Sl.some hA (by rw [flat_len ch_len]; simp; omega); have ei : (ls.map fun x => (x, (0 : Int)))[i]? = some (ls[i]!, 0) := by rw [List.getElem?_map, getElem!_pos ls i J5]; simp [List.getElem?_eq_getElem (show i < ls.length by omega)]
  have ek : (ls.map fun x => (x, (0 : Int)))[k]? = some (ls[k]!, 0) := by rw [List.getElem?_map, getElem!_pos ls k J5]; simp [List.getElem?_eq_getElem (show k < ls.length by omega)]
  have o1 := hset.lg (i := i) J5; have o2 := hset.lg (i := k) J5; simp only [key, Int.toNat_natCast]; generalize ls[i]! = a at *; generalize ls[k]! = b at *; obtain ⟨⟨a1, a2⟩, ⟨a3, a4⟩, -⟩ := o1; obtain ⟨⟨b1, b2⟩, ⟨b3, b4⟩, -⟩ := o2; have hone1 := ch_one (a, 0); have hone2 := ch_one (b, 0); refine Z.enter func75 rfl ntmps75 rfl rfl ?_; refine V469 ?_; refine V343 ?_; clear hs; intro wd1 hs; refine Z.t 0 rfl rfl rfl (by rfl) J3 (Jk hs) (Z.Yd.load rfl isAgg52 (fun _ => Z.cellO hb.1 J16 (hb.2 0 _ rfl))) ?_; refine V579 ?_; refine Z.t 2 rfl rfl rfl (by rfl) J3 (Jk hs) (Z.Yd.fieldA (m := 0) rfl J3) ?_; refine Z.t 3 rfl rfl rfl (by rfl) J3 (Jk hs) (Z.Yd.load rfl isAgg145 (fun _ => Z.cellO hk.1 J16 (hk.2 0 _ rfl))) ?_; refine Z.tb [4] J3 rfl (Jk hs) rfl ?_; refine Z.t 5 rfl rfl rfl (by rfl) J3 (Jk hs) (Z.Yd.elem rfl rfl underlying145 sizeOf149 (fun hG => ⟨J2, J2⟩)) ?_; refine Z.t 6 rfl rfl rfl (by rfl) J3 (Jk hs) (Z.Yd.loadA _ rfl isAgg149 (fun _ W hK j u hu => Z.cellXq (enc := chC) hx2.sx ch_len ei hu W hK) (by exact sizeOf149)) ?_; refine Z.t 7 rfl rfl rfl (by rfl) J3 (Jk hs) (Z.Yd.load rfl isAgg52 (fun _ => Z.cellO hb.1 J16 (hb.2 0 _ rfl))) ?_; refine V477 ?_; refine Z.t 10 rfl rfl rfl (by rfl) J3 (Jk hs) (Z.Yd.load rfl isAgg145 (fun _ => Z.cellO hk.1 J16 (hk.2 0 _ rfl))) ?_; refine Z.tb [11] J3 rfl (Jk hs) rfl ?_
  refine Z.t 12 rfl rfl rfl (by rfl) J3 (Jk hs) (Z.Yd.elem rfl rfl underlying145 sizeOf149 (fun hG => ⟨J2, J2⟩)) ?_; refine Z.t 13 rfl rfl rfl (by rfl) J3 (Jk hs) (Z.Yd.loadA _ rfl isAgg149 (fun _ W hK j u hu => Z.cellXq (enc := chC) hx2.sx ch_len ek hu W hK) (by exact sizeOf149)) ?_; refine Z.fork2 14 15 rfl rfl rfl J3 rfl rfl trivial trivial ?_ ?_
  · skip
    refine V344 ?_; clear hs; intro g6 w6 hs; refine Z.tk (Dn := fun _ => true) (i := 14) (fun _ => (Jk hs)) ?_; refine Z.tn 15 rfl rfl J3 rfl trivial ?_; refine V344 ?_; clear hs; intro g7 w7 hs; refine Z.tk (Dn := fun _ => true) (i := 15) (fun _ => (Jk hs)) ?_; refine Z.tn 16 rfl rfl J3 rfl trivial ?_; refine V7 ?_; clear hs; intro ws hs; replace hs := U1 hs; replace hs := U2 hs; refine V564 ?_; clear hs; intro ws hs; replace hs := U1 hs; replace hs := U2 hs; refine V317 ?_; refine V40 ?_; refine Z.only [6, 7] rfl ?_; refine V858 ?_; simp only [chC] at hs; refine V657 ?_; clear hs; intro g36 w36 hs; refine V673 ?_; rintro v2_15 w2_15 ⟨rfl, hy⟩; replace hs := U0 (hs.call hy); clear hy; refine V1 ?_; refine Z.only [5] rfl ?_; refine V422 ?_; refine ⟨_, rfl, ⟨_, rfl, ?_⟩, Jn hs⟩
    split <;> omega
  skip
  refine V344 ?_; clear hs; intro g7 w7 hs; refine Z.tk (Dn := fun _ => true) (i := 15) (fun _ => (Jk hs)) ?_; refine Z.tn 14 rfl rfl J3 rfl trivial ?_; refine V344 ?_; clear hs; intro g6 w6 hs; refine Z.tk (Dn := fun _ => true) (i := 14) (fun _ => (Jk hs)) ?_; refine Z.tn 16 rfl rfl J3 rfl trivial ?_; refine V7 ?_; clear hs; intro ws hs; replace hs := U1 hs; replace hs := U2 hs; refine V564 ?_; clear hs; intro ws hs; replace hs := U1 hs; replace hs := U2 hs; refine V317 ?_; refine V40 ?_; refine Z.only [6, 7] rfl ?_; refine V858 ?_; simp only [chC] at hs; refine V657 ?_; clear hs; intro g36 w36 hs; refine V673 ?_; rintro v2_15 w2_15 ⟨rfl, hy⟩; replace hs := U0 (hs.call hy); clear hy; refine V1 ?_; refine Z.only [5] rfl ?_; refine V422 ?_; refine ⟨_, rfl, ⟨_, rfl, ?_⟩, Jn hs⟩
  split <;> omega
theorem flat_pre {α β : Type} (f : α → List β) (l : List α) (i : Nat) : (l.take i).flatMap f <+: l.flatMap f := by
  conv => rhs; rw [← List.take_append_drop i l, List.flatMap_append]
  exact List.prefix_append _ _
def newB (ls : List LgV) : BkV := ⟨ls, List.replicate ls.length 0, 0⟩
theorem newB_chs (ls : List LgV) : (newB ls).chs = ls.map fun x => (x, (0 : Int)) := by
  unfold BkV.chs newB; dsimp only; refine List.ext_getElem J16 fun i h1 h2 => by simp
theorem newB_ok {ls : List LgV} (h : okSet ls) : (newB ls).ok := by
  refine ⟨h, by simp [newB], fun i hi => ?_, by simp [newB]⟩; have := (h.lg hi).2.2.2.1; have e : elt (newB ls).b (i : Int) = 0 := by
    have : i < ls.length := hi; simp [newB, elt, this]
  rw [e]; exact ⟨by omega, this.1⟩
def bkE (g : Nat) (sv so : Value) (m : BkV) : List Ent := [Ent.blk g 147 #[sv, so, .int .i64 m.now], Ent.row sv 149 6 m.l.length (m.chs.flatMap chC), Ent.row so 3 1 m.l.length (ints .i64 (natI (ordL m.l)))]
theorem any_prefix {ls : List LgV} {i : Nat} (hi : i < ls.length) (h : ids (ls.take i)) : ids (ls.take (i + 1)) ↔ (ls.take i).any (fun y => decide (y.id = ls[i].id)) = false := by
  have e : ls.take (i + 1) = ls.take i ++ [ls[i]] := by rw [List.take_add_one, List.getElem?_eq_getElem hi]; rfl
  rw [e]; unfold ids at *; rw [List.pairwise_append, List.any_eq_false]
  constructor
  · rintro ⟨-, -, h3⟩ y hy
    simpa using h3 y hy _ J16
  intro h3; refine ⟨h, List.pairwise_singleton _ _, fun y hy z hz => ?_⟩; obtain rfl : z = ls[i] := by simpa using hz
  simpa using h3 y hy
theorem bk_new (A : Option Addr) (n c : Nat) (ls : List LgV) (w : World) (hx : Sl w A (ls.flatMap LgV.cells)) (hl : ls.length = n) (hn : n ≤ 1000) (hc : n ≤ c) :
    Calls Tryz.prog 29 #[.slice A n c] w (Ret fun v w' => if okSet ls then ∃ g sv so, v = .tuple #[.pointer (some ⟨g, 0, none⟩), .int .i64 0] ∧ St w [] w' (bkE g sv so (newB ls)) else v = .tuple #[.pointer none, .int .i64 2] ∧ St w [] w' []) := by
  have hs := St.start w; refine Z.enter func29 rfl ntmps29 rfl rfl ?_; refine V538 ?_; refine V6 ?_; refine Z.scopeJ (ι := Unit) 0 rfl [] rfl (fun _ => []) (fun _ wr => (¬ okSet ls) ∧ St w [] wr []) ?_ ?_
  · skip
    refine V304 ?_; refine Z.ZO.alloc rfl rfl (by rfl) zeroValue52 rfl hs ?_; clear hs; intro g4 w4 hs; refine V857 ?_; refine V352 ?_; refine V125 ?_; refine V208 ?_; refine V2 ?_; refine Z.ZO.call rfl rfl (by rfl) rfl rfl call69 rfl (bk_between (n : Int) 1 10 _) ?_; rintro v2_2 w2_2 ⟨rfl, hy⟩; replace hs := U0 (hs.call hy); clear hy; refine V11 ?_; refine Z.split (s := 11) rfl (fun hsp11 => ?_) (fun hsp11 => ?_)
    · refine Z.yes (s := 11) (b := true) rfl hsp11 rfl ?_
      (try simp at hsp11)
      refine V4 ?_; refine V20 ?_; refine V857 ?_; refine Z.only [0, 4, 15] rfl ?_; refine V6 ?_; refine Z.cond rfl (fun hc2 => ?_) (fun hc2 => ?_)
      · (try simp at hc2)
        have hno : ¬ okSet ls := by rintro ⟨h1, h2, -⟩; first | omega | (obtain ⟨x, hx1, hx2⟩ := hc2; exact hx2 (h2 x hx1))
        refine V383 ?_; exact Z.meet () trivial ⟨by assumption, Jn hs⟩
      (exfalso; simp at hc2 <;> omega)
    refine Z.yes (s := 11) (b := false) rfl hsp11 rfl ?_
    (try simp at hsp11)
    refine V859 ?_; refine Z.yes (s := 11) (b := false) rfl rfl rfl ?_; refine V160 ?_; refine Z.ZO.call rfl rfl (by rfl) rfl rfl call70 rfl (bk_everyL A n c ls 71 _ (fun x ↦ decide (okLg x)) _ (hx.st (Jn hs)) hl hn call71 (fun x W hW ↦ bk_valid x W)) ?_; rintro v2_6 w2_6 ⟨rfl, hy⟩; replace hs := U0 (hs.call hy); clear hy; refine V859 ?_; refine Z.yes (s := 11) (b := false) rfl rfl rfl ?_; refine V14 ?_; refine V857 ?_; refine Z.only [0, 4, 15] rfl ?_; refine V6 ?_; refine Z.cond rfl (fun hc2 => ?_) (fun hc2 => ?_)
    · (try simp at hc2)
      have hno : ¬ okSet ls := by rintro ⟨h1, h2, -⟩; first | omega | (obtain ⟨x, hx1, hx2⟩ := hc2; exact hx2 (h2 x hx1))
      refine V383 ?_; exact Z.meet () trivial ⟨by assumption, Jn hs⟩
    (try simp at hc2)
    have hn1 : 1 ≤ n ∧ n ≤ 10 := by omega
    have hlg : ∀ x ∈ ls, okLg x := by simp_all
    obtain ⟨bb, off, rfl, hb0, hx2⟩ := Z.Sl.some hx J91; refine V862 ?_; refine V494 ?_; refine V616 ?_; clear hs; intro g17 w17 hs; refine V2 ?_; refine Z.ZO.store rfl rfl hs sizeOf52 rfl rfl rfl J1 J9 ?_; clear hs; intro ws hs; replace hs := U1 hs; refine V857 ?_; refine V352 ?_; refine V30 ?_; replace hs : St w [] _ [Ent.blk g4 _ _, Ent.blk g17 _ _, Ent.row _ _ _ _ _, Ent.row _ _ _ _ _] := ((hs.nil 3 1).nil 149 6).sel [3, 2, 0, 1] J12; refine V18 ?_; refine V208 ?_; refine V1 ?_; refine V587 ?_; refine V861 ?_; refine Z.loopk (ι := Nat × Value × Value) [0, 4, 18, 19] rfl (fun x => [(20, [], .int .i64 (x.1 : Int))]) (fun x wr => (x.1 ≤ n ∧ ids (ls.take x.1)) ∧ St w [] wr [Ent.blk g4 52 #[.pointer (some ⟨g17, 0, none⟩)], Ent.blk g17 147 #[x.2.1, x.2.2, .int .i64 0], Ent.row x.2.1 149 6 x.1 (((ls.take x.1).map fun x => (x, (0 : Int))).flatMap chC), Ent.row x.2.2 3 1 x.1 (ints .i64 (natI (List.range x.1)))]) (fun x => n - x.1) (0, .slice none 0 0, .slice none 0 0) J6 ⟨⟨by simp only; omega, by simp [ids]⟩, hs⟩ ?_; clear hs; rintro ⟨i, sv, so⟩ w5 ⟨⟨hi, hids⟩, hs⟩; refine V587 ?_
    (try dsimp only at hs)
    dsimp only at hi hids hs; refine V121 ?_; refine Z.only [0, 4, 18, 19, 20, 21] rfl ?_; refine V210 ?_; refine Z.cond rfl (fun hc5 => ?_) (fun hc5 => ?_)
    · (try simp at hc5)
      have hlt : i < ls.length := by omega
      have hel : ls[i]? = some ls[i] := List.getElem?_eq_getElem hlt; have hpre := any_prefix hlt hids; generalize ls[i] = xi at hel hpre; have hone := lg_one xi; have htk : ls.take (i + 1) = ls.take i ++ [xi] := by rw [List.take_add_one, hel]; rfl
      refine V454 ?_; refine V209 ?_; refine V2 ?_; refine Z.ZO.alloc rfl rfl (by rfl) zeroValue75 rfl hs ?_; clear hs; intro g6 w6 hs; refine V456 ?_; clear hs; intro ws hs; replace hs := U1 hs; replace hs := U2 hs; refine V857 ?_; refine Z.only [0, 4, 5, 6, 18, 19, 20] rfl ?_; refine V30 ?_; refine V50 ?_; refine Z.l rfl rfl (by rfl) (Z.keepS hs) (Z.Yd.cut3 0 i i rfl rfl rfl rfl underlying22 sizeOf75 (fun hG => ⟨J2, J2, J2, J2, J2⟩)) ?_; refine V62 ?_; refine Z.ZO.call rfl rfl (by rfl) rfl rfl call72 rfl (bk_containsL _ i i (ls.take i) 73 _ (fun y ↦ decide (y.id = xi.id)) _ (by rw [slA_zero]; exact Sl.pre (hx2.st hs) (flat_pre _ _ _)) J45 J5 call73 (fun y W hW ↦ bk_new1 g6 xi y W (Cel.st (hs.celOf J0) hW))) ?_; rintro v7_5 w7_5 ⟨rfl, hy⟩; replace hs := U0 (hs.call hy); clear hy; refine V857 ?_; refine Z.only [0, 4, 5, 6, 18, 19, 20, 30] rfl ?_; refine V6 ?_; refine Z.cond rfl (fun hc7 => ?_) (fun hc7 => ?_)
      · (try simp at hc7)
        have hno : ¬ okSet ls := fun h => by
          have h2 := hpre.1 (h.2.2.sublist (List.take_sublist _ _)); obtain ⟨x, hx1, hx3⟩ := hc7; have h3 := List.any_eq_false.1 h2 x hx1; simp [hx3] at h3
        refine Z.goto ?_; refine Z.gthen ?_; refine Z.gblock ?_; refine Z.gthen ?_; refine Z.gthen ?_; refine Z.gblock ?_; refine Z.gthen ?_; refine Z.gjump ?_; exact Z.meet () trivial ⟨by assumption, Jn hs⟩
      (try simp at hc7)
      have hids2 := hpre.2 (by simp_all); refine V361 ?_; refine Z.drawC [Ent.blk g6 75 xi.cells.toArray, Ent.blk g4 52 #[.pointer (some ⟨g17, 0, none⟩)]] mixed hs ?_; clear hs; intro wd8 hs; refine Z.tC1 1 [1, 20, 21, 22] rfl rfl rfl (by rfl) J3 (Jk hs) J46 ?_; refine Z.twoC [Ent.blk g6 75 xi.cells.toArray, Ent.blk g4 52 #[.pointer (some ⟨g17, 0, none⟩)], Ent.blk g17 147 #[sv, so, .int .i64 0]] [17, 18, 19, 20, 21, 22] ?_; refine Z.tC2 0 [0, 17, 18, 19, 20, 21, 22] rfl rfl rfl (by rfl) J3 rfl (Jk hs) (Jk hs) (Z.yd2 J46) ?_; refine Z.tC2 2 [2, 3, 4, 5, 9, 16, 17, 18, 19, 20, 21, 22] rfl rfl rfl (by rfl) J3 rfl (Jk hs) (Jk hs) (Z.yd2 J46) ?_; refine Z.tC2 3 [3, 4, 5, 9, 16, 17, 18, 19, 20, 21, 22] rfl rfl rfl (by rfl) J3 rfl (Jk hs) (Jk hs) (Z.yd2 (Z.Yd.nilc rfl rfl)) ?_; refine Z.tC2 4 [4, 5, 9, 16, 17, 18, 19, 20, 21, 22] rfl rfl rfl (by rfl) J3 rfl (Jk hs) (Jk hs) (Z.yd2 (Z.Yd.fieldA (m := 0) rfl J3)) ?_; refine Z.tC2 5 [5, 9, 16, 17, 18, 19, 20, 21, 22] rfl rfl rfl (by rfl) J3 rfl (Jk hs) (Jk hs) (Z.yd2 J85) ?_; refine Z.tC2 6 [6, 7, 8, 9, 16, 17, 18, 19, 20, 21, 22] rfl rfl rfl (by rfl) J3 rfl (Jk hs) (Jk hs) (Z.yd2 (Z.Yd.loadA _ rfl isAgg75 (fun _ => Z.cellsB (cs := LgV.cells xi) J0) J127)) ?_; refine Z.tC2 7 [7, 8, 9, 16, 17, 18, 19, 20, 21, 22] rfl rfl rfl (by rfl) J3 rfl (Jk hs) (Jk hs) (Z.yd2 (Z.Yd.buildL [(0, 5), (5, 1)] [.int .i64 0, .int .i64 0, .int .i64 0, .int .i64 0, .int .i64 0, .int .i64 0] rfl rfl J18)) ?_
      refine Z.tC2 10 [10, 11, 12, 13, 16, 17, 18, 19, 20, 21, 22] rfl rfl rfl (by rfl) J3 rfl (Jk hs) (Jk hs) (Z.yd2 J46) ?_; refine Z.tC2 11 [11, 12, 13, 16, 17, 18, 19, 20, 21, 22] rfl rfl rfl (by rfl) J3 rfl (Jk hs) (Jk hs) (Z.yd2 (Z.Yd.nilc rfl rfl)) ?_; refine Z.tC2 12 [12, 13, 16, 17, 18, 19, 20, 21, 22] rfl rfl rfl (by rfl) J3 rfl (Jk hs) (Jk hs) (Z.yd2 (Z.Yd.fieldA (m := 1) rfl J3)) ?_; refine Z.tC2 13 [13, 16, 17, 18, 19, 20, 21, 22] rfl rfl rfl (by rfl) J3 rfl (Jk hs) (Jk hs) (Z.yd2 J30) ?_; refine Z.tC2 14 [14, 15, 16, 17, 18, 19, 20, 21, 22] rfl rfl rfl (by rfl) J3 rfl (Jk hs) (Jk hs) (Z.yd2 (Z.Yd.pure rfl)) ?_; refine Z.forkC [8, 15] rfl J3 rfl ⟨⟨_, _, rfl, rfl, trivial, ?_⟩, ⟨_, _, rfl, rfl, trivial, ?_⟩, trivial⟩
      · skip
        refine V472 ?_; clear hs; intro g39 w39 hs; refine Z.tkC (C := Z.lv2 _ _ [17, 18, 19, 20, 21, 22]) (i := 8) ⟨(Jk hs), fun _ => (Jk hs)⟩ ?_; refine Z.forkC [9, 15] rfl J3 rfl ⟨⟨_, _, rfl, rfl, trivial, ?_⟩, ⟨_, _, rfl, rfl, trivial, ?_⟩, trivial⟩
        · skip
          refine V237 ?_; clear hs; intro g40 cap40 w40 hs; replace hs := U3 hs; refine V389 ?_; refine Z.forkC [15] rfl J3 rfl ⟨⟨_, _, rfl, rfl, trivial, ?_⟩, trivial⟩; refine V57 ?_; clear hs; intro g46 w46 hs; refine V386 ?_; refine Z.forkC [16] rfl J3 rfl ⟨⟨_, _, rfl, rfl, trivial, ?_⟩, trivial⟩; refine V39 ?_; clear hs; intro g47 cap47 w47 hs; replace hs := U3 hs; refine V387 ?_; refine Z.forkC [17] rfl J3 rfl ⟨⟨_, _, rfl, rfl, trivial, ?_⟩, trivial⟩; refine V310 ?_; refine Z.forkC [18] rfl J3 rfl ⟨⟨_, _, rfl, rfl, trivial, ?_⟩, trivial⟩; refine V218 ?_; refine Z.forkC [19] rfl J3 rfl ⟨⟨_, _, rfl, rfl, trivial, ?_⟩, trivial⟩; refine Z.ZO.store rfl rfl hs sizeOf145 rfl rfl rfl J1 J9 ?_; clear hs; intro ws hs; replace hs := U1 hs; refine V376 ?_; refine Z.forkC [20] rfl J3 rfl ⟨⟨_, _, rfl, rfl, trivial, ?_⟩, trivial⟩; refine V340 ?_; refine Z.forkC [21] rfl J3 rfl ⟨⟨_, _, rfl, rfl, trivial, ?_⟩, trivial⟩; refine V204 ?_; refine Z.forkC [22] rfl J3 rfl ⟨⟨_, _, rfl, rfl, trivial, ?_⟩, trivial⟩; refine V113 ?_; clear hs; intro ws hs; replace hs := U1 hs; refine V195 ?_; refine V300 ?_; have e1 : ((ls.take (i + 1)).map fun x => (x, (0 : Int))).flatMap chC = ((ls.take i).map fun x => (x, (0 : Int))).flatMap chC ++ [.int .i64 xi.id, .int .i64 xi.pr, .int .i64 xi.rt, .int .i64 xi.dp, .int .i64 xi.gr, .int .i64 0] := by
            rw [htk, List.map_append, List.flatMap_append]
            rfl
          have e2 : ints .i64 (natI (List.range (i + 1))) = ints .i64 (natI (List.range i)) ++ [.int .i64 (i : Int)] := by
            rw [List.range_succ]; simp [natI, ints]
          simp only [List.map_take] at e1 hs; refine V33 ?_; refine V587 ?_; refine V6 ?_; exact Z.again (i + 1, _, _) J8 ⟨⟨by simp only; omega, hids2⟩, by simp only [List.map_take]; rw [e1, e2]; exact hs.sel [1, 2, 3, 4] J12⟩ J22
        skip
        refine V57 ?_; clear hs; intro g46 w46 hs; refine V386 ?_; refine Z.forkC [9] rfl J3 rfl ⟨⟨_, _, rfl, rfl, trivial, ?_⟩, trivial⟩; refine V237 ?_; clear hs; intro g40 cap40 w40 hs; replace hs := U3 hs; refine V389 ?_; refine Z.forkC [16] rfl J3 rfl ⟨⟨_, _, rfl, rfl, trivial, ?_⟩, trivial⟩; refine V39 ?_; clear hs; intro g47 cap47 w47 hs; replace hs := U3 hs; refine V387 ?_; refine Z.forkC [17] rfl J3 rfl ⟨⟨_, _, rfl, rfl, trivial, ?_⟩, trivial⟩; refine V310 ?_; refine Z.forkC [18] rfl J3 rfl ⟨⟨_, _, rfl, rfl, trivial, ?_⟩, trivial⟩; refine V218 ?_; refine Z.forkC [19] rfl J3 rfl ⟨⟨_, _, rfl, rfl, trivial, ?_⟩, trivial⟩; refine Z.ZO.store rfl rfl hs sizeOf145 rfl rfl rfl J1 J9 ?_; clear hs; intro ws hs; replace hs := U1 hs; refine V376 ?_; refine Z.forkC [20] rfl J3 rfl ⟨⟨_, _, rfl, rfl, trivial, ?_⟩, trivial⟩; refine V340 ?_; refine Z.forkC [21] rfl J3 rfl ⟨⟨_, _, rfl, rfl, trivial, ?_⟩, trivial⟩; refine V204 ?_; refine Z.forkC [22] rfl J3 rfl ⟨⟨_, _, rfl, rfl, trivial, ?_⟩, trivial⟩; refine V113 ?_; clear hs; intro ws hs; replace hs := U1 hs; refine V195 ?_; refine V300 ?_; have e1 : ((ls.take (i + 1)).map fun x => (x, (0 : Int))).flatMap chC = ((ls.take i).map fun x => (x, (0 : Int))).flatMap chC ++ [.int .i64 xi.id, .int .i64 xi.pr, .int .i64 xi.rt, .int .i64 xi.dp, .int .i64 xi.gr, .int .i64 0] := by
          rw [htk, List.map_append, List.flatMap_append]
          rfl
        have e2 : ints .i64 (natI (List.range (i + 1))) = ints .i64 (natI (List.range i)) ++ [.int .i64 (i : Int)] := by
          rw [List.range_succ]; simp [natI, ints]
        simp only [List.map_take] at e1 hs; refine V33 ?_; refine V587 ?_; refine V6 ?_; exact Z.again (i + 1, _, _) J8 ⟨⟨by simp only; omega, hids2⟩, by simp only [List.map_take]; rw [e1, e2]; exact hs.sel [1, 2, 3, 4] J12⟩ J22
      skip
      refine V57 ?_; clear hs; intro g46 w46 hs; refine V386 ?_; refine Z.forkC [8] rfl J3 rfl ⟨⟨_, _, rfl, rfl, trivial, ?_⟩, trivial⟩; refine V472 ?_; clear hs; intro g39 w39 hs; refine Z.tkC (C := Z.lv2 _ _ [17, 18, 19, 20, 21, 22]) (i := 8) ⟨(Jk hs), fun _ => (Jk hs)⟩ ?_; refine Z.forkC [9] rfl J3 rfl ⟨⟨_, _, rfl, rfl, trivial, ?_⟩, trivial⟩; refine V237 ?_; clear hs; intro g40 cap40 w40 hs; replace hs := U3 hs; refine V389 ?_; refine Z.forkC [16] rfl J3 rfl ⟨⟨_, _, rfl, rfl, trivial, ?_⟩, trivial⟩; refine V39 ?_; clear hs; intro g47 cap47 w47 hs; replace hs := U3 hs; refine V387 ?_; refine Z.forkC [17] rfl J3 rfl ⟨⟨_, _, rfl, rfl, trivial, ?_⟩, trivial⟩; refine V310 ?_; refine Z.forkC [18] rfl J3 rfl ⟨⟨_, _, rfl, rfl, trivial, ?_⟩, trivial⟩; refine V218 ?_; refine Z.forkC [19] rfl J3 rfl ⟨⟨_, _, rfl, rfl, trivial, ?_⟩, trivial⟩; refine Z.ZO.store rfl rfl hs sizeOf145 rfl rfl rfl J1 J9 ?_; clear hs; intro ws hs; replace hs := U1 hs; refine V376 ?_; refine Z.forkC [20] rfl J3 rfl ⟨⟨_, _, rfl, rfl, trivial, ?_⟩, trivial⟩; refine V340 ?_; refine Z.forkC [21] rfl J3 rfl ⟨⟨_, _, rfl, rfl, trivial, ?_⟩, trivial⟩; refine V204 ?_; refine Z.forkC [22] rfl J3 rfl ⟨⟨_, _, rfl, rfl, trivial, ?_⟩, trivial⟩; refine V113 ?_; clear hs; intro ws hs; replace hs := U1 hs; refine V195 ?_; refine V300 ?_
      have e1 : ((ls.take (i + 1)).map fun x => (x, (0 : Int))).flatMap chC = ((ls.take i).map fun x => (x, (0 : Int))).flatMap chC ++ [.int .i64 xi.id, .int .i64 xi.pr, .int .i64 xi.rt, .int .i64 xi.dp, .int .i64 xi.gr, .int .i64 0] := by
        rw [htk, List.map_append, List.flatMap_append]
        rfl
      have e2 : ints .i64 (natI (List.range (i + 1))) = ints .i64 (natI (List.range i)) ++ [.int .i64 (i : Int)] := by
        rw [List.range_succ]; simp [natI, ints]
      simp only [List.map_take] at e1 hs; refine V33 ?_; refine V587 ?_; refine V6 ?_; exact Z.again (i + 1, _, _) J8 ⟨⟨by simp only; omega, hids2⟩, by simp only [List.map_take]; rw [e1, e2]; exact hs.sel [1, 2, 3, 4] J12⟩ J22
    (try simp at hc5)
    refine V181 ?_; obtain rfl : i = ls.length := by omega
    rw [List.take_length] at hids hs; have hset : okSet ls := ⟨by omega, hlg, hids⟩; obtain ⟨gr, cr, rfl, hcr⟩ := row_form hs (j := 3) rfl J5; obtain ⟨Ac, cc, rfl, -, -, -⟩ := row_slv hs (j := 2) rfl; have hmem : ∀ x ∈ natI (List.range ls.length), ∃ i : Nat, i < ls.length ∧ x = (i : Int) := fun x hx => by
      simp only [natI, List.mem_map, List.mem_range] at hx; obtain ⟨i, hi, rfl⟩ := hx; exact ⟨i, hi, rfl⟩
    refine V385 ?_; refine V12 ?_; refine V8 ?_; refine V116 ?_; refine V859 ?_; replace hs : St w [] _ ([Ent.row _ 3 1 ls.length (ints .i64 (natI (List.range ls.length)))] ++ [Ent.blk g4 52 #[.pointer (some ⟨g17, 0, none⟩)], Ent.blk g17 147 #[.slice Ac ls.length cc, .slice (some ⟨gr, 0, none⟩) ls.length cr, .int .i64 0], Ent.row _ 149 6 ls.length (List.flatMap chC (List.map (fun x => (x, (0 : Int))) ls))]) := hs.sel [3, 0, 1, 2] J12; refine V2 ?_; refine Z.ZO.call rfl rfl (by rfl) rfl rfl call74 rfl (sortfunc gr ls.length cr 3 75 _ (key ls) (natI (List.range ls.length)) _ hs.lend (by simp [natI]) J5 J5 call75 (fun x hx y hy W L hW ↦ bk_new2 g4 g17 ls.length cc Ac (.slice (some ⟨gr, 0, none⟩) ls.length cr) (.int .i64 0) ls x y W ((hs.regain hW).celOf (T := 52) J16) ((hs.regain hW).celOf (T := 147) (cs := [_, _, _]) J16) ((hs.regain hW).slm (T := 149) (size := 6) (k := ls.length) (c := cc) (m := ls.length) J16) rfl hset (hmem x hx) (hmem y hy))) ?_; rintro v10_5 w10_5 ⟨rfl, ys, hp, hS, hz⟩; replace hs := hs.regain hz; obtain rfl := ord_unique hset hp hS; replace hs := U6 hs; refine V857 ?_; refine V74 ?_; refine V30 ?_; refine V385 ?_; refine V31 ?_; refine V124 ?_
    repeat (first | refine Z.rthen ?_ | refine Z.rblock ?_ | refine Z.rscope ?_ | refine Z.rjump ?_)
    refine V162 ?_; refine ⟨_, rfl, ?_⟩; dsimp only; rw [if_pos hset]; refine ⟨g17, .slice Ac ls.length cc, .slice (some ⟨gr, 0, none⟩) ls.length cr, rfl, ?_⟩; unfold bkE; rw [newB_chs]; exact hs.sel [2, 3, 0] J12
  clear hs; rintro ⟨⟩ w9 ⟨hno, hs⟩; refine Z.only [] rfl ?_
  (try dsimp only at hs)
  refine V141 ?_; refine V862 ?_; refine V31 ?_; refine V124 ?_
  repeat (first | refine Z.rthen ?_ | refine Z.rblock ?_ | refine Z.rscope ?_)
  refine V162 ?_; exact ⟨_, rfl, by dsimp only; rw [if_neg hno]; exact ⟨rfl, hs⟩⟩

def upTo (n : Nat) (f : Nat → Int) (b : List Int) (i : Nat) : List Int := (List.range n).map fun k => if k < i then f k else elt b (k : Int)
theorem upTo_len {n : Nat} {f : Nat → Int} {b : List Int} {i : Nat} : (upTo n f b i).length = n := by simp [upTo]
theorem upTo_elt {n : Nat} {f : Nat → Int} {b : List Int} {i k : Nat} (hk : k < n) : elt (upTo n f b i) (k : Int) = if k < i then f k else elt b (k : Int) := by
  rw [elt_get (by rw [upTo_len]; exact hk)]; simp [upTo]
theorem upTo_zero {n : Nat} {f : Nat → Int} {b : List Int} (h : b.length = n) : upTo n f b 0 = b := by
  refine List.ext_getElem (by rw [upTo_len, h]) fun k h1 h2 => ?_
  simp [upTo, elt_get h2]
theorem upTo_set {n : Nat} {f : Nat → Int} {b : List Int} {i : Nat} : (upTo n f b i).set i (f i) = upTo n f b (i + 1) := by
  refine List.ext_getElem (by simp [upTo]) fun k h1 h2 => ?_
  have hk : k < n := by rw [upTo_len] at h2; exact h2
  rw [List.getElem_set]; simp only [upTo, List.getElem_map, List.getElem_range]
  by_cases h : i = k
  · subst h; rw [if_pos rfl, if_pos J5]
  rw [if_neg h]
  by_cases h3 : k < i
  · rw [if_pos h3, if_pos J5]
  rw [if_neg h3, if_neg J5]
theorem elt_set {l : List Int} {i k : Nat} {v : Int} (hi : i < l.length) : elt (l.set i v) (k : Int) = if i = k then v else elt l (k : Int) := by
  by_cases hk : k < l.length
  · rw [elt_get (by rw [List.length_set]; exact hk), List.getElem_set, elt_get hk]
  have h1 : elt (l.set i v) (k : Int) = 0 := by simp [elt, hk]
  have h2 : elt l (k : Int) = 0 := by simp [elt, hk]
  rw [h1, if_neg J5, h2]
def tkF (m : BkV) (t : Int) (i : Nat) : Int := min m.l[i]!.dp (elt m.b (i : Int) + m.l[i]!.rt * (t - m.now))
def tickG (m : BkV) (t : Int) (i : Nat) : BkV := { m with b := upTo m.l.length (tkF m t) m.b i }
def okT (m : BkV) (t : Int) : Prop := m.now ≤ t ∧ t < 1073741824
instance (m : BkV) (t : Int) : Decidable (okT m t) := by unfold okT; infer_instance
def tickV (m : BkV) (t : Int) : BkV × Int := if okT m t then ({ tickG m t m.l.length with now := t }, 0) else (m, 2)
theorem tkF_bd {m : BkV} (hm : m.ok) {t : Int} (ht : okT m t) {i : Nat} (hi : i < m.l.length) : (0 ≤ m.l[i]!.rt * (t - m.now) ∧ m.l[i]!.rt * (t - m.now) ≤ 1125899906842624) ∧ 0 ≤ tkF m t i ∧ tkF m t i ≤ m.l[i]!.dp := by
  obtain ⟨-, -, ⟨r1, r2⟩, ⟨d1, d2⟩, -⟩ := hm.set.lg hi; obtain ⟨n1, n2⟩ := hm.now; obtain ⟨t1, t2⟩ := ht; obtain ⟨b1, b2⟩ := hm.bd i hi; have h1 : 0 ≤ m.l[i]!.rt * (t - m.now) := Int.mul_nonneg r1 J5; have h2 : m.l[i]!.rt * (t - m.now) ≤ 1048576 * 1073741824 := Int.mul_le_mul r2 J5 J5 J5; refine ⟨⟨h1, by omega⟩, ?_⟩; unfold tkF
  omega
theorem BkV.ok.tickG {m : BkV} (hm : m.ok) {t : Int} (ht : okT m t) (i : Nat) : (tickG m t i).ok := by
  refine ⟨hm.set, by simp [Go.Proofs.YtbojkoiopkaciaaGreat.tickG, upTo_len], fun k hk => ?_, hm.now⟩; have hk' : k < m.l.length := hk; have h1 := (tkF_bd hm ht hk').2; have h2 := hm.bd k hk'; simp only [Go.Proofs.YtbojkoiopkaciaaGreat.tickG]; rw [upTo_elt hk']
  split
  · exact h1
  exact h2
theorem BkV.ok.tick {m : BkV} (hm : m.ok) (t : Int) : (tickV m t).1.ok := by
  unfold tickV
  split
  · rename_i ht
    obtain ⟨h1, h2, h3, h4⟩ := hm.tickG ht m.l.length; exact ⟨h1, h2, h3, by have := hm.now; unfold okT at ht; simp only; omega⟩
  exact hm
structure DvS where
  out : List Int
  b : List Int
  sz : Int
def amt (r : Nat) (dem : List Int) (s : DvS) (i : Nat) : Int := if r = 0 then min (min (elt dem (i : Int) - elt s.out (i : Int)) (elt s.b (i : Int))) s.sz else min (elt dem (i : Int) - elt s.out (i : Int)) s.sz
def dst (r : Nat) (dem : List Int) (s : DvS) (i : Nat) : DvS := ⟨s.out.set i (elt s.out (i : Int) + amt r dem s i), if r = 0 then s.b.set i (elt s.b (i : Int) - amt r dem s i) else s.b, s.sz - amt r dem s i⟩
def rnd (r : Nat) (dem : List Int) (s : DvS) (o : List Nat) : DvS := o.foldl (dst r dem) s
def dv0 (m : BkV) (size : Int) : DvS := ⟨List.replicate m.l.length 0, m.b, size⟩
def rounds (m : BkV) (size : Int) (dem : List Int) : Nat → DvS
  | 0 => dv0 m size
  | r + 1 => rnd r dem (rounds m size dem r) (ordL m.l)
def okDm (dem : List Int) : Prop := ∀ x ∈ dem, 0 ≤ x ∧ x ≤ 16777216
instance (dem : List Int) : Decidable (okDm dem) := by unfold okDm; infer_instance
def okD (m : BkV) (size : Int) (dem : List Int) : Prop := (0 ≤ size ∧ size ≤ 16777216) ∧ dem.length = m.l.length ∧ okDm dem
instance (m : BkV) (size : Int) (dem : List Int) : Decidable (okD m size dem) := by unfold okD; infer_instance
def divV (m : BkV) (size : Int) (dem : List Int) : BkV × List Int × Int := if okD m size dem then ({ m with b := (rounds m size dem 2).b }, (rounds m size dem 2).out, 0) else (m, [], 2)
structure DvS.ok (m : BkV) (dem : List Int) (s : DvS) : Prop where
  ol : s.out.length = m.l.length
  bl : s.b.length = m.l.length
  sz : 0 ≤ s.sz ∧ s.sz ≤ 16777216
  og : ∀ i : Nat, i < m.l.length → 0 ≤ elt s.out (i : Int) ∧ elt s.out (i : Int) ≤ elt dem (i : Int)
  bg : ∀ i : Nat, i < m.l.length → 0 ≤ elt s.b (i : Int) ∧ elt s.b (i : Int) ≤ elt m.b (i : Int)
theorem okDm.elt {dem : List Int} (h : okDm dem) {i : Nat} (hi : i < dem.length) : 0 ≤ elt dem (i : Int) ∧ elt dem (i : Int) ≤ 16777216 := by
  rw [elt_get hi]; exact h _ (List.getElem_mem _)
theorem dv0_ok {m : BkV} (hm : m.ok) {size : Int} {dem : List Int} (h : okD m size dem) : (dv0 m size).ok m dem := by
  refine ⟨by simp [dv0], by simp [dv0, hm.len], h.1, fun i hi => ?_, fun i hi => ?_⟩
  · have h1 := h.2.2.elt (i := i) (by have := h.2.1; omega)
    have e : elt (dv0 m size).out (i : Int) = 0 := by simp [dv0, Go.Proofs.YtbojkoiopkaciaaGreat.elt, hi]
    rw [e]; exact ⟨by omega, h1.1⟩
  have := hm.bd i hi; exact ⟨this.1, Int.le_refl _⟩
theorem amt_bd {m : BkV} {dem : List Int} {s : DvS} (hs : s.ok m dem) (r : Nat) {i : Nat} (hi : i < m.l.length) : 0 ≤ amt r dem s i ∧ amt r dem s i ≤ elt dem (i : Int) - elt s.out (i : Int) ∧ amt r dem s i ≤ s.sz ∧ (r = 0 → amt r dem s i ≤ elt s.b (i : Int)) := by
  have h1 := hs.og i hi; have h2 := hs.bg i hi; have h3 := hs.sz; unfold amt
  split <;> omega
theorem DvS.ok.step {m : BkV} {dem : List Int} {s : DvS} (hs : s.ok m dem) (r : Nat) {i : Nat} (hi : i < m.l.length) : (dst r dem s i).ok m dem := by
  obtain ⟨a1, a2, a3, a4⟩ := amt_bd hs r hi; have h0 := hs.sz; refine ⟨by simp [dst, hs.ol], by simp only [dst]; split <;> simp [hs.bl], by simp only [dst]; omega, fun k hk => ?_, fun k hk => ?_⟩
  · have h1 := hs.og k hk
    simp only [dst]; rw [elt_set (by rw [hs.ol]; exact hi)]
    split
    · rename_i e; subst e; omega
    exact h1
  have h1 := hs.bg k hk; simp only [dst]
  split
  · rename_i hr
    rw [elt_set (by rw [hs.bl]; exact hi)]; have := a4 hr
    split
    · rename_i e; subst e; omega
    exact h1
  exact h1
theorem DvS.ok.fold {m : BkV} {dem : List Int} (r : Nat) : ∀ {o : List Nat} {s : DvS}, s.ok m dem → (∀ i ∈ o, i < m.l.length) → (rnd r dem s o).ok m dem
  | [], _, h, _ => h
  | i :: o, s, h, ho => DvS.ok.fold r (o := o) (h.step r (ho i J16)) fun k hk => ho k (by simp [hk])
theorem ord_lt {m : BkV} (hm : m.ok) : ∀ i ∈ ordL m.l, i < m.l.length := fun i hi => (mem_ordL hm.set).1 hi
theorem rounds_ok {m : BkV} (hm : m.ok) {size : Int} {dem : List Int} (h : okD m size dem) : ∀ r, (rounds m size dem r).ok m dem
  | 0 => dv0_ok hm h
  | r + 1 => (rounds_ok hm h r).fold r (ord_lt hm)
theorem BkV.ok.setB {m : BkV} (hm : m.ok) {dem : List Int} {s : DvS} (hs : s.ok m dem) : ({ m with b := s.b } : BkV).ok := by
  refine ⟨hm.set, hs.bl, fun i hi => ?_, hm.now⟩; have h1 := hs.bg i hi; have h2 := hm.bd i hi; simp only
  omega
theorem BkV.ok.div {m : BkV} (hm : m.ok) (size : Int) (dem : List Int) : (divV m size dem).1.ok := by
  unfold divV
  split
  · rename_i h; exact hm.setB (rounds_ok hm h 2)
  exact hm
theorem rnd_take {r : Nat} {dem : List Int} {s : DvS} {o : List Nat} {k : Nat} (hk : k < o.length) : rnd r dem s (o.take (k + 1)) = dst r dem (rnd r dem s (o.take k)) o[k] := by
  unfold rnd; rw [List.take_add_one, List.getElem?_eq_getElem hk, List.foldl_append]
  rfl
theorem rnd_out {r : Nat} {dem : List Int} : ∀ {o : List Nat} {s : DvS} {j : Nat}, j ∉ o → j < s.out.length → elt (rnd r dem s o).out (j : Int) = elt s.out (j : Int)
  | [], _, _, _, _ => rfl
  | i :: o, s, j, hj, hl => by
    have h1 := rnd_out (r := r) (dem := dem) (o := o) (s := dst r dem s i) (j := j) (fun h => hj (by simp [h])) (by simp [dst, hl])
    show elt (rnd r dem (dst r dem s i) o).out (j : Int) = _
    rw [h1]; have hij : i ≠ j := fun h => hj (by simp [h])
    simp only [dst]
    by_cases hi : i < s.out.length
    · rw [elt_set hi, if_neg hij]
    rw [List.set_eq_of_length_le J5]
theorem chs_set {m : BkV} (hm : m.b.length = m.l.length) {i : Nat} (hi : i < m.l.length) (v : Int) : m.chs.set i (m.l[i]!, v) = ({ m with b := m.b.set i v } : BkV).chs := by
  unfold BkV.chs; refine List.ext_getElem J16 fun k h1 h2 => ?_
  have hk : k < m.l.length := by simp at h1; omega
  rw [List.getElem_set, List.getElem_zip, List.getElem_zip, List.getElem_set]
  by_cases h : i = k
  · subst h; simp [getElem!_pos, hi]
  simp [h]

theorem bk_none (g n c : Nat) (A : Option Addr) (so nw : Value) (w : World) (hc : Cel w g [.slice A n c, so, nw]) : Calls Tryz.prog 88 #[.pointer (some ⟨g, 0, none⟩)] w (Ret fun v w' => v = .bool (decide (n = 0)) ∧ St w [] w' []) := by
  have hs := St.start w; refine Z.enter func88 rfl ntmps88 rfl rfl ?_; refine V242 ?_; refine V859 ?_; refine Z.l rfl rfl (by rfl) (Z.keepS hs) (Z.Yd.ptrNil rfl rfl underlying52) ?_; refine V277 ?_; refine V329 ?_; refine V184 ?_; refine V120 ?_; exact ⟨_, rfl, by congr 1; rw [Bool.eq_iff_iff]; simp, hs⟩
theorem BkV.ok.pos {m : BkV} (hm : m.ok) : 1 ≤ m.l.length ∧ m.l.length ≤ 10 := hm.set.1
theorem bk_tick (g : Nat) (sv so : Value) (m : BkV) (t : Int) (w : World) (hs : St w (idsOf (bkE g sv so m)) w (bkE g sv so m)) (hm : m.ok) :
    Calls Tryz.prog 42 #[.pointer (some ⟨g, 0, none⟩), .int .i64 t] w (Ret fun v w' => v = .int .i64 (tickV m t).2 ∧ St w (idsOf (bkE g sv so m)) w' (bkE g sv so (tickV m t).1)) := by
  generalize hM : idsOf (bkE g sv so m) = M at *; have hpos := hm.pos; have hnow := hm.now; unfold bkE at hs; obtain ⟨gs, cs, rfl, hcs⟩ := row_form hs (j := 1) rfl J5; refine Z.enter func42 rfl ntmps42 rfl rfl ?_; refine V394 ?_; refine V594 ?_; refine V62 ?_; refine Z.ZO.call rfl rfl (by rfl) rfl rfl call88 rfl (bk_none g _ _ _ _ _ _ (hs.celOf (cs := [_, _, _]) J0)) ?_; rintro v1_1 w1_1 ⟨rfl, hy⟩; replace hs := U0 (hs.call hy); clear hy; refine V1 ?_; refine Z.only [0, 1, 7] rfl ?_; refine V6 ?_; refine Z.cond rfl (fun h => absurd h J111) (fun hc1 => ?_); refine V0 ?_; refine V277 ?_; refine V444 ?_; refine V476 ?_; refine V857 ?_; refine Z.only [0, 1, 10] rfl ?_; refine V6 ?_; refine Z.cond rfl (fun hc3 => ?_) (fun hc3 => ?_)
  · (try simp at hc3)
    have hno : ¬ okT m t := by unfold okT; omega
    have eT : tickV m t = (m, 2) := if_neg hno; refine V189 ?_
    repeat (first | refine Z.rthen ?_ | refine Z.rblock ?_ | refine Z.rscope ?_)
    refine V199 ?_; exact ⟨_, rfl, by rw [eT], by rw [eT]; exact hs⟩
  (try simp at hc3)
  have hok : okT m t := by unfold okT; omega
  have eT : tickV m t = ({ tickG m t m.l.length with now := t }, 0) := if_pos hok; refine V68 ?_; refine V125 ?_; refine V384 ?_; refine V531 ?_; refine V1 ?_; refine Z.only [0, 1, 25, 26] rfl ?_; refine V861 ?_; refine Z.loopk (ι := Nat) [0, 1, 25] rfl (fun x => [(26, [], .int .i64 (x : Int))]) (fun x wr => x ≤ m.l.length ∧ St w M wr (bkE g (.slice (some ⟨gs, 0, none⟩) m.l.length cs) so (tickG m t x))) (fun x => m.l.length - x) 0 J6 ⟨Nat.zero_le _, by rw [show tickG m t 0 = m by unfold tickG; rw [upTo_zero hm.len]]; exact hs⟩ ?_; clear hs; rintro i w6 ⟨hi, hs⟩; refine Z.only [0, 1, 25, 26] rfl ?_; refine V121 ?_; refine Z.only [0, 1, 25, 26, 27] rfl ?_; refine V210 ?_; refine Z.cond rfl (fun hc6 => ?_) (fun hc6 => ?_)
  · (try simp at hc6)
    have hlt : i < m.l.length := by omega
    have hmi := hm.tickG hok i; have hgi : (tickG m t i).chs[i]? = some (m.l[i]!, elt (tickG m t i).b (i : Int)) := hmi.chg (i := i) hlt; have hfl : ((tickG m t i).chs.flatMap chC).length = m.l.length * 6 := by rw [flat_len ch_len, hmi.chl]; rfl
    have hbb := tkF_bd hm hok hlt; have eb : elt (tickG m t i).b (i : Int) = elt m.b (i : Int) := by simp only [tickG]; rw [upTo_elt hlt, if_neg J5]
    have hbd := hm.bd i hlt; obtain ⟨-, -, ⟨r1, r2⟩, ⟨d1, d2⟩, -⟩ := hm.set.lg hlt; rw [eb] at hgi; replace hs : St w M _ [Ent.blk g 147 #[.slice (some ⟨gs, 0, none⟩) m.l.length cs, so, .int .i64 m.now], Ent.row (.slice (some ⟨gs, 0, none⟩) m.l.length cs) 149 6 m.l.length ((tickG m t i).chs.flatMap chC), Ent.row so 3 1 m.l.length (ints .i64 (natI (ordL m.l)))] := hs; refine V150 ?_; refine V151 ?_; refine Z.only [0, 1, 5, 25, 26] rfl ?_; refine V858 ?_; refine V245 ?_; refine V3 ?_; refine Z.l rfl rfl (by rfl) (Z.keepS hs) J85 ?_; refine V859 ?_; refine V580 ?_; refine V1 ?_; refine Z.only [0, 1, 6, 25, 26] rfl ?_; refine V6 ?_; refine Z.drawK (fun j => j != 26) mixed hs ?_; clear hs; intro wd9 hs; refine V87 ?_; refine Z.t 4 rfl rfl rfl (by rfl) J3 (Jk hs) (Z.Yd.fieldA (m := 3) rfl J3) ?_; refine Z.t 5 rfl rfl rfl (by rfl) J3 (Jk hs) (Z.Yd.load rfl isAgg3 (fun _ => Z.cellR J0 (Z.flat_pos ch_len hgi rfl))) ?_; refine Z.tb [6] J3 rfl (Jk hs) rfl ?_; refine Z.t 7 rfl rfl rfl (by rfl) J3 (Jk hs) (Z.Yd.nilc rfl rfl) ?_; refine Z.t 8 rfl rfl rfl (by rfl) J3 (Jk hs) (Z.Yd.fieldA (m := 5) rfl J3) ?_; refine Z.t 9 rfl rfl rfl (by rfl) J3 (Jk hs) (Z.Yd.load rfl isAgg3 (fun _ => Z.cellR J0 (Z.flat_pos ch_len hgi rfl))) ?_; refine Z.tb [10] J3 rfl (Jk hs) rfl ?_; refine Z.t 11 rfl rfl rfl (by rfl) J3 (Jk hs) (Z.Yd.nilc rfl rfl) ?_; refine Z.t 12 rfl rfl rfl (by rfl) J3 (Jk hs) (Z.Yd.fieldA (m := 0) rfl J3) ?_
    refine Z.t 13 rfl rfl rfl (by rfl) J3 (Jk hs) (Z.Yd.fieldA (m := 2) rfl J3) ?_; refine Z.t 14 rfl rfl rfl (by rfl) J3 (Jk hs) (Z.Yd.load rfl isAgg3 (fun _ => Z.cellR J0 (Z.flat_pos ch_len hgi rfl))) ?_; refine Z.tb [15, 16] J3 rfl (Jk hs) rfl ?_; refine Z.t 17 rfl rfl rfl (by rfl) J3 (Jk hs) (Z.Yd.nilc rfl rfl) ?_; refine V490 ?_; refine Z.t 19 rfl rfl rfl (by rfl) J3 (Jk hs) J25 ?_; refine Z.t 20 rfl rfl rfl (by rfl) J3 (Jk hs) (Z.Yd.sub rfl rfl (fun hG => Z.wi64 J2)) ?_; refine V288 ?_; refine Z.tn 24 rfl rfl J3 rfl trivial ?_; refine V128 ?_; refine Z.tk (Dn := fun j => j != 26) (i := 24) (fun _ => (Jk hs)) ?_; refine Z.t 25 rfl rfl rfl (by rfl) J3 (Jk hs) (Z.Yd.fieldA (m := 5) rfl J3) ?_; refine Z.tn 26 rfl rfl J3 rfl trivial ?_; refine V112 ?_; clear hs; intro ws hs; replace hs := U1 hs; refine Z.tk (Dn := fun j => j != 26) (i := 26) (fun h => absurd h J12) ?_; refine V40 ?_; refine Z.only [0, 1, 25, 26] rfl ?_; refine V332 ?_; refine Z.only [0, 1, 25, 26] rfl ?_; refine V6 ?_; refine Z.again (i + 1) J10 ⟨by omega, ?_⟩ J5; rw [Int.toNat_natCast, Z.flat_set (x' := (m.l[i]!, tkF m t i)) ch_len hgi J12 rfl] at hs; have e := chs_set (m := tickG m t i) hmi.len hlt (tkF m t i); rw [show (tickG m t i).l[i]! = m.l[i]! from rfl] at e; rw [e, show ({ tickG m t i with b := (tickG m t i).b.set i (tkF m t i) } : BkV) = tickG m t (i + 1) by simp only [tickG]; rw [upTo_set]] at hs; exact hs
  (try simp at hc6)
  refine V181 ?_; obtain rfl : i = m.l.length := by omega
  unfold bkE at hs; refine V18 ?_; refine V245 ?_; refine V19 ?_; refine V183 ?_; clear hs; intro ws hs; replace hs := U1 hs; refine V857 ?_; refine Z.only [] rfl ?_; refine V511 ?_; refine V240 ?_; exact ⟨_, rfl, by rw [eT], by rw [eT]; exact hs⟩

theorem bk_guar (g i n c : Nat) (xs : List (LgV × Int)) (x : LgV) (b d sz : Int) (w : World) (hs : St w (idsOf [Ent.row (.slice (some ⟨g, 0, none⟩) n c) 149 6 n (xs.flatMap chC)]) w [Ent.row (.slice (some ⟨g, 0, none⟩) n c) 149 6 n (xs.flatMap chC)])
    (hg : xs[i]? = some (x, b)) (hl : xs.length = n) (hb : 0 ≤ b ∧ b ≤ 16777216) (hd : 0 ≤ d ∧ d ≤ 16777216) (hz : 0 ≤ sz ∧ sz ≤ 16777216) :
    Calls Tryz.prog 100 #[.pointer (some ⟨g, 0 + (i : Int).toNat * 6, none⟩), .int .i64 d, .int .i64 sz] w (Ret fun v w' => v = .int .i64 (min (min d b) sz) ∧ St w (idsOf [Ent.row (.slice (some ⟨g, 0, none⟩) n c) 149 6 n (xs.flatMap chC)]) w' [Ent.row (.slice (some ⟨g, 0, none⟩) n c) 149 6 n ((xs.set i (x, b - min (min d b) sz)).flatMap chC)]) := by
  generalize hM : idsOf [Ent.row (.slice (some ⟨g, 0, none⟩) n c) 149 6 n (xs.flatMap chC)] = M at *; have hfl : (xs.flatMap chC).length = n * 6 := by rw [flat_len ch_len, hl]
  have hin : i < n := by rw [← hl]; exact (List.getElem?_eq_some_iff.1 hg).1
  refine Z.enter func100 rfl ntmps100 rfl rfl ?_; refine V469 ?_; refine V858 ?_; refine V277 ?_; refine V502 ?_; refine V859 ?_; refine Z.l rfl rfl (by rfl) (Z.keepS hs) (Z.Yd.min rfl rfl) ?_; refine V1 ?_; refine Z.only [0, 7] rfl ?_; refine V858 ?_; refine V245 ?_; refine V502 ?_; refine V859 ?_; refine V17 ?_; refine V12 ?_; refine V78 ?_; refine V2 ?_; refine V112 ?_; clear hs; intro ws hs; replace hs := U1 hs; refine V857 ?_; refine Z.only [7] rfl ?_; refine V423 ?_; refine V462 ?_; rw [Int.toNat_natCast, Z.flat_set (x' := (x, b - min (min d b) sz)) ch_len hg J12 rfl] at hs; exact ⟨_, rfl, rfl, hs⟩
theorem bk_rest (g i : Nat) (d sz : Int) (w : World) :
    Calls Tryz.prog 101 #[.pointer (some ⟨g, 0 + (i : Int).toNat * 6, none⟩), .int .i64 d, .int .i64 sz] w (Ret fun v w' => v = .int .i64 (min d sz) ∧ St w [] w' []) := by
  have hs := St.start w; refine Z.enter func101 rfl ntmps101 rfl rfl ?_; refine V121 ?_; refine Z.only [1, 2] rfl ?_; refine V858 ?_; refine V11 ?_; refine Z.l rfl rfl (by rfl) (Z.keepS hs) (Z.Yd.min rfl rfl) ?_; refine V1 ?_; refine V462 ?_; exact ⟨_, rfl, rfl, hs⟩
def rfn (r : Nat) : Nat := if r = 0 then 100 else 101
theorem rfn_call (r : Nat) (args : Array Value) (w : World) : (callFunc (rfn r) args).run Tryz.prog w = .ok (.enter (rfn r) args) w := by
  unfold rfn
  split
  · exact call100 args w
  exact call101 args w
theorem bk_round (r g i c : Nat) (m : BkV) (dem : List Int) (s : DvS) (w : World) (hs : St w (idsOf [Ent.row (.slice (some ⟨g, 0, none⟩) m.l.length c) 149 6 m.l.length (({ m with b := s.b } : BkV).chs.flatMap chC)]) w [Ent.row (.slice (some ⟨g, 0, none⟩) m.l.length c) 149 6 m.l.length (({ m with b := s.b } : BkV).chs.flatMap chC)])
    (hm : m.ok) (hso : s.ok m dem) (hdm : okDm dem) (hdl : dem.length = m.l.length) (hi : i < m.l.length) :
    Calls Tryz.prog (rfn r) #[.pointer (some ⟨g, 0 + (i : Int).toNat * 6, none⟩), .int .i64 (elt dem (i : Int) - elt s.out (i : Int)), .int .i64 s.sz] w (Ret fun v w' => v = .int .i64 (amt r dem s i) ∧ St w (idsOf [Ent.row (.slice (some ⟨g, 0, none⟩) m.l.length c) 149 6 m.l.length (({ m with b := s.b } : BkV).chs.flatMap chC)]) w' [Ent.row (.slice (some ⟨g, 0, none⟩) m.l.length c) 149 6 m.l.length (({ m with b := (dst r dem s i).b } : BkV).chs.flatMap chC)]) := by
  have hms := hm.setB hso; have hgi : ({ m with b := s.b } : BkV).chs[i]? = some (m.l[i]!, elt s.b (i : Int)) := hms.chg hi; have h1 := hso.og i hi; have h2 := hso.bg i hi; have h3 := hm.bd i hi; have h4 := (hm.set.lg hi).2.2.2.1; have h5 := hdm.elt (i := i) J5; have h6 := hso.sz
  by_cases hr : r = 0
  · subst hr
    have e1 : amt 0 dem s i = min (min (elt dem (i : Int) - elt s.out (i : Int)) (elt s.b (i : Int))) s.sz := rfl; have e2 : (dst 0 dem s i).b = s.b.set i (elt s.b (i : Int) - amt 0 dem s i) := rfl; have e3 := chs_set (m := { m with b := s.b }) hms.len (i := i) hi (elt s.b (i : Int) - amt 0 dem s i); rw [e2, e1]; rw [e1] at e3; rw [← e3]; exact bk_guar g i m.l.length c _ m.l[i]! (elt s.b (i : Int)) _ _ w hs hgi hms.chl ⟨h2.1, by omega⟩ ⟨by omega, by omega⟩ h6
  have e1 : amt r dem s i = min (elt dem (i : Int) - elt s.out (i : Int)) s.sz := if_neg hr; have e2 : (dst r dem s i).b = s.b := if_neg hr; rw [e1, e2, show rfn r = 101 from if_neg hr]; refine (bk_rest g i _ _ w).mono fun e w' ⟨v, h1, h2, h3⟩ => ⟨v, h1, h2, ?_⟩
  exact (hs.call h3).sub J16
theorem bk_div1 (x : Int) (w : World) : Calls Tryz.prog 99 #[.int .i64 x] w (Ret fun v w' => v = .bool (decide (0 ≤ x ∧ x ≤ 16777216)) ∧ St w [] w' []) := by
  have hs := St.start w; refine Z.enter func99 rfl ntmps99 rfl rfl ?_; refine V242 ?_; refine V62 ?_; refine Z.ZO.call rfl rfl (by rfl) rfl rfl call69 rfl (bk_between x 0 16777216 _) ?_; rintro v1_1 w1_1 ⟨rfl, hy⟩; replace hs := U0 (hs.call hy); clear hy; refine V186 ?_; exact ⟨_, rfl, rfl, hs⟩
theorem natI_elt {o : List Nat} {k : Nat} (hk : k < o.length) : elt (natI o) (k : Int) = (o[k] : Int) := by
  rw [elt_get (by simp [natI]; exact hk)]; simp [natI]
theorem bk_divide (g : Nat) (sv so : Value) (m : BkV) (size : Int) (A : Option Addr) (nd cd : Nat) (dem : List Int) (w : World) (hs : St w (idsOf (bkE g sv so m)) w (bkE g sv so m)) (hm : m.ok)
    (hd : Sx w (idsOf (bkE g sv so m)) A (ints .i64 dem)) (hdl : dem.length = nd) :
    Calls Tryz.prog 49 #[.pointer (some ⟨g, 0, none⟩), .int .i64 size, .slice A nd cd] w (Ret fun v w' => ∃ ov, v = .tuple #[ov, .int .i64 (divV m size dem).2.2] ∧ St w (idsOf (bkE g sv so m)) w' (Ent.row ov 3 1 (divV m size dem).2.1.length (ints .i64 (divV m size dem).2.1) :: bkE g sv so (divV m size dem).1)) := by
  generalize hM : idsOf (bkE g sv so m) = M at *; have hpos := hm.pos; unfold bkE at hs; obtain ⟨gs, cs, rfl, hcs⟩ := row_form hs (j := 1) rfl J5; obtain ⟨gq, cq, rfl, hcq⟩ := row_form hs (j := 2) rfl J5; refine Z.enter func49 rfl ntmps49 rfl rfl ?_; refine V151 ?_; refine Z.only [0, 1, 2] rfl ?_; refine V268 ?_; refine Z.ZO.call rfl rfl (by rfl) rfl rfl call88 rfl (bk_none g _ _ _ _ _ _ (hs.celOf (cs := [_, _, _]) J0)) ?_; rintro v1_1 w1_1 ⟨rfl, hy⟩; replace hs := U0 (hs.call hy); clear hy; refine V857 ?_; refine Z.only [0, 1, 2, 15] rfl ?_; refine V6 ?_; refine Z.cond rfl (fun h => absurd h J111) (fun hc1 => ?_); refine V47 ?_; refine V268 ?_; refine Z.ZO.call rfl rfl (by rfl) rfl rfl call69 rfl (bk_between size 0 16777216 _) ?_; rintro v3_1 w3_1 ⟨rfl, hy⟩; replace hs := U0 (hs.call hy); clear hy; refine V11 ?_; refine Z.split (s := 19) rfl (fun hsp19 => ?_) (fun hsp19 => ?_)
  · refine Z.yes (s := 19) (b := true) rfl hsp19 rfl ?_
    (try simp at hsp19)
    refine V4 ?_; refine V4 ?_; refine V299 ?_; refine V485 ?_; refine Z.split (s := 29) rfl (fun hsp29 => ?_) (fun hsp29 => ?_)
    · refine Z.yes (s := 29) (b := true) rfl hsp29 rfl ?_
      (try simp at hsp29)
      refine V4 ?_; refine V20 ?_; refine V857 ?_; refine Z.only [0, 1, 2, 33] rfl ?_; refine V6 ?_; refine Z.cond rfl (fun hc3 => ?_) (fun hc3 => ?_)
      · (try simp at hc3)
        have hno : ¬ okD m size dem := by
          rintro ⟨h1, h2, h3⟩
          omega
        have eD : divV m size dem = (m, [], 2) := if_neg hno; refine V151 ?_; refine V337 ?_
        repeat (first | refine Z.rthen ?_ | refine Z.rblock ?_ | refine Z.rscope ?_)
        refine V162 ?_; exact ⟨_, rfl, .slice none 0 0, by rw [eD], by rw [eD]; exact hs.nil 3 1⟩
      (exfalso; simp at hc3 <;> omega)
    (exfalso; simp at hsp29 <;> omega)
  refine Z.yes (s := 19) (b := false) rfl hsp19 rfl ?_
  (try simp at hsp19)
  refine V859 ?_; refine V26 ?_; refine V245 ?_; refine V3 ?_; refine V531 ?_; refine V859 ?_; refine Z.yes (s := 19) (b := false) rfl rfl rfl ?_; refine V276 ?_; refine Z.split (s := 29) rfl (fun hsp29 => ?_) (fun hsp29 => ?_)
  · refine Z.yes (s := 29) (b := true) rfl hsp29 rfl ?_
    (try simp at hsp29)
    refine V4 ?_; refine V20 ?_; refine V857 ?_; refine Z.only [0, 1, 2, 33] rfl ?_; refine V6 ?_; refine Z.cond rfl (fun hc3 => ?_) (fun hc3 => ?_)
    · (try simp at hc3)
      have hno : ¬ okD m size dem := by
        rintro ⟨h1, h2, h3⟩
        omega
      have eD : divV m size dem = (m, [], 2) := if_neg hno; refine V151 ?_; refine V337 ?_
      repeat (first | refine Z.rthen ?_ | refine Z.rblock ?_ | refine Z.rscope ?_)
      refine V162 ?_; exact ⟨_, rfl, .slice none 0 0, by rw [eD], by rw [eD]; exact hs.nil 3 1⟩
    (exfalso; simp at hc3 <;> omega)
  refine Z.yes (s := 29) (b := false) rfl hsp29 rfl ?_
  (try simp at hsp29)
  refine V859 ?_; refine Z.yes (s := 29) (b := false) rfl rfl rfl ?_; refine V160 ?_; refine Z.ZO.call rfl rfl (by rfl) rfl rfl call98 rfl (bk_everyI A nd cd dem 99 #[] (fun x ↦ decide (0 ≤ x ∧ x ≤ 16777216)) _ (hd.st hs) hdl J5 call99 (fun x W hW ↦ bk_div1 x W)) ?_; rintro v3_15 w3_15 ⟨rfl, hy⟩; replace hs := U0 (hs.call hy); clear hy; refine V859 ?_; refine Z.yes (s := 29) (b := false) rfl rfl rfl ?_; refine V14 ?_; refine V857 ?_; refine Z.only [0, 1, 2, 33] rfl ?_; refine V6 ?_; refine Z.cond rfl (fun hc3 => ?_) (fun hc3 => ?_)
  · (try simp at hc3)
    have hno : ¬ okD m size dem := by
      rintro ⟨h1, h2, h3⟩
      (obtain ⟨x, hx1, hx2⟩ := hc3; have := h3 x hx1; omega)
    have eD : divV m size dem = (m, [], 2) := if_neg hno; refine V151 ?_; refine V337 ?_
    repeat (first | refine Z.rthen ?_ | refine Z.rblock ?_ | refine Z.rscope ?_)
    refine V162 ?_; exact ⟨_, rfl, .slice none 0 0, by rw [eD], by rw [eD]; exact hs.nil 3 1⟩
  (try simp at hc3)
  have hok : okD m size dem := ⟨by omega, by omega, fun x hx => by have := hc3 x hx; omega⟩; have eD : divV m size dem = ({ m with b := (rounds m size dem 2).b }, (rounds m size dem 2).out, 0) := if_pos hok; have hnd : nd = m.l.length := by omega
  obtain ⟨bd, od, rfl, hdx⟩ := hd.some J70; refine V862 ?_; refine V859 ?_; refine V26 ?_; refine V2 ?_; refine V114 ?_; clear hs; intro g36 w36 hs; refine V1 ?_; refine Z.only [0, 1, 2, 8] rfl ?_; refine V30 ?_; have ez : List.replicate nd (Value.int .i64 0) = ints .i64 (List.replicate m.l.length 0) := by subst hnd; simp [ints]
  rw [ez] at hs; subst hnd; replace hs : St w M _ [Ent.row (.slice (some ⟨g36, 0, none⟩) m.l.length m.l.length) 3 1 m.l.length (ints .i64 (dv0 m size).out), Ent.blk g _ _, Ent.row _ _ _ _ _, Ent.row _ _ _ _ _] := hs; refine Z.l rfl rfl (by rfl) (Z.keepS hs) (Z.Yd.buildL [(0, 1), (1, 1)] [.nilFunc, .nilFunc] rfl rfl J18) ?_; refine V1 ?_; refine Z.only [0, 1, 2, 8, 37, 38] rfl ?_; refine V861 ?_; refine Z.loopk (ι := Nat) [0, 2, 8, 37] rfl (fun x => [(1, [], .int .i64 (rounds m size dem x).sz), (38, [], .int .i64 (x : Int))]) (fun x wr => x ≤ 2 ∧ St w M wr [Ent.row (.slice (some ⟨g36, 0, none⟩) m.l.length m.l.length) 3 1 m.l.length (ints .i64 (rounds m size dem x).out), Ent.blk g 147 #[.slice (some ⟨gs, 0, none⟩) m.l.length cs, .slice (some ⟨gq, 0, none⟩) m.l.length cq, .int .i64 m.now], Ent.row (.slice (some ⟨gs, 0, none⟩) m.l.length cs) 149 6 m.l.length (({ m with b := (rounds m size dem x).b } : BkV).chs.flatMap chC), Ent.row (.slice (some ⟨gq, 0, none⟩) m.l.length cq) 3 1 m.l.length (ints .i64 (natI (ordL m.l)))]) (fun x => 2 - x) 0 J11 ⟨by omega, hs⟩ ?_; clear hs; rintro r w7 ⟨hr, hs⟩; refine Z.only [0, 1, 2, 8, 37, 38] rfl ?_; refine V121 ?_; refine Z.only [0, 1, 2, 8, 37, 38, 39] rfl ?_; refine V210 ?_; refine Z.cond rfl (fun hc7 => ?_) (fun hc7 => ?_)
  · (try simp at hc7)
    have hr2 : r < 2 := by omega
    have hrf := rfn_call r; have hidx : (#[Value.func (.func 100) #[] #[], Value.func (.func 101) #[] #[]] : Array Value)[r]? = some (.func (.func (rfn r)) #[] #[]) := by
      have : r = 0 ∨ r = 1 := by omega
      rcases this with rfl | rfl <;> rfl
    refine V272 ?_; refine Z.l rfl rfl (by rfl) (Z.keepS hs) (Z.Yd.idx1 rfl rfl underlying179 sizeOf178 isAgg178 (fun _ => ⟨by omega, by omega, by rw [Int.toNat_natCast]; exact hidx⟩)) ?_; refine V1 ?_; refine Z.only [0, 1, 2, 8, 10, 37, 38] rfl ?_; refine V858 ?_; refine V245 ?_; refine V8 ?_; refine V116 ?_; refine V248 ?_; refine V478 ?_; refine V861 ?_; refine Z.loopk (ι := Nat) [0, 2, 8, 10, 37, 38, 44, 45] rfl (fun x => [(1, [], .int .i64 (rnd r dem (rounds m size dem r) ((ordL m.l).take x)).sz), (46, [], .int .i64 (x : Int))]) (fun x wr => x ≤ m.l.length ∧ St w M wr [Ent.row (.slice (some ⟨g36, 0, none⟩) m.l.length m.l.length) 3 1 m.l.length (ints .i64 (rnd r dem (rounds m size dem r) ((ordL m.l).take x)).out), Ent.blk g 147 #[.slice (some ⟨gs, 0, none⟩) m.l.length cs, .slice (some ⟨gq, 0, none⟩) m.l.length cq, .int .i64 m.now], Ent.row (.slice (some ⟨gs, 0, none⟩) m.l.length cs) 149 6 m.l.length (({ m with b := (rnd r dem (rounds m size dem r) ((ordL m.l).take x)).b } : BkV).chs.flatMap chC), Ent.row (.slice (some ⟨gq, 0, none⟩) m.l.length cq) 3 1 m.l.length (ints .i64 (natI (ordL m.l)))]) (fun x => m.l.length - x) 0 J11 ⟨Nat.zero_le _, hs⟩ ?_; clear hs; rintro k w10 ⟨hk, hs⟩; refine V478 ?_; refine V121 ?_; refine Z.only [0, 1, 2, 8, 10, 37, 38, 44, 45, 46, 47] rfl ?_; refine V210 ?_; refine Z.cond rfl (fun hc10 => ?_) (fun hc10 => ?_)
    · (try simp at hc10)
      have hkl : k < (ordL m.l).length := by rw [ordL_len hm.set]; omega
      have hnl : (natI (ordL m.l)).length = m.l.length := by simp [natI, ordL_len hm.set]
      have hst := rnd_take (r := r) (dem := dem) (s := rounds m size dem r) hkl; have hso : (rnd r dem (rounds m size dem r) ((ordL m.l).take k)).ok m dem := (rounds_ok hm hok r).fold r fun i hi => ord_lt hm i (List.mem_of_mem_take hi)
      generalize hsd : rnd r dem (rounds m size dem r) ((ordL m.l).take k) = s at hs hst hso ⊢; have hel : elt (natI (ordL m.l)) (k : Int) = ((ordL m.l)[k] : Int) := natI_elt hkl; have hil : (ordL m.l)[k] < m.l.length := ord_lt hm _ (List.getElem_mem _); obtain ⟨i, hid⟩ : ∃ i, i = (ordL m.l)[k] := ⟨_, rfl⟩; rw [← hid] at hel hil hst; have h1 := hso.og i hil; have h5 := hok.2.2.elt (i := i) J5; have h6 := hso.sz; have hol := hso.ol; obtain ⟨a1, a2, a3, -⟩ := amt_bd hso r hil; have hcl : (ints .i64 (natI (ordL m.l)))[0 + (k : Int).toNat * 1]? = some (.int .i64 (i : Int)) := by rw [← hel]; exact Z.ints_at J5 J5
      refine V272 ?_; refine V325 ?_; refine V1 ?_; refine Z.only [0, 1, 2, 8, 10, 12, 37, 38, 44, 45, 46] rfl ?_; refine V210 ?_; refine Z.drawL [Ent.row (.slice (some ⟨g36, 0, none⟩) m.l.length m.l.length) 3 1 m.l.length (ints .i64 s.out), Ent.blk g 147 #[.slice (some ⟨gs, 0, none⟩) m.l.length cs, .slice (some ⟨gq, 0, none⟩) m.l.length cq, .int .i64 m.now]] (fun _ => true) mixed hs ?_; clear hs; intro wd12 hs; refine V87 ?_; refine Z.t 4 rfl rfl rfl (by rfl) J3 (Jk hs) J85 ?_; refine Z.tb [5] J3 rfl (Jk hs) rfl ?_; refine Z.t 6 rfl rfl rfl (by rfl) J3 (Jk hs) (Z.Yd.elem rfl rfl underlying145 sizeOf149 (fun hG => ⟨J2, J2⟩)) ?_; refine Z.tb [7, 8] J3 rfl (Jk hs) rfl ?_; refine Z.t 9 rfl rfl rfl (by rfl) J3 (Jk hs) (Z.Yd.elem rfl rfl underlying34 sizeOf3 (fun hG => ⟨J2, J2⟩)) ?_; refine Z.t 10 rfl rfl rfl (by rfl) J3 (Jk hs) (Z.Yd.load rfl isAgg3 (fun _ => Z.cellXi hdx J5 J5)) ?_; refine Z.tb [11, 12] J3 rfl (Jk hs) rfl ?_; refine Z.t 13 rfl rfl rfl (by rfl) J3 (Jk hs) (Z.Yd.elem rfl rfl underlying34 sizeOf3 (fun hG => ⟨J2, J2⟩)) ?_; refine Z.t 14 rfl rfl rfl (by rfl) J3 (Jk hs) (Z.Yd.load rfl isAgg3 (fun _ => Z.cellR J0 (Z.ints_at J5 J5))) ?_; refine V526 ?_; replace hs : St w M _ ([Ent.row _ _ _ _ _] ++ [Ent.row _ _ _ _ _, Ent.blk g _ _, Ent.row _ _ _ _ _]) := hs.sel [2, 0, 1, 3] J12; refine Z.tn 17 rfl rfl J3 rfl trivial ?_
      refine Z.ZO.call rfl rfl (by rfl) rfl rfl hrf J34 (bk_round r gs i cs m dem s _ hs.lend hm hso hok.2.2 J5 hil) ?_; rintro v12_17 w12_17 ⟨rfl, hz⟩; replace hs := hs.regain hz; replace hs := U6 hs; refine V317 ?_; refine Z.tb [18] J3 rfl (Jk hs) rfl ?_; refine V40 ?_; refine Z.only [0, 1, 2, 8, 10, 12, 13, 37, 38, 44, 45, 46] rfl ?_; refine V858 ?_; refine V11 ?_; refine V533 ?_; refine V859 ?_; refine V5 ?_; refine V21 ?_; refine V2 ?_; refine V112 ?_; clear hs; intro ws hs; replace hs := U1 hs; refine V857 ?_; refine Z.only [0, 1, 2, 8, 10, 13, 37, 38, 44, 45, 46] rfl ?_; refine V300 ?_; rw [Int.toNat_natCast, Nat.mul_one] at hs; have eo : (ints .i64 s.out).set i (.int .i64 (elt s.out (i : Int) + amt r dem s i)) = ints .i64 (dst r dem s i).out := by simp only [ints, dst, List.map_set]
      rw [eo] at hs; refine V18 ?_; refine V859 ?_; refine V395 ?_; refine V478 ?_; refine V332 ?_; refine V478 ?_; refine V6 ?_; refine Z.again (k + 1) (by refine ⟨?_, ?_, ?_, ?_, ?_, ?_, ?_, ?_, ?_, ?_, trivial⟩ <;> first | rfl | (rw [hst]; rfl)) ⟨by omega, by rw [hst]; exact hs.sel [1, 2, 0, 3] J12⟩ J5
    (try simp at hc10)
    refine V10 ?_; refine V332 ?_; refine Z.only [0, 1, 2, 8, 37, 38] rfl ?_; refine V6 ?_; have hkk : (ordL m.l).take k = ordL m.l := List.take_of_length_le J122; refine Z.again (r + 1) (by refine ⟨?_, ?_, ?_, ?_, ?_, ?_, trivial⟩ <;> first | rfl | (rw [hkk]; rfl)) ⟨by omega, ?_⟩ J5; rw [hkk] at hs; exact hs
  (try simp at hc7)
  refine V181 ?_; obtain rfl : r = 2 := by omega
  have hol2 := (rounds_ok hm hok 2).ol; refine V18 ?_; refine V31 ?_; refine V337 ?_; refine V162 ?_; exact ⟨_, rfl, _, by rw [eD], by rw [eD]; dsimp only; rw [hol2]; exact hs⟩

def BkR (w : World) (g : Nat) (m : BkV) : Prop := ∃ A c B d, Cel w g [.slice A m.l.length c, .slice B m.l.length d, .int .i64 m.now] ∧ Sl w A (m.chs.flatMap chC) ∧ Sl w B (ints .i64 (natI (ordL m.l)))
theorem BkR.st {w W : World} {L : List Ent} {g : Nat} {m : BkV} (h : BkR w g m) (hW : St w [] W L) : BkR W g m := by
  obtain ⟨A, c, B, d, h1, h2, h3⟩ := h; exact ⟨A, c, B, d, h1.st hW, h2.st hW, h3.st hW⟩
theorem bkE_form {w0 w : World} {M : List Nat} {L : List Ent} {g : Nat} {sv so : Value} {m : BkV} (hs : St w0 M w L) (h : ∀ e ∈ bkE g sv so m, e ∈ L) : ∃ A c B d, sv = .slice A m.l.length c ∧ so = .slice B m.l.length d ∧ Sl w A (m.chs.flatMap chC) ∧ Sl w B (ints .i64 (natI (ordL m.l))) := by
  have h2 := h _ (show _ ∈ bkE g sv so m from List.mem_cons_of_mem _ List.mem_cons_self); have h3 := h _ (show _ ∈ bkE g sv so m from List.mem_cons_of_mem _ (List.mem_cons_of_mem _ List.mem_cons_self)); obtain ⟨j2, hj2⟩ := List.mem_iff_getElem?.1 h2; obtain ⟨j3, hj3⟩ := List.mem_iff_getElem?.1 h3; obtain ⟨A, c, e1, -, -, r1⟩ := row_slv hs hj2; obtain ⟨B, d, e2, -, -, r2⟩ := row_slv hs hj3; exact ⟨A, c, B, d, e1, e2, r1, r2⟩
theorem SX.St.bkR {w0 w : World} {M : List Nat} {L : List Ent} {g : Nat} {sv so : Value} {m : BkV} (hs : St w0 M w L) (h : ∀ e ∈ bkE g sv so m, e ∈ L) : BkR w g m := by
  obtain ⟨A, c, B, d, rfl, rfl, r1, r2⟩ := bkE_form hs h; exact ⟨A, c, B, d, hs.celOf (T := 147) (cs := [_, _, _]) (h _ List.mem_cons_self), r1, r2⟩
def lvV (m : BkV) (id : Int) : Int × Bool := if 0 ≤ idxG (fun x : LgV => decide (x.id = id)) m.l then (elt m.b (idxG (fun x : LgV => decide (x.id = id)) m.l), true) else (0, false)
theorem lvV_some {m : BkV} {id : Int} {k : Nat} (h0 : ∀ x ∈ m.l.take k, decide (x.id = id) = false) (hk : k < m.l.length) (h1 : m.l[k]!.id = id) : lvV m id = (elt m.b (k : Int), true) := by
  unfold lvV; rw [idxG_some h0 hk (by rw [← getElem!_pos m.l k hk]; simpa using h1), if_pos J5]
theorem lvV_none {m : BkV} {id : Int} (h0 : ∀ x ∈ m.l, decide (x.id = id) = false) : lvV m id = (0, false) := by
  unfold lvV; rw [idxG_none h0, if_neg J5]
theorem take_none {m : BkV} {id : Int} {k : Nat} (h0 : ∀ x ∈ m.l.take k, decide (x.id = id) = false) (hk : k < m.l.length) (h1 : ¬ m.l[k]!.id = id) : ∀ x ∈ m.l.take (k + 1), decide (x.id = id) = false := by
  intro x hx; rw [List.take_add_one, List.getElem?_eq_getElem hk] at hx
  rcases List.mem_append.1 hx with hx | hx
  · exact h0 x hx
  obtain rfl : x = m.l[k] := by simpa using hx
  rw [getElem!_pos m.l k hk] at h1
  simpa using h1
theorem bk_level (g : Nat) (m : BkV) (id : Int) (w : World) (hr : BkR w g m) (hm : m.ok) : Calls Tryz.prog 64 #[.pointer (some ⟨g, 0, none⟩), .int .i64 id] w (Ret fun v w' => v = .tuple #[.int .i64 (lvV m id).1, .bool (lvV m id).2] ∧ St w [] w' []) := by
  obtain ⟨A, c, B, d, hc, hA, hB⟩ := hr; have hpos := hm.pos; have hs := St.start w; obtain ⟨bb, off, rfl, hb0, hx2⟩ := Z.Sl.some hA (by rw [flat_len ch_len, hm.chl]; omega); refine Z.enter func64 rfl ntmps64 rfl rfl ?_; refine V151 ?_; refine V378 ?_; refine V268 ?_; refine Z.ZO.call rfl rfl (by rfl) rfl rfl call88 rfl (bk_none g _ _ _ _ _ _ hc) ?_; rintro v1_1 w1_1 ⟨rfl, hy⟩; replace hs := U0 (hs.call hy); clear hy; refine V857 ?_; refine Z.only [0, 1, 9] rfl ?_; refine V6 ?_; refine Z.cond rfl (fun h => absurd h J111) (fun hc1 => ?_); refine V47 ?_; refine V125 ?_; refine V12 ?_; refine V329 ?_; refine V1 ?_; refine Z.only [1, 13, 14, 15] rfl ?_; refine V861 ?_; refine Z.loopk (ι := Nat) [1, 13, 14] rfl (fun k => [(15, [], .int .i64 (k : Int))]) (fun k wr => (k ≤ m.l.length ∧ ∀ x ∈ m.l.take k, decide (x.id = id) = false) ∧ St w [] wr []) (fun k => m.l.length - k) 0 J6 ⟨⟨by omega, by simp⟩, hs⟩ ?_; clear hs; rintro k w4 ⟨⟨hk, h0⟩, hs⟩; refine Z.only [1, 13, 14, 15] rfl ?_; refine V121 ?_; refine Z.only [1, 13, 14, 15, 16] rfl ?_; refine V210 ?_; refine Z.cond rfl (fun hc4 => ?_) (fun hc4 => ?_)
  · (try simp at hc4)
    have hlt : k < m.l.length := by omega
    have hg := hm.chg hlt; have hone := ch_one (m.l[k]!, elt m.b (k : Int)); refine V272 ?_; refine V580 ?_; refine Z.l rfl rfl (by rfl) (Z.keepS hs) (Z.Yd.loadA _ rfl isAgg149 (fun _ W hK j u hu => Z.cellXq (enc := chC) hx2.sx ch_len hg hu W hK) (by exact sizeOf149)) ?_; refine V2 ?_; refine V344 ?_; clear hs; intro g7 w7 hs; refine V860 ?_; clear hs; intro ws hs; replace hs := U1 hs; replace hs := U2 hs; refine V857 ?_; refine Z.only [1, 7, 13, 14, 15] rfl ?_; refine V858 ?_; refine V3 ?_; refine V48 ?_; refine V31 ?_; refine Z.only [1, 7, 13, 14, 15, 23] rfl ?_; refine V6 ?_; refine Z.cond rfl (fun hc6 => ?_) (fun hc6 => ?_)
    · (try simp at hc6)
      have hid : m.l[k]!.id = id := by simpa using hc6
      refine V0 ?_; refine V78 ?_; refine V9 ?_; refine V280 ?_
      repeat (first | refine Z.rthen ?_ | refine Z.rblock ?_ | refine Z.rscope ?_)
      refine V162 ?_; exact ⟨_, rfl, by rw [lvV_some h0 hlt hid], Jn hs⟩
    (try simp at hc6)
    have hid : ¬ m.l[k]!.id = id := by simpa using hc6
    refine V392 ?_; refine Z.only [1, 13, 14, 15] rfl ?_; refine V6 ?_; exact Z.again (k + 1) J10 ⟨⟨by omega, take_none h0 hlt hid⟩, Jn hs⟩ J5
  (try simp at hc4)
  refine V181 ?_; refine V280 ?_; refine V162 ?_; exact ⟨_, rfl, by rw [lvV_none (by rw [List.take_of_length_le J5] at h0; exact h0)], hs⟩
theorem bk_cloneI (A : Option Addr) (n c : Nat) (l : List Int) (w : World) (hx : Sl w A (ints .i64 l)) (hl : l.length = n) (hn : 1 ≤ n ∧ n ≤ 1000) :
    Calls Tryz.prog 114 #[.slice A n c] w (Ret fun v w' => St w [] w' [Ent.row v 3 1 n (ints .i64 l)]) := by
  have hs := St.start w; obtain ⟨bb, off, rfl, hb0, hx2⟩ := Z.Sl.some hx J70; refine Z.enter func114 rfl ntmps114 rfl rfl ?_; refine V336 ?_; refine V125 ?_; refine Z.l rfl rfl (by rfl) (Z.keepS hs) (Z.Yd.sliceNil rfl rfl underlying34) ?_; refine V857 ?_; refine V631 ?_; refine Z.cond rfl (fun h => absurd h J16) (fun hc1 => ?_); refine V862 ?_; refine V2 ?_; refine V528 ?_; clear hs; intro g5 w5 hs; refine V62 ?_; refine Z.ZO.appendG (i0 := Tryz.t3) (size := 1) (bytes := 8) rfl rfl (by rfl) hs underlying34 J3 rfl rfl rfl rfl J12 rfl rfl J1 (hx.st (Jn hs)) J23 J36 J17 J5 ?_; clear hs; intro v7 w7 hs; replace hs := U5 hs; refine V186 ?_; exact ⟨_, rfl, by simpa using hs⟩
theorem bk_cloneC (A : Option Addr) (n c : Nat) (l : List (LgV × Int)) (w : World) (hx : Sl w A (l.flatMap chC)) (hl : l.length = n) (hn : 1 ≤ n ∧ n ≤ 1000) :
    Calls Tryz.prog 113 #[.slice A n c] w (Ret fun v w' => St w [] w' [Ent.row v 149 6 n (l.flatMap chC)]) := by
  have hs := St.start w; have hfl : (l.flatMap chC).length = n * 6 := by rw [flat_len ch_len, hl]
  have hfo := flat_one ch_one l; obtain ⟨bb, off, rfl, hb0, hx2⟩ := Z.Sl.some hx J5; refine Z.enter func113 rfl ntmps113 rfl rfl ?_; refine V336 ?_; refine V125 ?_; refine Z.l rfl rfl (by rfl) (Z.keepS hs) (Z.Yd.sliceNil rfl rfl underlying145) ?_; refine V857 ?_; refine V631 ?_; refine Z.cond rfl (fun h => absurd h J16) (fun hc1 => ?_); refine V862 ?_; refine V2 ?_; refine Z.ZO.empty rfl rfl (by rfl) underlying145 sizeOf149 hs ?_; clear hs; intro g5 w5 hs; refine V62 ?_; refine Z.ZO.appendG (i0 := Tryz.t149) (size := 6) (bytes := 48) rfl rfl (by rfl) hs underlying145 J3 rfl rfl rfl rfl J12 rfl rfl J1 (hx.st (Jn hs)) J23 J36 J17 J5 ?_; clear hs; intro v7 w7 hs; replace hs := U5 hs; refine V186 ?_; exact ⟨_, rfl, by simpa using hs⟩
theorem bk_copy (g : Nat) (m : BkV) (w : World) (hr : BkR w g m) (hm : m.ok) : Calls Tryz.prog 57 #[.pointer (some ⟨g, 0, none⟩)] w (Ret fun v w' => ∃ g2 sv so, v = .pointer (some ⟨g2, 0, none⟩) ∧ St w [] w' (bkE g2 sv so m)) := by
  obtain ⟨A, c, B, d, hc, hA, hB⟩ := hr; have hpos := hm.pos; have hnl : (natI (ordL m.l)).length = m.l.length := by simp [natI, ordL_len hm.set]
  have hs := St.start w; refine Z.enter func57 rfl ntmps57 rfl rfl ?_; refine V336 ?_; refine V268 ?_; refine Z.ZO.call rfl rfl (by rfl) rfl rfl call88 rfl (bk_none g _ _ _ _ _ _ hc) ?_; rintro v1_1 w1_1 ⟨rfl, hy⟩; replace hs := U0 (hs.call hy); clear hy; refine V857 ?_; refine V631 ?_; refine Z.cond rfl (fun h => absurd h J111) (fun hc1 => ?_); refine V47 ?_; refine V343 ?_; clear hs; intro wd3 hs; refine V44 ?_; refine Z.t 3 rfl rfl rfl (by rfl) J3 (Jk hs) (Z.Yd.load rfl isAgg145 (fun _ => Z.cellO hc.1 J16 (hc.2 0 _ rfl))) ?_; refine Z.tb [5] J3 rfl (Jk hs) rfl ?_; refine Z.t 6 rfl rfl rfl (by rfl) J3 (Jk hs) (Z.Yd.nilc rfl rfl) ?_; refine Z.t 7 rfl rfl rfl (by rfl) J3 (Jk hs) (Z.Yd.fieldA (m := 1) rfl J3) ?_; refine Z.t 8 rfl rfl rfl (by rfl) J3 (Jk hs) (Z.Yd.load rfl isAgg34 (fun _ => Z.cellO hc.1 J16 (hc.2 1 _ rfl))) ?_; refine Z.tb [10] J3 rfl (Jk hs) rfl ?_; refine Z.t 11 rfl rfl rfl (by rfl) J3 (Jk hs) (Z.Yd.nilc rfl rfl) ?_; refine Z.t 12 rfl rfl rfl (by rfl) J3 (Jk hs) (Z.Yd.fieldA (m := 2) rfl J3) ?_; refine Z.t 13 rfl rfl rfl (by rfl) J3 (Jk hs) (Z.Yd.load rfl isAgg3 (fun _ => Z.cellO hc.1 J16 (hc.2 2 _ rfl))) ?_; refine V260 ?_; refine Z.ZO.call rfl rfl (by rfl) rfl rfl call113 rfl (bk_cloneC A _ c m.chs _ (hA.st (Jn hs)) hm.chl ⟨by omega, by omega⟩) ?_; rintro v3_4 w3_4 hy; replace hs := U0 (hs.call hy); clear hy; obtain ⟨Ac, cc, rfl, -, -, -⟩ := row_slv hs (j := 0) rfl; refine V69 ?_; refine V586 ?_
  refine Z.ZO.call rfl rfl (by rfl) rfl rfl call114 rfl (bk_cloneI B _ d (natI (ordL m.l)) _ (hB.st (Jn hs)) hnl ⟨by omega, by omega⟩) ?_; rintro v3_9 w3_9 hy; replace hs := U0 (hs.call hy); clear hy; obtain ⟨Ad, cd, rfl, -, -, -⟩ := row_slv hs (j := 0) rfl; refine V419 ?_; refine Z.t 14 rfl rfl rfl (by rfl) J3 (Jk hs) (Z.Yd.buildL [(0, 1), (1, 1), (2, 1)] [.slice none 0 0, .slice none 0 0, .int .i64 0] rfl rfl J18) ?_; refine Z.tn 15 rfl rfl J3 rfl trivial ?_; refine V15 ?_; clear hs; intro g20 w20 hs; refine Z.tk (Dn := fun _ => true) (i := 15) (fun _ => (Jk hs)) ?_; refine Z.tb [16] J3 rfl (Jk hs) rfl ?_; refine V40 ?_; refine V120 ?_; exact ⟨_, rfl, _, _, _, rfl, hs.sel [0, 2, 1] J12⟩

end Go.Proofs.YtbojkoiopkaciaaGreat
