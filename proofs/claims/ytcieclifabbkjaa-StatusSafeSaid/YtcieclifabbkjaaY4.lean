/- Part 4 of the proofs that lead to the statement. -/
import Derived.Test.YtcieclifabbkjaaY3
/- Status reports: an entry read. -/
namespace Go.Proofs.Ytcieclifabbkjaa
open Go.RowKit
set_option linter.unusedSimpArgs false
set_option linter.unusedVariables false
--newlaws

/-- the number in bits a .. of some bytes -/
def gv (l : List Int) (a w : Nat) : Int := (val (bitsAt l a w) : Int)
def gvs (l : List Int) : Nat → List Nat → List Int
  | _, [] => []
  | a, w :: ws => gv l a w :: gvs l (a + w) ws
def toI (ws : List Nat) : List Int := ws.map fun (w : Nat) => (w : Int)
theorem gs_ok {l : List Int} : ∀ (ws : List Nat) (a : Nat), (∀ w ∈ ws, w ≤ 64) → a + ws.sum ≤ 8 * l.length → gsE l a (toI ws) = 0 ∧ gsA l a (toI ws) = a + ws.sum ∧ gsV l a (toI ws) = gvs l a ws
  | [], a, _, _ => ⟨rfl, rfl, rfl⟩
  | w :: ws, a, h64, h => by
    simp only [List.sum_cons] at h
    have h1 : getE l a (w : Int) = 0 := getE_ok (by omega) (h64 w (by simp))
    have h2 : getA l a (w : Int) = a + w := by unfold getA; rw [if_pos h1]; rfl
    have h3 : getV l a (w : Int) = gv l a w := by unfold getV; rw [if_pos h1]; rfl
    obtain ⟨i1, i2, i3⟩ := gs_ok (l := l) ws (a + w) (fun v hv => h64 v (by simp [hv])) (by omega)
    refine ⟨?_, ?_, ?_⟩
    · show gsE l a ((w : Int) :: toI ws) = 0
      rw [gsE, if_pos h1, h2, i1]
    · show gsA l (getA l a (w : Int)) (toI ws) = _
      rw [h2, i2, List.sum_cons]; omega
    · show getV l a (w : Int) :: gsV l (getA l a (w : Int)) (toI ws) = _
      rw [h2, h3, i3]; rfl
theorem gs_bad {l : List Int} : ∀ (ws : List Nat) (a : Nat), (∀ w ∈ ws, w ≤ 64) → a ≤ 8 * l.length → ¬ a + ws.sum ≤ 8 * l.length → gsE l a (toI ws) = 5
  | [], a, _, h1, h => absurd h1 (by simpa using h)
  | w :: ws, a, h64, h1, h => by
    simp only [List.sum_cons] at h
    show gsE l a ((w : Int) :: toI ws) = 5
    rw [gsE]
    by_cases hw : a + w ≤ 8 * l.length
    · have e1 : getE l a (w : Int) = 0 := getE_ok hw (h64 w (by simp))
      have e2 : getA l a (w : Int) = a + w := by unfold getA; rw [if_pos e1]; rfl
      rw [if_pos e1, e2]
      exact gs_bad (l := l) ws (a + w) (fun v hv => h64 v (by simp [hv])) hw (by omega)
    · have h64w := h64 w (by simp)
      have e1 : getE l a (w : Int) = 5 := by unfold getE; rw [if_neg (by omega), if_pos (by omega)]
      rw [e1, if_neg (by decide)]
theorem gv_bd (l : List Int) (a w : Nat) : 0 ≤ gv l a w ∧ gv l a w < ((2 ^ w : Nat) : Int) := by
  refine ⟨Int.natCast_nonneg _, ?_⟩
  have h1 := val_lt (bitsAt l a w)
  have h2 : (bitsAt l a w).length ≤ w := by unfold bitsAt; simp; omega
  have h3 : 2 ^ (bitsAt l a w).length ≤ 2 ^ w := Nat.pow_le_pow_right (by decide) h2
  unfold gv
  exact_mod_cast Nat.lt_of_lt_of_le h1 h3
/-- the entry at bit a -/
def partAt (l : List Int) (a : Nat) : Bool := gv l (a + 11) 1 == 1
def moreAt (l : List Int) (a : Nat) : Bool := gv l (a + 10) 1 == 1
def nkAt (l : List Int) (a : Nat) : NkV := ⟨gv l a 10, partAt l a, if partAt l a = true then gv l (a + 12) 15 else 0, if partAt l a = true then gv l (a + 27) 15 else 0⟩
def nkE (l : List Int) (a : Nat) : Int := if a + 12 ≤ 8 * l.length then (if partAt l a = true then (if a + 42 ≤ 8 * l.length then 0 else 5) else 0) else 5
def nkA (l : List Int) (a : Nat) : Nat := a + nkSz (nkAt l a)

/-- the panic with error e -/
def perr (e : Int) : List PanicEntry := Z.pe (.iface 27 (.int .i64 e))
def PanE (e : Int) (Φ : World → Prop) : Ending → World → Prop := Z.Pan fun c w' => c = perr e ∧ Φ w'
theorem must_ok (b : Bool) (e : Int) (w : World) (hb : b = true) : Calls Try.prog 42 #[.bool b, .int .i64 e] w (SX.Ret fun v w' => v = .tuple #[] ∧ SX.St w [] w' []) := by
  have hs := SX.St.start w
  subst hb
  refine Z.enter Try.func42 rfl Try.ntmps42 rfl rfl ?_
  refine Z.seq ?_
  refine Z.region ?_
  refine Z.lb 2 rfl ?_
  refine Z.lnil ?_
  refine Z.only [1, 5] rfl ?_
  refine Z.nthen ?_
  refine Z.cond rfl (fun h => absurd h (by simp)) (fun hc0 => ?_)
  refine Z.skip ?_
  -- ret#0
  refine Z.out0n trivial ?_
  first | exact ⟨_, rfl, rfl, hs⟩ | exact ⟨_, rfl, rfl, hs.sub (List.nil_sublist _)⟩
theorem must_bad (b : Bool) (e : Int) (w : World) (hb : b = false) : Calls Try.prog 42 #[.bool b, .int .i64 e] w (PanE e fun w' => SX.St w [] w' []) := by
  have hs := SX.St.start w
  subst hb
  refine Z.enter Try.func42 rfl Try.ntmps42 rfl rfl ?_
  refine Z.seq ?_
  refine Z.region ?_
  refine Z.lb 2 rfl ?_
  refine Z.lnil ?_
  refine Z.only [1, 5] rfl ?_
  refine Z.nthen ?_
  refine Z.cond rfl (fun hc0 => ?_) (fun h => absurd h (by simp))
  refine Z.region ?_
  refine Z.lb 1 rfl ?_
  refine Z.l rfl rfl (by rfl) (Z.keepS hs) (Z.Yd.iface rfl (by intro w; go_simp; try rfl)) ?_
  refine Z.le rfl trivial ?_
  refine Z.ZO.panic rfl rfl ?_
  -- ret#0
  refine Z.outp ?_
  exact ⟨_, rfl, rfl, hs⟩
theorem gots_ok (x : Value) (w : World) : Calls Try.prog 40 #[x, .int .i64 0] w (SX.Ret fun v w' => v = x ∧ SX.St w [] w' []) := by
  have hs := SX.St.start w
  refine Z.enter Try.func40 rfl Try.ntmps40 rfl rfl ?_
  refine Z.seq ?_
  refine Z.region ?_
  refine Z.lb 1 rfl ?_
  refine Z.lnil ?_
  refine Z.only [0, 1] rfl ?_
  refine Z.nthen ?_
  refine Z.seq ?_
  refine Z.region ?_
  refine Z.lb 3 rfl ?_
  refine Z.le rfl trivial ?_
  refine Z.ZO.call rfl rfl (by rfl) rfl rfl Try.call42 rfl (must_ok _ 0 _ (by simp)) ?_
  rintro v1_3 w1_3 ⟨rfl, hy⟩
  replace hs := hs.call hy
  clear hy
  try simp only [List.cons_append, List.nil_append, List.append_nil] at hs
  refine Z.lnil ?_
  refine Z.only [0] rfl ?_
  refine Z.nthen ?_
  refine Z.seq ?_
  refine Z.region ?_
  refine Z.lb 2 rfl ?_
  refine Z.lnil ?_
  refine Z.only [4] rfl ?_
  refine Z.nthen ?_
  refine Z.ret ?_
  -- ret#0
  refine Z.out1 (by exact ⟨rfl, trivial⟩) ?_
  first | exact ⟨_, rfl, rfl, hs⟩ | exact ⟨_, rfl, rfl, hs.sub (List.nil_sublist _)⟩
theorem gots_bad (x : Value) (e : Int) (w : World) (he : e ≠ 0) : Calls Try.prog 40 #[x, .int .i64 e] w (PanE e fun w' => SX.St w [] w' []) := by
  have hs := SX.St.start w
  refine Z.enter Try.func40 rfl Try.ntmps40 rfl rfl ?_
  refine Z.seq ?_
  refine Z.region ?_
  refine Z.lb 1 rfl ?_
  refine Z.lnil ?_
  refine Z.only [0, 1] rfl ?_
  refine Z.nthen ?_
  refine Z.seq ?_
  refine Z.region ?_
  refine Z.lb 3 rfl ?_
  refine Z.le rfl trivial ?_
  refine Z.ZO.callP rfl rfl rfl Try.call42 rfl (must_bad _ e _ (by simpa using he)) ?_
  rintro c1_3 w1_3 ⟨rfl, hy⟩
  replace hs := hs.call hy
  clear hy
  try simp only [List.cons_append, List.nil_append, List.append_nil] at hs
  repeat (first | refine Z.pthen ?_ | refine Z.pblock ?_ | refine Z.pscope ?_)
  -- ret#0
  refine Z.outp ?_
  exact ⟨_, rfl, rfl, hs⟩
set_option maxRecDepth 100000 in
theorem entry_ok (g T : Nat) (sv : Value) (l : List Int) (a : Nat) (w : World) (hs : SX.St w (SX.idsOf (RdL g T sv l a)) w (RdL g T sv l a)) (hl : l.length ≤ 1000000) (hb : ∀ x ∈ l, 0 ≤ x ∧ x < 256) (h : nkE l a = 0) :
    Calls Try.prog 43 #[.agg #[.pointer (some ⟨g, 0, none⟩)]] w (SX.Ret fun v w' => v = .tuple #[.agg (nkAt l a).cells.toArray, .bool (moreAt l a)] ∧ SX.St w (SX.idsOf (RdL g T sv l a)) w' (RdL g T sv l (nkA l a))) := by
  generalize hM : SX.idsOf (RdL g T sv l a) = M at *
  have h12 : a + 12 ≤ 8 * l.length := by unfold nkE at h; split at h <;> omega
  have b0 := gv_bd l a 10
  have b1 := gv_bd l (a + 10) 1
  have b2 := gv_bd l (a + 11) 1
  have b3 := gv_bd l (a + 12) 15
  have b4 := gv_bd l (a + 27) 15
  simp only [Nat.reducePow] at b0 b1 b2 b3 b4
  obtain ⟨q1, q2, q3⟩ := gs_ok (l := l) [10, 1, 1] a (by simp) h12
  obtain ⟨v0, hv0⟩ : ∃ v, v = gv l a 10 := ⟨_, rfl⟩
  obtain ⟨v1, hv1⟩ : ∃ v, v = gv l (a + 10) 1 := ⟨_, rfl⟩
  obtain ⟨v2, hv2⟩ : ∃ v, v = gv l (a + 11) 1 := ⟨_, rfl⟩
  have q3' : gsV l a [10, 1, 1] = [v0, v1, v2] := by rw [hv0, hv1, hv2]; exact q3
  have q1' : gsE l a [10, 1, 1] = 0 := q1
  have q2' : gsA l a [10, 1, 1] = a + 12 := q2
  rw [← hv0] at b0
  rw [← hv1] at b1
  rw [← hv2] at b2
  by_cases hp : partAt l a = true
  · have h42 : a + 42 ≤ 8 * l.length := by unfold nkE at h; rw [if_pos h12, if_pos hp] at h; split at h <;> omega
    obtain ⟨p1, p2, p3⟩ := gs_ok (l := l) [15, 15] (a + 12) (by simp) (by simp; omega)
    obtain ⟨v3, hv3⟩ : ∃ v, v = gv l (a + 12) 15 := ⟨_, rfl⟩
    obtain ⟨v4, hv4⟩ : ∃ v, v = gv l (a + 27) 15 := ⟨_, rfl⟩
    have p3' : gsV l (a + 12) [15, 15] = [v3, v4] := by rw [hv3, hv4]; exact p3
    have p1' : gsE l (a + 12) [15, 15] = 0 := p1
    have p2' : gsA l (a + 12) [15, 15] = a + 42 := p2
    rw [← hv3] at b3
    rw [← hv4] at b4
    have hp2 : v2 = 1 := by rw [hv2]; unfold partAt at hp; simpa using hp
    have eN : (nkAt l a).cells = [.int .i64 v0, .bool true, .int .i64 v3, .int .i64 v4] := by unfold nkAt NkV.cells; simp only [hp, if_true]; rw [hv0, hv3, hv4]
    have eM : moreAt l a = (v1 == 1) := by rw [hv1]; rfl
    have eA : nkA l a = a + 42 := by unfold nkA nkSz nkAt; simp [hp]
    rw [eN, eM, eA]
    have t22 : (v2 == 1) = true := by rw [hp2]; rfl
    refine Z.enter Try.func43 rfl Try.ntmps43 rfl rfl ?_
    refine Z.seq ?_
    refine Z.region ?_
    refine Z.le rfl trivial ?_
    refine Z.ZO.box rfl rfl (by rfl) rfl rfl hs ?_
    clear hs; intro g1 w1 hs
    refine Z.le rfl trivial ?_
    refine Z.ZO.alloc rfl rfl (by rfl) Try.zeroValue45 rfl hs ?_
    clear hs; intro g2 w2 hs
    refine Z.lb 1 rfl ?_
    refine Z.lnil ?_
    refine Z.only [1, 2] rfl ?_
    refine Z.nthen ?_
    refine Z.seq ?_
    refine Z.region ?_
    refine Z.l rfl rfl (by rfl) (Z.keepS hs) (Z.Yd.fieldA (m := 0) rfl (by kernel_rfl)) ?_
    refine Z.l rfl rfl (by rfl) (Z.keepS hs) (by first | exact Z.Yd.load rfl Try.isAgg74 (fun _ => Z.cellB (by first | ((repeat (first | exact List.mem_cons_self | refine List.mem_cons_of_mem _ ?_ | refine List.mem_append_right _ ?_)); done) | fail) rfl) | exact Z.Yd.load rfl Try.isAgg74 (fun _ => Z.cellO (by assumption) (by simp) (by assumption)) | fail "load 1.1") ?_
    refine Z.le rfl trivial ?_
    refine Z.ZO.litL (T' := 3) [(0, 1), (1, 1), (2, 1)] [.int .i64 0, .int .i64 0, .int .i64 0] rfl rfl (by rfl) rfl rfl (by intro W; kernel_rfl) hs ?_
    clear hs; intro g8 w8 hs
    replace hs : SX.St w M _ (RdL g T sv l a ++ [_, _, _]) := hs.rot (L1 := [_, _, _])
    refine Z.le rfl trivial ?_
    refine Z.ZO.call rfl rfl (by rfl) rfl rfl Try.call41 rfl (rgetall_any g T sv l a _ _ _ [10, 1, 1] _ hs.lend (by have h0 := Z.blk_lentj hs (j := 0) rfl; exact h0) rfl (by decide) hl (by omega) hb) ?_
    rintro v1_3 w1_3 ⟨so, rfl, hz⟩
    replace hs := hs.regain hz
    rw [q1']
    rw [q1', if_pos rfl, if_pos rfl, if_pos rfl, q2', q3'] at hs
    simp only [RdL, List.cons_append, List.nil_append] at hs
    obtain ⟨gso, cso, rfl, -, -⟩ := row_form (j := 2) hs rfl (by omega)
    refine Z.lb 2 rfl ?_
    refine Z.le rfl trivial ?_
    refine Z.ZO.call rfl rfl (by rfl) rfl rfl Try.call40 rfl (gots_ok _ _) ?_
    rintro v1_6 w1_6 ⟨rfl, hy⟩
    replace hs := hs.call hy
    clear hy
    try simp only [List.cons_append, List.nil_append, List.append_nil] at hs
    refine Z.lb 1 rfl ?_
    refine Z.lnil ?_
    refine Z.only [1, 2, 4] rfl ?_
    refine Z.nthen ?_
    refine Z.seq ?_
    refine Z.drawL [SX.Ent.row (.slice (some ⟨gso, 0, none⟩) 3 cso) 62 1 3 (ints .u64 [v0, v1, v2])] (fun j => j != 9) mixed hs ?_
    clear hs; intro wd2 hs
    refine Z.tb [0] (by kernel_rfl) rfl ⟨_, hs, by first | (simp; done) | exact fun e he => List.mem_append_right _ he⟩ rfl ?_
    refine Z.t 1 rfl rfl rfl (by rfl) (by kernel_rfl) ⟨_, hs, by first | (simp; done) | exact fun e he => List.mem_append_right _ he⟩ (Z.Yd.elem rfl rfl Try.underlying78 Try.sizeOf62 (fun hG => ⟨(by first | omega | (have hG' := Z.gh rfl hG; simp at hG'; omega)), (by first | omega | (have hG' := Z.gh rfl hG; simp at hG'; omega))⟩)) ?_
    refine Z.t 2 rfl rfl rfl (by rfl) (by kernel_rfl) ⟨_, hs, by first | (simp; done) | exact fun e he => List.mem_append_right _ he⟩ (Z.Yd.load rfl Try.isAgg62 (fun _ => Z.cellR (by first | ((repeat (first | exact List.mem_cons_self | refine List.mem_cons_of_mem _ ?_ | refine List.mem_append_right _ ?_)); done) | fail) rfl)) ?_
    refine Z.t 3 rfl rfl rfl (by rfl) (by kernel_rfl) ⟨_, hs, by first | (simp; done) | exact fun e he => List.mem_append_right _ he⟩ (Z.Yd.convI rfl ⟨_, Try.underlying62⟩ Try.underlying3 (fun hG => Z.wi64 (by first | omega | (have hG' := Z.gh rfl hG; simp at hG'; omega)))) ?_
    refine Z.tb [4] (by kernel_rfl) rfl ⟨_, hs, by first | (simp; done) | exact fun e he => List.mem_append_right _ he⟩ rfl ?_
    refine Z.t 5 rfl rfl rfl (by rfl) (by kernel_rfl) ⟨_, hs, by first | (simp; done) | exact fun e he => List.mem_append_right _ he⟩ (Z.Yd.elem rfl rfl Try.underlying78 Try.sizeOf62 (fun hG => ⟨(by first | omega | (have hG' := Z.gh rfl hG; simp at hG'; omega)), (by first | omega | (have hG' := Z.gh rfl hG; simp at hG'; omega))⟩)) ?_
    refine Z.t 6 rfl rfl rfl (by rfl) (by kernel_rfl) ⟨_, hs, by first | (simp; done) | exact fun e he => List.mem_append_right _ he⟩ (Z.Yd.load rfl Try.isAgg62 (fun _ => Z.cellR (by first | ((repeat (first | exact List.mem_cons_self | refine List.mem_cons_of_mem _ ?_ | refine List.mem_append_right _ ?_)); done) | fail) rfl)) ?_
    refine Z.tb [7] (by kernel_rfl) rfl ⟨_, hs, by first | (simp; done) | exact fun e he => List.mem_append_right _ he⟩ rfl ?_
    refine Z.t 8 rfl rfl rfl (by rfl) (by kernel_rfl) ⟨_, hs, by first | (simp; done) | exact fun e he => List.mem_append_right _ he⟩ (Z.Yd.buildL [(0, 1), (1, 1), (2, 1), (3, 1)] [.int .i64 0, .bool false, .int .i64 0, .int .i64 0] rfl rfl (by intro w; kernel_rfl)) ?_
    refine Z.tn 9 rfl rfl (by kernel_rfl) rfl trivial ?_
    first | refine Z.ZO.storeA rfl rfl hs rfl rfl (by kernel_rfl) (by first | (simp [Value.oneCell']; done) | (refine Z.all_one ?_; assumption)) (by first | exact SX.at0 | exact SX.at1 | exact SX.at2 | exact SX.at3 | exact SX.at4 | exact SX.at5 | exact Z.at6 | exact Z.at7 | exact Z.at8 | exact Z.at9 | exact Z.at10 | exact Z.at11 | exact Z.at12) (by rfl) ?_ | refine Z.ZO.storeP rfl rfl hs rfl rfl (by kernel_rfl) (by first | (simp [Value.oneCell']; done) | (refine Z.all_one ?_; assumption)) (by first | exact SX.at0 | exact SX.at1 | exact SX.at2 | exact SX.at3 | exact SX.at4 | exact SX.at5 | exact Z.at6 | exact Z.at7 | exact Z.at8 | exact Z.at9 | exact Z.at10 | exact Z.at11 | exact Z.at12) (by first | decide | (simp; done) | (simp; omega)) ?_ | refine Z.ZO.storePR rfl rfl hs rfl rfl (by kernel_rfl) (by first | (simp [Value.oneCell']; done) | (refine Z.all_one ?_; assumption)) (by first | exact SX.at0 | exact SX.at1 | exact SX.at2 | exact SX.at3 | exact SX.at4 | exact SX.at5 | exact Z.at6 | exact Z.at7 | exact Z.at8 | exact Z.at9 | exact Z.at10 | exact Z.at11 | exact Z.at12) (by first | decide | (simp; done) | (simp; omega)) ?_
    clear hs; intro ws hs
    simp only [Nat.zero_add, Nat.add_zero, Nat.reduceAdd, Int.reduceToNat, Nat.reduceMul, List.set_cons_zero, List.set_cons_succ, List.setIfInBounds_toArray] at hs
    try simp only [Z.putL, Nat.zero_add] at hs
    refine Z.tk (Dn := fun j => j != 9) (i := 9) (fun h => absurd h (by decide)) ?_
    refine Z.td (by rfl) (by kernel_rfl) ?_
    refine Z.only [1, 2, 4] rfl ?_
    rw [t22] at hs
    refine Z.nthen ?_
    refine Z.seq ?_
    refine Z.seq ?_
    refine Z.region ?_
    refine Z.l rfl rfl (by rfl) (Z.keepS hs) (Z.Yd.fieldA (m := 1) rfl (by kernel_rfl)) ?_
    refine Z.l rfl rfl (by rfl) (Z.keepS hs) (by first | exact Z.Yd.load rfl Try.isAgg4 (fun _ => Z.cellB (by first | ((repeat (first | exact List.mem_cons_self | refine List.mem_cons_of_mem _ ?_ | refine List.mem_append_right _ ?_)); done) | fail) rfl) | exact Z.Yd.load rfl Try.isAgg4 (fun _ => Z.cellO (by assumption) (by simp) (by assumption)) | fail "load 3.1") ?_
    refine Z.lnil ?_
    refine Z.only [1, 2, 4, 23] rfl ?_
    refine Z.nthen ?_
    refine Z.cond rfl (fun hc3 => ?_) (fun h => absurd h (by simp))
    refine Z.seq ?_
    refine Z.region ?_
    refine Z.l rfl rfl (by rfl) (Z.keepS hs) (Z.Yd.fieldA (m := 0) rfl (by kernel_rfl)) ?_
    refine Z.l rfl rfl (by rfl) (Z.keepS hs) (by first | exact Z.Yd.load rfl Try.isAgg74 (fun _ => Z.cellB (by first | ((repeat (first | exact List.mem_cons_self | refine List.mem_cons_of_mem _ ?_ | refine List.mem_append_right _ ?_)); done) | fail) rfl) | exact Z.Yd.load rfl Try.isAgg74 (fun _ => Z.cellO (by assumption) (by simp) (by assumption)) | fail "load 4.1") ?_
    refine Z.le rfl trivial ?_
    refine Z.ZO.litL (T' := 3) [(0, 1), (1, 1)] [.int .i64 0, .int .i64 0] rfl rfl (by rfl) rfl rfl (by intro W; kernel_rfl) hs ?_
    clear hs; intro g26 w26 hs
    replace hs : SX.St w M _ (RdL g T sv l (a + 12) ++ [_, _, _, _, _]) := hs.sel [1, 2, 0, 3, 4, 5, 6] (by decide)
    refine Z.le rfl trivial ?_
    refine Z.ZO.call rfl rfl (by rfl) rfl rfl Try.call41 rfl (rgetall_any g T sv l (a + 12) _ _ _ [15, 15] _ hs.lend (by have h0 := Z.blk_lentj hs (j := 0) rfl; exact h0) rfl (by decide) hl (by omega) hb) ?_
    rintro v4_3 w4_3 ⟨so2, rfl, hz⟩
    replace hs := hs.regain hz
    rw [p1']
    rw [p1', if_pos rfl, if_pos rfl, if_pos rfl, p2', p3'] at hs
    simp only [RdL, List.cons_append, List.nil_append] at hs
    obtain ⟨gst, cst, rfl, -, -⟩ := row_form (j := 2) hs rfl (by omega)
    refine Z.lb 2 rfl ?_
    refine Z.le rfl trivial ?_
    refine Z.ZO.call rfl rfl (by rfl) rfl rfl Try.call40 rfl (gots_ok _ _) ?_
    rintro v4_6 w4_6 ⟨rfl, hy⟩
    replace hs := hs.call hy
    clear hy
    try simp only [List.cons_append, List.nil_append, List.append_nil] at hs
    refine Z.lb 1 rfl ?_
    refine Z.lnil ?_
    refine Z.only [2, 4, 5] rfl ?_
    refine Z.nthen ?_
    refine Z.drawL [SX.Ent.row (.slice (some ⟨gst, 0, none⟩) 2 cst) 62 1 2 (ints .u64 [v3, v4])] (fun j => j != 11) mixed hs ?_
    clear hs; intro wd5 hs
    refine Z.tb [0] (by kernel_rfl) rfl ⟨_, hs, by first | (simp; done) | exact fun e he => List.mem_append_right _ he⟩ rfl ?_
    refine Z.t 1 rfl rfl rfl (by rfl) (by kernel_rfl) ⟨_, hs, by first | (simp; done) | exact fun e he => List.mem_append_right _ he⟩ (Z.Yd.elem rfl rfl Try.underlying78 Try.sizeOf62 (fun hG => ⟨(by first | omega | (have hG' := Z.gh rfl hG; simp at hG'; omega)), (by first | omega | (have hG' := Z.gh rfl hG; simp at hG'; omega))⟩)) ?_
    refine Z.t 2 rfl rfl rfl (by rfl) (by kernel_rfl) ⟨_, hs, by first | (simp; done) | exact fun e he => List.mem_append_right _ he⟩ (Z.Yd.load rfl Try.isAgg62 (fun _ => Z.cellR (by first | ((repeat (first | exact List.mem_cons_self | refine List.mem_cons_of_mem _ ?_ | refine List.mem_append_right _ ?_)); done) | fail) rfl)) ?_
    refine Z.t 3 rfl rfl rfl (by rfl) (by kernel_rfl) ⟨_, hs, by first | (simp; done) | exact fun e he => List.mem_append_right _ he⟩ (Z.Yd.convI rfl ⟨_, Try.underlying62⟩ Try.underlying3 (fun hG => Z.wi64 (by first | omega | (have hG' := Z.gh rfl hG; simp at hG'; omega)))) ?_
    refine Z.tb [4] (by kernel_rfl) rfl ⟨_, hs, by first | (simp; done) | exact fun e he => List.mem_append_right _ he⟩ rfl ?_
    refine Z.t 5 rfl rfl rfl (by rfl) (by kernel_rfl) ⟨_, hs, by first | (simp; done) | exact fun e he => List.mem_append_right _ he⟩ (Z.Yd.elem rfl rfl Try.underlying78 Try.sizeOf62 (fun hG => ⟨(by first | omega | (have hG' := Z.gh rfl hG; simp at hG'; omega)), (by first | omega | (have hG' := Z.gh rfl hG; simp at hG'; omega))⟩)) ?_
    refine Z.t 6 rfl rfl rfl (by rfl) (by kernel_rfl) ⟨_, hs, by first | (simp; done) | exact fun e he => List.mem_append_right _ he⟩ (Z.Yd.load rfl Try.isAgg62 (fun _ => Z.cellR (by first | ((repeat (first | exact List.mem_cons_self | refine List.mem_cons_of_mem _ ?_ | refine List.mem_append_right _ ?_)); done) | fail) rfl)) ?_
    refine Z.t 7 rfl rfl rfl (by rfl) (by kernel_rfl) ⟨_, hs, by first | (simp; done) | exact fun e he => List.mem_append_right _ he⟩ (Z.Yd.convI rfl ⟨_, Try.underlying62⟩ Try.underlying3 (fun hG => Z.wi64 (by first | omega | (have hG' := Z.gh rfl hG; simp at hG'; omega)))) ?_
    refine Z.t 8 rfl rfl rfl (by rfl) (by kernel_rfl) ⟨_, hs, by first | (simp; done) | exact fun e he => List.mem_append_right _ he⟩ (Z.Yd.fieldA (m := 2) rfl (by kernel_rfl)) ?_
    refine Z.tn 9 rfl rfl (by kernel_rfl) rfl trivial ?_
    first | refine Z.ZO.store rfl rfl hs Try.sizeOf3 rfl rfl rfl (by first | exact SX.at0 | exact SX.at1 | exact SX.at2 | exact SX.at3 | exact SX.at4 | exact SX.at5 | exact Z.at6 | exact Z.at7 | exact Z.at8 | exact Z.at9 | exact Z.at10 | exact Z.at11 | exact Z.at12) (by first | (simp; done) | (simp; omega)) ?_ | refine Z.ZO.storeR rfl rfl hs Try.sizeOf3 rfl rfl rfl (by first | exact SX.at0 | exact SX.at1 | exact SX.at2 | exact SX.at3 | exact SX.at4 | exact SX.at5 | exact Z.at6 | exact Z.at7 | exact Z.at8 | exact Z.at9 | exact Z.at10 | exact Z.at11 | exact Z.at12) (by first | omega | (simp [ints_length]; done) | (simp [ints_length]; omega)) ?_
    clear hs; intro ws hs
    simp only [Nat.zero_add, Nat.add_zero, Nat.reduceAdd, Int.reduceToNat, Nat.reduceMul, List.set_cons_zero, List.set_cons_succ, List.setIfInBounds_toArray] at hs
    refine Z.tk (Dn := fun j => j != 11) (i := 9) (fun _ => ⟨_, hs, by first | (simp; done) | exact fun e he => List.mem_append_right _ he⟩) ?_
    refine Z.t 10 rfl rfl rfl (by rfl) (by kernel_rfl) ⟨_, hs, by first | (simp; done) | exact fun e he => List.mem_append_right _ he⟩ (Z.Yd.fieldA (m := 3) rfl (by kernel_rfl)) ?_
    refine Z.tn 11 rfl rfl (by kernel_rfl) rfl trivial ?_
    first | refine Z.ZO.store rfl rfl hs Try.sizeOf3 rfl rfl rfl (by first | exact SX.at0 | exact SX.at1 | exact SX.at2 | exact SX.at3 | exact SX.at4 | exact SX.at5 | exact Z.at6 | exact Z.at7 | exact Z.at8 | exact Z.at9 | exact Z.at10 | exact Z.at11 | exact Z.at12) (by first | (simp; done) | (simp; omega)) ?_ | refine Z.ZO.storeR rfl rfl hs Try.sizeOf3 rfl rfl rfl (by first | exact SX.at0 | exact SX.at1 | exact SX.at2 | exact SX.at3 | exact SX.at4 | exact SX.at5 | exact Z.at6 | exact Z.at7 | exact Z.at8 | exact Z.at9 | exact Z.at10 | exact Z.at11 | exact Z.at12) (by first | omega | (simp [ints_length]; done) | (simp [ints_length]; omega)) ?_
    clear hs; intro ws hs
    simp only [Nat.zero_add, Nat.add_zero, Nat.reduceAdd, Int.reduceToNat, Nat.reduceMul, List.set_cons_zero, List.set_cons_succ, List.setIfInBounds_toArray] at hs
    refine Z.tk (Dn := fun j => j != 11) (i := 11) (fun h => absurd h (by decide)) ?_
    refine Z.td (by rfl) (by kernel_rfl) ?_
    refine Z.only [2, 4] rfl ?_
    refine Z.nthen ?_
    refine Z.seq ?_
    refine Z.drawK (fun _ => true) mixed hs ?_
    clear hs; intro wd6 hs
    refine Z.t 0 rfl rfl rfl (by rfl) (by kernel_rfl) ⟨_, hs, by first | (simp; done) | exact fun e he => List.mem_append_right _ he⟩ (by first | exact Z.Yd.loadA _ rfl Try.isAgg45 (fun _ => Z.cellsB (by first | ((repeat (first | exact List.mem_cons_self | refine List.mem_cons_of_mem _ ?_ | refine List.mem_append_right _ ?_)); done) | fail)) (by exact Try.sizeOf45) | fail "load 6.0") ?_
    refine Z.tb [1] (by kernel_rfl) rfl ⟨_, hs, by first | (simp; done) | exact fun e he => List.mem_append_right _ he⟩ rfl ?_
    refine Z.t 2 rfl rfl rfl (by rfl) (by kernel_rfl) ⟨_, hs, by first | (simp; done) | exact fun e he => List.mem_append_right _ he⟩ (Z.Yd.elem rfl rfl Try.underlying78 Try.sizeOf62 (fun hG => ⟨(by first | omega | (have hG' := Z.gh rfl hG; simp at hG'; omega)), (by first | omega | (have hG' := Z.gh rfl hG; simp at hG'; omega))⟩)) ?_
    refine Z.t 3 rfl rfl rfl (by rfl) (by kernel_rfl) ⟨_, hs, by first | (simp; done) | exact fun e he => List.mem_append_right _ he⟩ (Z.Yd.load rfl Try.isAgg62 (fun _ => Z.cellR (by first | ((repeat (first | exact List.mem_cons_self | refine List.mem_cons_of_mem _ ?_ | refine List.mem_append_right _ ?_)); done) | fail) rfl)) ?_
    refine Z.tb [4] (by kernel_rfl) rfl ⟨_, hs, by first | (simp; done) | exact fun e he => List.mem_append_right _ he⟩ rfl ?_
    refine Z.tn 5 rfl rfl (by kernel_rfl) rfl trivial ?_
    first | refine Z.ZO.storeA rfl rfl hs rfl rfl (by kernel_rfl) (by first | (simp [Value.oneCell']; done) | (refine Z.all_one ?_; assumption)) (by first | exact SX.at0 | exact SX.at1 | exact SX.at2 | exact SX.at3 | exact SX.at4 | exact SX.at5 | exact Z.at6 | exact Z.at7 | exact Z.at8 | exact Z.at9 | exact Z.at10 | exact Z.at11 | exact Z.at12) (by rfl) ?_ | refine Z.ZO.storeP rfl rfl hs rfl rfl (by kernel_rfl) (by first | (simp [Value.oneCell']; done) | (refine Z.all_one ?_; assumption)) (by first | exact SX.at0 | exact SX.at1 | exact SX.at2 | exact SX.at3 | exact SX.at4 | exact SX.at5 | exact Z.at6 | exact Z.at7 | exact Z.at8 | exact Z.at9 | exact Z.at10 | exact Z.at11 | exact Z.at12) (by first | decide | (simp; done) | (simp; omega)) ?_ | refine Z.ZO.storePR rfl rfl hs rfl rfl (by kernel_rfl) (by first | (simp [Value.oneCell']; done) | (refine Z.all_one ?_; assumption)) (by first | exact SX.at0 | exact SX.at1 | exact SX.at2 | exact SX.at3 | exact SX.at4 | exact SX.at5 | exact Z.at6 | exact Z.at7 | exact Z.at8 | exact Z.at9 | exact Z.at10 | exact Z.at11 | exact Z.at12) (by first | decide | (simp; done) | (simp; omega)) ?_
    clear hs; intro ws hs
    simp only [Nat.zero_add, Nat.add_zero, Nat.reduceAdd, Int.reduceToNat, Nat.reduceMul, List.set_cons_zero, List.set_cons_succ, List.setIfInBounds_toArray] at hs
    try simp only [Z.putL, Nat.zero_add] at hs
    refine Z.tk (Dn := fun _ => true) (i := 5) (fun _ => ⟨_, hs, by first | (simp; done) | exact fun e he => List.mem_append_right _ he⟩) ?_
    refine Z.tb [6] (by kernel_rfl) rfl ⟨_, hs, by first | (simp; done) | exact fun e he => List.mem_append_right _ he⟩ rfl ?_
    refine Z.td (by rfl) (by kernel_rfl) ?_
    refine Z.only [2, 3] rfl ?_
    refine Z.nthen ?_
    refine Z.ret ?_
    -- ret#0
    refine Z.out2 (by exact ⟨⟨_, rfl, Z.rvcA hs Try.isAgg45 (by first | ((repeat (first | exact List.mem_cons_self | refine List.mem_cons_of_mem _ ?_ | refine List.mem_append_right _ ?_)); done) | fail) (by exact Try.sizeOf45)⟩, rfl, trivial⟩) ?_
    exact ⟨_, rfl, rfl, hs.sel [0, 1] (by decide)⟩
  · have hp2 : (v2 == 1) = false := by rw [hv2]; unfold partAt at hp; simpa using hp
    have hpf : partAt l a = false := by simpa using hp
    have eN : (nkAt l a).cells = [.int .i64 v0, .bool false, .int .i64 0, .int .i64 0] := by unfold nkAt NkV.cells; simp only [hpf]; rw [hv0]; rfl
    have eM : moreAt l a = (v1 == 1) := by rw [hv1]; rfl
    have eA : nkA l a = a + 12 := by unfold nkA nkSz nkAt; simp [hpf]
    rw [eN, eM, eA]
    refine Z.enter Try.func43 rfl Try.ntmps43 rfl rfl ?_
    refine Z.seq ?_
    refine Z.region ?_
    refine Z.le rfl trivial ?_
    refine Z.ZO.box rfl rfl (by rfl) rfl rfl hs ?_
    clear hs; intro g1 w1 hs
    refine Z.le rfl trivial ?_
    refine Z.ZO.alloc rfl rfl (by rfl) Try.zeroValue45 rfl hs ?_
    clear hs; intro g2 w2 hs
    refine Z.lb 1 rfl ?_
    refine Z.lnil ?_
    refine Z.only [1, 2] rfl ?_
    refine Z.nthen ?_
    refine Z.seq ?_
    refine Z.region ?_
    refine Z.l rfl rfl (by rfl) (Z.keepS hs) (Z.Yd.fieldA (m := 0) rfl (by kernel_rfl)) ?_
    refine Z.l rfl rfl (by rfl) (Z.keepS hs) (by first | exact Z.Yd.load rfl Try.isAgg74 (fun _ => Z.cellB (by first | ((repeat (first | exact List.mem_cons_self | refine List.mem_cons_of_mem _ ?_ | refine List.mem_append_right _ ?_)); done) | fail) rfl) | exact Z.Yd.load rfl Try.isAgg74 (fun _ => Z.cellO (by assumption) (by simp) (by assumption)) | fail "load 1.1") ?_
    refine Z.le rfl trivial ?_
    refine Z.ZO.litL (T' := 3) [(0, 1), (1, 1), (2, 1)] [.int .i64 0, .int .i64 0, .int .i64 0] rfl rfl (by rfl) rfl rfl (by intro W; kernel_rfl) hs ?_
    clear hs; intro g8 w8 hs
    replace hs : SX.St w M _ (RdL g T sv l a ++ [_, _, _]) := hs.rot (L1 := [_, _, _])
    refine Z.le rfl trivial ?_
    refine Z.ZO.call rfl rfl (by rfl) rfl rfl Try.call41 rfl (rgetall_any g T sv l a _ _ _ [10, 1, 1] _ hs.lend (by have h0 := Z.blk_lentj hs (j := 0) rfl; exact h0) rfl (by decide) hl (by omega) hb) ?_
    rintro v1_3 w1_3 ⟨so, rfl, hz⟩
    replace hs := hs.regain hz
    rw [q1']
    rw [q1', if_pos rfl, if_pos rfl, if_pos rfl, q2', q3'] at hs
    simp only [RdL, List.cons_append, List.nil_append] at hs
    obtain ⟨gso, cso, rfl, -, -⟩ := row_form (j := 2) hs rfl (by omega)
    refine Z.lb 2 rfl ?_
    refine Z.le rfl trivial ?_
    refine Z.ZO.call rfl rfl (by rfl) rfl rfl Try.call40 rfl (gots_ok _ _) ?_
    rintro v1_6 w1_6 ⟨rfl, hy⟩
    replace hs := hs.call hy
    clear hy
    try simp only [List.cons_append, List.nil_append, List.append_nil] at hs
    refine Z.lb 1 rfl ?_
    refine Z.lnil ?_
    refine Z.only [1, 2, 4] rfl ?_
    refine Z.nthen ?_
    refine Z.seq ?_
    refine Z.drawL [SX.Ent.row (.slice (some ⟨gso, 0, none⟩) 3 cso) 62 1 3 (ints .u64 [v0, v1, v2])] (fun j => j != 9) mixed hs ?_
    clear hs; intro wd2 hs
    refine Z.tb [0] (by kernel_rfl) rfl ⟨_, hs, by first | (simp; done) | exact fun e he => List.mem_append_right _ he⟩ rfl ?_
    refine Z.t 1 rfl rfl rfl (by rfl) (by kernel_rfl) ⟨_, hs, by first | (simp; done) | exact fun e he => List.mem_append_right _ he⟩ (Z.Yd.elem rfl rfl Try.underlying78 Try.sizeOf62 (fun hG => ⟨(by first | omega | (have hG' := Z.gh rfl hG; simp at hG'; omega)), (by first | omega | (have hG' := Z.gh rfl hG; simp at hG'; omega))⟩)) ?_
    refine Z.t 2 rfl rfl rfl (by rfl) (by kernel_rfl) ⟨_, hs, by first | (simp; done) | exact fun e he => List.mem_append_right _ he⟩ (Z.Yd.load rfl Try.isAgg62 (fun _ => Z.cellR (by first | ((repeat (first | exact List.mem_cons_self | refine List.mem_cons_of_mem _ ?_ | refine List.mem_append_right _ ?_)); done) | fail) rfl)) ?_
    refine Z.t 3 rfl rfl rfl (by rfl) (by kernel_rfl) ⟨_, hs, by first | (simp; done) | exact fun e he => List.mem_append_right _ he⟩ (Z.Yd.convI rfl ⟨_, Try.underlying62⟩ Try.underlying3 (fun hG => Z.wi64 (by first | omega | (have hG' := Z.gh rfl hG; simp at hG'; omega)))) ?_
    refine Z.tb [4] (by kernel_rfl) rfl ⟨_, hs, by first | (simp; done) | exact fun e he => List.mem_append_right _ he⟩ rfl ?_
    refine Z.t 5 rfl rfl rfl (by rfl) (by kernel_rfl) ⟨_, hs, by first | (simp; done) | exact fun e he => List.mem_append_right _ he⟩ (Z.Yd.elem rfl rfl Try.underlying78 Try.sizeOf62 (fun hG => ⟨(by first | omega | (have hG' := Z.gh rfl hG; simp at hG'; omega)), (by first | omega | (have hG' := Z.gh rfl hG; simp at hG'; omega))⟩)) ?_
    refine Z.t 6 rfl rfl rfl (by rfl) (by kernel_rfl) ⟨_, hs, by first | (simp; done) | exact fun e he => List.mem_append_right _ he⟩ (Z.Yd.load rfl Try.isAgg62 (fun _ => Z.cellR (by first | ((repeat (first | exact List.mem_cons_self | refine List.mem_cons_of_mem _ ?_ | refine List.mem_append_right _ ?_)); done) | fail) rfl)) ?_
    refine Z.tb [7] (by kernel_rfl) rfl ⟨_, hs, by first | (simp; done) | exact fun e he => List.mem_append_right _ he⟩ rfl ?_
    refine Z.t 8 rfl rfl rfl (by rfl) (by kernel_rfl) ⟨_, hs, by first | (simp; done) | exact fun e he => List.mem_append_right _ he⟩ (Z.Yd.buildL [(0, 1), (1, 1), (2, 1), (3, 1)] [.int .i64 0, .bool false, .int .i64 0, .int .i64 0] rfl rfl (by intro w; kernel_rfl)) ?_
    refine Z.tn 9 rfl rfl (by kernel_rfl) rfl trivial ?_
    first | refine Z.ZO.storeA rfl rfl hs rfl rfl (by kernel_rfl) (by first | (simp [Value.oneCell']; done) | (refine Z.all_one ?_; assumption)) (by first | exact SX.at0 | exact SX.at1 | exact SX.at2 | exact SX.at3 | exact SX.at4 | exact SX.at5 | exact Z.at6 | exact Z.at7 | exact Z.at8 | exact Z.at9 | exact Z.at10 | exact Z.at11 | exact Z.at12) (by rfl) ?_ | refine Z.ZO.storeP rfl rfl hs rfl rfl (by kernel_rfl) (by first | (simp [Value.oneCell']; done) | (refine Z.all_one ?_; assumption)) (by first | exact SX.at0 | exact SX.at1 | exact SX.at2 | exact SX.at3 | exact SX.at4 | exact SX.at5 | exact Z.at6 | exact Z.at7 | exact Z.at8 | exact Z.at9 | exact Z.at10 | exact Z.at11 | exact Z.at12) (by first | decide | (simp; done) | (simp; omega)) ?_ | refine Z.ZO.storePR rfl rfl hs rfl rfl (by kernel_rfl) (by first | (simp [Value.oneCell']; done) | (refine Z.all_one ?_; assumption)) (by first | exact SX.at0 | exact SX.at1 | exact SX.at2 | exact SX.at3 | exact SX.at4 | exact SX.at5 | exact Z.at6 | exact Z.at7 | exact Z.at8 | exact Z.at9 | exact Z.at10 | exact Z.at11 | exact Z.at12) (by first | decide | (simp; done) | (simp; omega)) ?_
    clear hs; intro ws hs
    simp only [Nat.zero_add, Nat.add_zero, Nat.reduceAdd, Int.reduceToNat, Nat.reduceMul, List.set_cons_zero, List.set_cons_succ, List.setIfInBounds_toArray] at hs
    try simp only [Z.putL, Nat.zero_add] at hs
    refine Z.tk (Dn := fun j => j != 9) (i := 9) (fun h => absurd h (by decide)) ?_
    refine Z.td (by rfl) (by kernel_rfl) ?_
    refine Z.only [1, 2, 4] rfl ?_
    rw [hp2] at hs
    refine Z.nthen ?_
    refine Z.seq ?_
    refine Z.seq ?_
    refine Z.region ?_
    refine Z.l rfl rfl (by rfl) (Z.keepS hs) (Z.Yd.fieldA (m := 1) rfl (by kernel_rfl)) ?_
    refine Z.l rfl rfl (by rfl) (Z.keepS hs) (by first | exact Z.Yd.load rfl Try.isAgg4 (fun _ => Z.cellB (by first | ((repeat (first | exact List.mem_cons_self | refine List.mem_cons_of_mem _ ?_ | refine List.mem_append_right _ ?_)); done) | fail) rfl) | exact Z.Yd.load rfl Try.isAgg4 (fun _ => Z.cellO (by assumption) (by simp) (by assumption)) | fail "load 3.1") ?_
    refine Z.lnil ?_
    refine Z.only [1, 2, 4, 23] rfl ?_
    refine Z.nthen ?_
    refine Z.cond rfl (fun h => absurd h (by simp)) (fun hc3 => ?_)
    refine Z.skip ?_
    refine Z.nthen ?_
    refine Z.seq ?_
    refine Z.drawK (fun _ => true) mixed hs ?_
    clear hs; intro wd6 hs
    refine Z.t 0 rfl rfl rfl (by rfl) (by kernel_rfl) ⟨_, hs, by first | (simp; done) | exact fun e he => List.mem_append_right _ he⟩ (by first | exact Z.Yd.loadA _ rfl Try.isAgg45 (fun _ => Z.cellsB (by first | ((repeat (first | exact List.mem_cons_self | refine List.mem_cons_of_mem _ ?_ | refine List.mem_append_right _ ?_)); done) | fail)) (by exact Try.sizeOf45) | fail "load 6.0") ?_
    refine Z.tb [1] (by kernel_rfl) rfl ⟨_, hs, by first | (simp; done) | exact fun e he => List.mem_append_right _ he⟩ rfl ?_
    refine Z.t 2 rfl rfl rfl (by rfl) (by kernel_rfl) ⟨_, hs, by first | (simp; done) | exact fun e he => List.mem_append_right _ he⟩ (Z.Yd.elem rfl rfl Try.underlying78 Try.sizeOf62 (fun hG => ⟨(by first | omega | (have hG' := Z.gh rfl hG; simp at hG'; omega)), (by first | omega | (have hG' := Z.gh rfl hG; simp at hG'; omega))⟩)) ?_
    refine Z.t 3 rfl rfl rfl (by rfl) (by kernel_rfl) ⟨_, hs, by first | (simp; done) | exact fun e he => List.mem_append_right _ he⟩ (Z.Yd.load rfl Try.isAgg62 (fun _ => Z.cellR (by first | ((repeat (first | exact List.mem_cons_self | refine List.mem_cons_of_mem _ ?_ | refine List.mem_append_right _ ?_)); done) | fail) rfl)) ?_
    refine Z.tb [4] (by kernel_rfl) rfl ⟨_, hs, by first | (simp; done) | exact fun e he => List.mem_append_right _ he⟩ rfl ?_
    refine Z.tn 5 rfl rfl (by kernel_rfl) rfl trivial ?_
    first | refine Z.ZO.storeA rfl rfl hs rfl rfl (by kernel_rfl) (by first | (simp [Value.oneCell']; done) | (refine Z.all_one ?_; assumption)) (by first | exact SX.at0 | exact SX.at1 | exact SX.at2 | exact SX.at3 | exact SX.at4 | exact SX.at5 | exact Z.at6 | exact Z.at7 | exact Z.at8 | exact Z.at9 | exact Z.at10 | exact Z.at11 | exact Z.at12) (by rfl) ?_ | refine Z.ZO.storeP rfl rfl hs rfl rfl (by kernel_rfl) (by first | (simp [Value.oneCell']; done) | (refine Z.all_one ?_; assumption)) (by first | exact SX.at0 | exact SX.at1 | exact SX.at2 | exact SX.at3 | exact SX.at4 | exact SX.at5 | exact Z.at6 | exact Z.at7 | exact Z.at8 | exact Z.at9 | exact Z.at10 | exact Z.at11 | exact Z.at12) (by first | decide | (simp; done) | (simp; omega)) ?_ | refine Z.ZO.storePR rfl rfl hs rfl rfl (by kernel_rfl) (by first | (simp [Value.oneCell']; done) | (refine Z.all_one ?_; assumption)) (by first | exact SX.at0 | exact SX.at1 | exact SX.at2 | exact SX.at3 | exact SX.at4 | exact SX.at5 | exact Z.at6 | exact Z.at7 | exact Z.at8 | exact Z.at9 | exact Z.at10 | exact Z.at11 | exact Z.at12) (by first | decide | (simp; done) | (simp; omega)) ?_
    clear hs; intro ws hs
    simp only [Nat.zero_add, Nat.add_zero, Nat.reduceAdd, Int.reduceToNat, Nat.reduceMul, List.set_cons_zero, List.set_cons_succ, List.setIfInBounds_toArray] at hs
    try simp only [Z.putL, Nat.zero_add] at hs
    refine Z.tk (Dn := fun _ => true) (i := 5) (fun _ => ⟨_, hs, by first | (simp; done) | exact fun e he => List.mem_append_right _ he⟩) ?_
    refine Z.tb [6] (by kernel_rfl) rfl ⟨_, hs, by first | (simp; done) | exact fun e he => List.mem_append_right _ he⟩ rfl ?_
    refine Z.td (by rfl) (by kernel_rfl) ?_
    refine Z.only [2, 3] rfl ?_
    refine Z.nthen ?_
    refine Z.ret ?_
    -- ret#0
    refine Z.out2 (by exact ⟨⟨_, rfl, Z.rvcA hs Try.isAgg45 (by first | ((repeat (first | exact List.mem_cons_self | refine List.mem_cons_of_mem _ ?_ | refine List.mem_append_right _ ?_)); done) | fail) (by exact Try.sizeOf45)⟩, rfl, trivial⟩) ?_
    exact ⟨_, rfl, rfl, hs.sel [0, 1] (by decide)⟩
end Go.Proofs.Ytcieclifabbkjaa

/- Status reports: an entry that is not there; what is decoded. -/
namespace Go.Proofs.Ytcieclifabbkjaa
open Go.RowKit
set_option linter.unusedSimpArgs false
set_option linter.unusedVariables false
--newlaws

set_option maxRecDepth 100000 in
theorem entry_bad (g T : Nat) (sv : Value) (l : List Int) (a : Nat) (w : World) (hs : SX.St w (SX.idsOf (RdL g T sv l a)) w (RdL g T sv l a)) (hl : l.length ≤ 1000000) (hb : ∀ x ∈ l, 0 ≤ x ∧ x < 256) (ha : a ≤ 8 * l.length) (h : nkE l a ≠ 0) :
    Calls Try.prog 43 #[.agg #[.pointer (some ⟨g, 0, none⟩)]] w (PanE 5 fun w' => ∃ a', SX.St w (SX.idsOf (RdL g T sv l a)) w' (RdL g T sv l a')) := by
  generalize hM : SX.idsOf (RdL g T sv l a) = M at *
  by_cases h12 : a + 12 ≤ 8 * l.length
  · have hp : partAt l a = true := by
      by_cases hp : partAt l a = true
      · exact hp
      · unfold nkE at h; rw [if_pos h12, if_neg hp] at h; simp at h
    have h42 : ¬ a + 42 ≤ 8 * l.length := by unfold nkE at h; rw [if_pos h12, if_pos hp] at h; intro h42; rw [if_pos h42] at h; simp at h
    have b0 := gv_bd l a 10
    have b1 := gv_bd l (a + 10) 1
    have b2 := gv_bd l (a + 11) 1
    simp only [Nat.reducePow] at b0 b1 b2
    obtain ⟨q1, q2, q3⟩ := gs_ok (l := l) [10, 1, 1] a (by simp) h12
    obtain ⟨v0, hv0⟩ : ∃ v, v = gv l a 10 := ⟨_, rfl⟩
    obtain ⟨v1, hv1⟩ : ∃ v, v = gv l (a + 10) 1 := ⟨_, rfl⟩
    obtain ⟨v2, hv2⟩ : ∃ v, v = gv l (a + 11) 1 := ⟨_, rfl⟩
    have q3' : gsV l a [10, 1, 1] = [v0, v1, v2] := by rw [hv0, hv1, hv2]; exact q3
    have q1' : gsE l a [10, 1, 1] = 0 := q1
    have q2' : gsA l a [10, 1, 1] = a + 12 := q2
    rw [← hv0] at b0
    rw [← hv1] at b1
    rw [← hv2] at b2
    have p1' : gsE l (a + 12) [15, 15] = 5 := gs_bad (l := l) [15, 15] (a + 12) (by simp) h12 (by simp; omega)
    have hp2 : v2 = 1 := by rw [hv2]; unfold partAt at hp; simpa using hp
    have t22 : (v2 == 1) = true := by rw [hp2]; rfl
    refine Z.enter Try.func43 rfl Try.ntmps43 rfl rfl ?_
    refine Z.seq ?_
    refine Z.region ?_
    refine Z.le rfl trivial ?_
    refine Z.ZO.box rfl rfl (by rfl) rfl rfl hs ?_
    clear hs; intro g1 w1 hs
    refine Z.le rfl trivial ?_
    refine Z.ZO.alloc rfl rfl (by rfl) Try.zeroValue45 rfl hs ?_
    clear hs; intro g2 w2 hs
    refine Z.lb 1 rfl ?_
    refine Z.lnil ?_
    refine Z.only [1, 2] rfl ?_
    refine Z.nthen ?_
    refine Z.seq ?_
    refine Z.region ?_
    refine Z.l rfl rfl (by rfl) (Z.keepS hs) (Z.Yd.fieldA (m := 0) rfl (by kernel_rfl)) ?_
    refine Z.l rfl rfl (by rfl) (Z.keepS hs) (by first | exact Z.Yd.load rfl Try.isAgg74 (fun _ => Z.cellB (by first | ((repeat (first | exact List.mem_cons_self | refine List.mem_cons_of_mem _ ?_ | refine List.mem_append_right _ ?_)); done) | fail) rfl) | exact Z.Yd.load rfl Try.isAgg74 (fun _ => Z.cellO (by assumption) (by simp) (by assumption)) | fail "load 1.1") ?_
    refine Z.le rfl trivial ?_
    refine Z.ZO.litL (T' := 3) [(0, 1), (1, 1), (2, 1)] [.int .i64 0, .int .i64 0, .int .i64 0] rfl rfl (by rfl) rfl rfl (by intro W; kernel_rfl) hs ?_
    clear hs; intro g8 w8 hs
    replace hs : SX.St w M _ (RdL g T sv l a ++ [_, _, _]) := hs.rot (L1 := [_, _, _])
    refine Z.le rfl trivial ?_
    refine Z.ZO.call rfl rfl (by rfl) rfl rfl Try.call41 rfl (rgetall_any g T sv l a _ _ _ [10, 1, 1] _ hs.lend (by have h0 := Z.blk_lentj hs (j := 0) rfl; exact h0) rfl (by decide) hl (by omega) hb) ?_
    rintro v1_3 w1_3 ⟨so, rfl, hz⟩
    replace hs := hs.regain hz
    rw [q1']
    rw [q1', if_pos rfl, if_pos rfl, if_pos rfl, q2', q3'] at hs
    simp only [RdL, List.cons_append, List.nil_append] at hs
    obtain ⟨gso, cso, rfl, -, -⟩ := row_form (j := 2) hs rfl (by omega)
    refine Z.lb 2 rfl ?_
    refine Z.le rfl trivial ?_
    refine Z.ZO.call rfl rfl (by rfl) rfl rfl Try.call40 rfl (gots_ok _ _) ?_
    rintro v1_6 w1_6 ⟨rfl, hy⟩
    replace hs := hs.call hy
    clear hy
    try simp only [List.cons_append, List.nil_append, List.append_nil] at hs
    refine Z.lb 1 rfl ?_
    refine Z.lnil ?_
    refine Z.only [1, 2, 4] rfl ?_
    refine Z.nthen ?_
    refine Z.seq ?_
    refine Z.drawL [SX.Ent.row (.slice (some ⟨gso, 0, none⟩) 3 cso) 62 1 3 (ints .u64 [v0, v1, v2])] (fun j => j != 9) mixed hs ?_
    clear hs; intro wd2 hs
    refine Z.tb [0] (by kernel_rfl) rfl ⟨_, hs, by first | (simp; done) | exact fun e he => List.mem_append_right _ he⟩ rfl ?_
    refine Z.t 1 rfl rfl rfl (by rfl) (by kernel_rfl) ⟨_, hs, by first | (simp; done) | exact fun e he => List.mem_append_right _ he⟩ (Z.Yd.elem rfl rfl Try.underlying78 Try.sizeOf62 (fun hG => ⟨(by first | omega | (have hG' := Z.gh rfl hG; simp at hG'; omega)), (by first | omega | (have hG' := Z.gh rfl hG; simp at hG'; omega))⟩)) ?_
    refine Z.t 2 rfl rfl rfl (by rfl) (by kernel_rfl) ⟨_, hs, by first | (simp; done) | exact fun e he => List.mem_append_right _ he⟩ (Z.Yd.load rfl Try.isAgg62 (fun _ => Z.cellR (by first | ((repeat (first | exact List.mem_cons_self | refine List.mem_cons_of_mem _ ?_ | refine List.mem_append_right _ ?_)); done) | fail) rfl)) ?_
    refine Z.t 3 rfl rfl rfl (by rfl) (by kernel_rfl) ⟨_, hs, by first | (simp; done) | exact fun e he => List.mem_append_right _ he⟩ (Z.Yd.convI rfl ⟨_, Try.underlying62⟩ Try.underlying3 (fun hG => Z.wi64 (by first | omega | (have hG' := Z.gh rfl hG; simp at hG'; omega)))) ?_
    refine Z.tb [4] (by kernel_rfl) rfl ⟨_, hs, by first | (simp; done) | exact fun e he => List.mem_append_right _ he⟩ rfl ?_
    refine Z.t 5 rfl rfl rfl (by rfl) (by kernel_rfl) ⟨_, hs, by first | (simp; done) | exact fun e he => List.mem_append_right _ he⟩ (Z.Yd.elem rfl rfl Try.underlying78 Try.sizeOf62 (fun hG => ⟨(by first | omega | (have hG' := Z.gh rfl hG; simp at hG'; omega)), (by first | omega | (have hG' := Z.gh rfl hG; simp at hG'; omega))⟩)) ?_
    refine Z.t 6 rfl rfl rfl (by rfl) (by kernel_rfl) ⟨_, hs, by first | (simp; done) | exact fun e he => List.mem_append_right _ he⟩ (Z.Yd.load rfl Try.isAgg62 (fun _ => Z.cellR (by first | ((repeat (first | exact List.mem_cons_self | refine List.mem_cons_of_mem _ ?_ | refine List.mem_append_right _ ?_)); done) | fail) rfl)) ?_
    refine Z.tb [7] (by kernel_rfl) rfl ⟨_, hs, by first | (simp; done) | exact fun e he => List.mem_append_right _ he⟩ rfl ?_
    refine Z.t 8 rfl rfl rfl (by rfl) (by kernel_rfl) ⟨_, hs, by first | (simp; done) | exact fun e he => List.mem_append_right _ he⟩ (Z.Yd.buildL [(0, 1), (1, 1), (2, 1), (3, 1)] [.int .i64 0, .bool false, .int .i64 0, .int .i64 0] rfl rfl (by intro w; kernel_rfl)) ?_
    refine Z.tn 9 rfl rfl (by kernel_rfl) rfl trivial ?_
    first | refine Z.ZO.storeA rfl rfl hs rfl rfl (by kernel_rfl) (by first | (simp [Value.oneCell']; done) | (refine Z.all_one ?_; assumption)) (by first | exact SX.at0 | exact SX.at1 | exact SX.at2 | exact SX.at3 | exact SX.at4 | exact SX.at5 | exact Z.at6 | exact Z.at7 | exact Z.at8 | exact Z.at9 | exact Z.at10 | exact Z.at11 | exact Z.at12) (by rfl) ?_ | refine Z.ZO.storeP rfl rfl hs rfl rfl (by kernel_rfl) (by first | (simp [Value.oneCell']; done) | (refine Z.all_one ?_; assumption)) (by first | exact SX.at0 | exact SX.at1 | exact SX.at2 | exact SX.at3 | exact SX.at4 | exact SX.at5 | exact Z.at6 | exact Z.at7 | exact Z.at8 | exact Z.at9 | exact Z.at10 | exact Z.at11 | exact Z.at12) (by first | decide | (simp; done) | (simp; omega)) ?_ | refine Z.ZO.storePR rfl rfl hs rfl rfl (by kernel_rfl) (by first | (simp [Value.oneCell']; done) | (refine Z.all_one ?_; assumption)) (by first | exact SX.at0 | exact SX.at1 | exact SX.at2 | exact SX.at3 | exact SX.at4 | exact SX.at5 | exact Z.at6 | exact Z.at7 | exact Z.at8 | exact Z.at9 | exact Z.at10 | exact Z.at11 | exact Z.at12) (by first | decide | (simp; done) | (simp; omega)) ?_
    clear hs; intro ws hs
    simp only [Nat.zero_add, Nat.add_zero, Nat.reduceAdd, Int.reduceToNat, Nat.reduceMul, List.set_cons_zero, List.set_cons_succ, List.setIfInBounds_toArray] at hs
    try simp only [Z.putL, Nat.zero_add] at hs
    refine Z.tk (Dn := fun j => j != 9) (i := 9) (fun h => absurd h (by decide)) ?_
    refine Z.td (by rfl) (by kernel_rfl) ?_
    refine Z.only [1, 2, 4] rfl ?_
    rw [t22] at hs
    refine Z.nthen ?_
    refine Z.seq ?_
    refine Z.seq ?_
    refine Z.region ?_
    refine Z.l rfl rfl (by rfl) (Z.keepS hs) (Z.Yd.fieldA (m := 1) rfl (by kernel_rfl)) ?_
    refine Z.l rfl rfl (by rfl) (Z.keepS hs) (by first | exact Z.Yd.load rfl Try.isAgg4 (fun _ => Z.cellB (by first | ((repeat (first | exact List.mem_cons_self | refine List.mem_cons_of_mem _ ?_ | refine List.mem_append_right _ ?_)); done) | fail) rfl) | exact Z.Yd.load rfl Try.isAgg4 (fun _ => Z.cellO (by assumption) (by simp) (by assumption)) | fail "load 3.1") ?_
    refine Z.lnil ?_
    refine Z.only [1, 2, 4, 23] rfl ?_
    refine Z.nthen ?_
    refine Z.cond rfl (fun hc3 => ?_) (fun h => absurd h (by simp))
    refine Z.seq ?_
    refine Z.region ?_
    refine Z.l rfl rfl (by rfl) (Z.keepS hs) (Z.Yd.fieldA (m := 0) rfl (by kernel_rfl)) ?_
    refine Z.l rfl rfl (by rfl) (Z.keepS hs) (by first | exact Z.Yd.load rfl Try.isAgg74 (fun _ => Z.cellB (by first | ((repeat (first | exact List.mem_cons_self | refine List.mem_cons_of_mem _ ?_ | refine List.mem_append_right _ ?_)); done) | fail) rfl) | exact Z.Yd.load rfl Try.isAgg74 (fun _ => Z.cellO (by assumption) (by simp) (by assumption)) | fail "load 4.1") ?_
    refine Z.le rfl trivial ?_
    refine Z.ZO.litL (T' := 3) [(0, 1), (1, 1)] [.int .i64 0, .int .i64 0] rfl rfl (by rfl) rfl rfl (by intro W; kernel_rfl) hs ?_
    clear hs; intro g26 w26 hs
    replace hs : SX.St w M _ (RdL g T sv l (a + 12) ++ [_, _, _, _, _]) := hs.sel [1, 2, 0, 3, 4, 5, 6] (by decide)
    refine Z.le rfl trivial ?_
    refine Z.ZO.call rfl rfl (by rfl) rfl rfl Try.call41 rfl (rgetall_any g T sv l (a + 12) _ _ _ [15, 15] _ hs.lend (by have h0 := Z.blk_lentj hs (j := 0) rfl; exact h0) rfl (by decide) hl (by omega) hb) ?_
    rintro v4_3 w4_3 ⟨so2, rfl, hz⟩
    replace hs := hs.regain hz
    rw [p1']
    rw [p1', if_neg (by decide), if_neg (by decide), if_neg (by decide)] at hs
    simp only [RdL, List.cons_append, List.nil_append] at hs
    refine Z.lb 2 rfl ?_
    refine Z.le rfl trivial ?_
    refine Z.ZO.callP rfl rfl rfl Try.call40 rfl (gots_bad _ 5 _ (by decide)) ?_
    rintro c4_6 w4_6 ⟨rfl, hy⟩
    replace hs := hs.call hy
    clear hy
    try simp only [List.cons_append, List.nil_append, List.append_nil] at hs
    repeat (first | refine Z.pthen ?_ | refine Z.pblock ?_ | refine Z.pscope ?_)
    -- ret#0
    refine Z.outp ?_
    exact ⟨_, rfl, rfl, a + 12, hs.sel [0, 1] (by decide)⟩
  · have q1' : gsE l a [10, 1, 1] = 5 := gs_bad (l := l) [10, 1, 1] a (by simp) ha (by simp; omega)
    refine Z.enter Try.func43 rfl Try.ntmps43 rfl rfl ?_
    refine Z.seq ?_
    refine Z.region ?_
    refine Z.le rfl trivial ?_
    refine Z.ZO.box rfl rfl (by rfl) rfl rfl hs ?_
    clear hs; intro g1 w1 hs
    refine Z.le rfl trivial ?_
    refine Z.ZO.alloc rfl rfl (by rfl) Try.zeroValue45 rfl hs ?_
    clear hs; intro g2 w2 hs
    refine Z.lb 1 rfl ?_
    refine Z.lnil ?_
    refine Z.only [1, 2] rfl ?_
    refine Z.nthen ?_
    refine Z.seq ?_
    refine Z.region ?_
    refine Z.l rfl rfl (by rfl) (Z.keepS hs) (Z.Yd.fieldA (m := 0) rfl (by kernel_rfl)) ?_
    refine Z.l rfl rfl (by rfl) (Z.keepS hs) (by first | exact Z.Yd.load rfl Try.isAgg74 (fun _ => Z.cellB (by first | ((repeat (first | exact List.mem_cons_self | refine List.mem_cons_of_mem _ ?_ | refine List.mem_append_right _ ?_)); done) | fail) rfl) | exact Z.Yd.load rfl Try.isAgg74 (fun _ => Z.cellO (by assumption) (by simp) (by assumption)) | fail "load 1.1") ?_
    refine Z.le rfl trivial ?_
    refine Z.ZO.litL (T' := 3) [(0, 1), (1, 1), (2, 1)] [.int .i64 0, .int .i64 0, .int .i64 0] rfl rfl (by rfl) rfl rfl (by intro W; kernel_rfl) hs ?_
    clear hs; intro g8 w8 hs
    replace hs : SX.St w M _ (RdL g T sv l a ++ [_, _, _]) := hs.rot (L1 := [_, _, _])
    refine Z.le rfl trivial ?_
    refine Z.ZO.call rfl rfl (by rfl) rfl rfl Try.call41 rfl (rgetall_any g T sv l a _ _ _ [10, 1, 1] _ hs.lend (by have h0 := Z.blk_lentj hs (j := 0) rfl; exact h0) rfl (by decide) hl (by omega) hb) ?_
    rintro v1_3 w1_3 ⟨so, rfl, hz⟩
    replace hs := hs.regain hz
    rw [q1']
    rw [q1', if_neg (by decide), if_neg (by decide), if_neg (by decide)] at hs
    simp only [RdL, List.cons_append, List.nil_append] at hs
    refine Z.lb 2 rfl ?_
    refine Z.le rfl trivial ?_
    refine Z.ZO.callP rfl rfl rfl Try.call40 rfl (gots_bad _ 5 _ (by decide)) ?_
    rintro c1_6 w1_6 ⟨rfl, hy⟩
    replace hs := hs.call hy
    clear hy
    try simp only [List.cons_append, List.nil_append, List.append_nil] at hs
    repeat (first | refine Z.pthen ?_ | refine Z.pblock ?_ | refine Z.pscope ?_)
    -- ret#0
    refine Z.outp ?_
    exact ⟨_, rfl, rfl, a, hs.sel [0, 1] (by decide)⟩
/-- what the entries from bit a on give, behind some others -/
def okNext (ack : Int) (acc : List NkV) (n : NkV) : Bool := decide (acc.length < 512) && (decide (alone ack n) && (if acc.length = 0 then true else match acc[acc.length - 1]? with
  | some p => decide (follows ack p n)
  | none => false))
def decGo (l : List Int) (ack : Int) : Nat → Nat → List NkV → Bool → Int × List NkV
  | 0, _, _, _ => (0, [])
  | f + 1, a, acc, more =>
    if more = false then (if endE l a = 0 then (0, acc) else (9, []))
    else if nkE l a ≠ 0 then (5, [])
    else if okNext ack acc (nkAt l a) = true then decGo l ack f (nkA l a) (acc ++ [nkAt l a]) (moreAt l a)
    else (9, [])
def decE (l : List Int) : Int := if 15 ≤ 8 * l.length then (if gv l 0 4 = 0 then (decGo l (gv l 4 10) (8 * l.length + 1) 15 [] (gv l 14 1 == 1)).1 else 9) else 5
def decA (l : List Int) : Int := if decE l = 0 then gv l 4 10 else 0
def decL (l : List Int) : List NkV := if decE l = 0 then (decGo l (gv l 4 10) (8 * l.length + 1) 15 [] (gv l 14 1 == 1)).2 else []
theorem nkA_ok {l : List Int} {a : Nat} (h : nkE l a = 0) : a + 12 ≤ nkA l a ∧ nkA l a ≤ 8 * l.length := by
  unfold nkE at h
  unfold nkA nkSz nkAt
  dsimp only
  split at h
  · split at h
    · rename_i hp
      split at h
      · rw [if_pos hp]; omega
      · simp at h
    · rename_i hp
      rw [if_neg hp]; omega
  · simp at h
end Go.Proofs.Ytcieclifabbkjaa

/- Status reports decoded. -/
namespace Go.Proofs.Ytcieclifabbkjaa
open Go.RowKit
set_option linter.unusedSimpArgs false
set_option linter.unusedVariables false
--newlaws

theorem entry_any (g T : Nat) (sv : Value) (l : List Int) (a : Nat) (w : World) (hs : SX.St w (SX.idsOf (RdL g T sv l a)) w (RdL g T sv l a)) (hl : l.length ≤ 1000000) (hb : ∀ x ∈ l, 0 ≤ x ∧ x < 256) (ha : a ≤ 8 * l.length) :
    Calls Try.prog 43 #[.agg #[.pointer (some ⟨g, 0, none⟩)]] w (Z.Bo (fun v w' => nkE l a = 0 ∧ v = .tuple #[.agg (nkAt l a).cells.toArray, .bool (moreAt l a)] ∧ SX.St w (SX.idsOf (RdL g T sv l a)) w' (RdL g T sv l (nkA l a))) fun c w' => nkE l a ≠ 0 ∧ c = perr 5 ∧ ∃ a', SX.St w (SX.idsOf (RdL g T sv l a)) w' (RdL g T sv l a')) := by
  by_cases h : nkE l a = 0
  · exact Z.Bo.ret ((entry_ok g T sv l a w hs hl hb h).mono fun e w' ⟨v, h1, h2⟩ => ⟨v, h1, h, h2⟩)
  · exact Z.Bo.pan ((entry_bad g T sv l a w hs hl hb ha h).mono fun e w' ⟨v, h1, h2⟩ => ⟨v, h1, h, h2⟩)
theorem must_any (b : Bool) (e : Int) (w : World) : Calls Try.prog 42 #[.bool b, .int .i64 e] w (Z.Bo (fun v w' => b = true ∧ v = .tuple #[] ∧ SX.St w [] w' []) fun c w' => b = false ∧ c = perr e ∧ SX.St w [] w' []) := by
  cases b with
  | true => exact Z.Bo.ret ((must_ok true e w rfl).mono fun e w' ⟨v, h1, h2⟩ => ⟨v, h1, rfl, h2⟩)
  | false => exact Z.Bo.pan ((must_bad false e w rfl).mono fun e w' ⟨v, h1, h2⟩ => ⟨v, h1, rfl, h2⟩)
theorem dec1_pan (gs ge Ts Te : Nat) (x a b : Value) (e : Int) (w : World) (hs : SX.St w (SX.idsOf [SX.Ent.blk ge Te #[x], SX.Ent.blk gs Ts #[a, b]]) w [SX.Ent.blk ge Te #[x], SX.Ent.blk gs Ts #[a, b]]) :
    CallsDm Try.prog 38 #[.pointer (some ⟨gs, 0, none⟩), .pointer (some ⟨ge, 0, none⟩)] (.panicking (perr e)) (.panicking [{ v := .iface 27 (.int .i64 e), recovered := true }]) w
      (fun v w' => v = .tuple #[] ∧ SX.St w (SX.idsOf [SX.Ent.blk ge Te #[x], SX.Ent.blk gs Ts #[a, b]]) w' [SX.Ent.blk ge Te #[.int .i64 e], SX.Ent.blk gs Ts #[.int .i64 0, .slice none 0 0]]) := by
  generalize hM : SX.idsOf [SX.Ent.blk ge Te #[x], SX.Ent.blk gs Ts #[a, b]] = M at *
  refine Z.enterRec (Z.rec_pan _) Try.func38 rfl Try.ntmps38 rfl rfl rfl rfl rfl rfl rfl rfl rfl rfl ?_
  refine Z.seq ?_
  refine Z.seq ?_
  refine Z.region ?_
  refine Z.lb 1 rfl ?_
  refine Z.l rfl rfl (by rfl) (Z.keepS hs) (Z.Yd.bin rfl rfl (by intro _ w; go_simp; try rfl)) ?_
  refine Z.lnil ?_
  refine Z.only [0, 1, 2, 7] rfl ?_
  refine Z.nthen ?_
  refine Z.cond rfl (fun h => absurd h (by simp)) (fun hc1 => ?_)
  refine Z.skip ?_
  refine Z.nthen ?_
  refine Z.seq ?_
  refine Z.region ?_
  refine Z.lb 1 rfl ?_
  refine Z.l rfl rfl (by rfl) (Z.keepS hs) (Z.Yd.assertYes rfl (by intro v w; kernel_rfl)) ?_
  refine Z.lb 5 rfl ?_
  refine Z.lnil ?_
  refine Z.only [0, 1, 2, 3, 4] rfl ?_
  refine Z.nthen ?_
  refine Z.seq ?_
  refine Z.seq ?_
  refine Z.region ?_
  refine Z.lb 2 rfl ?_
  refine Z.lnil ?_
  refine Z.only [0, 1, 2, 3, 14] rfl ?_
  refine Z.nthen ?_
  refine Z.cond rfl (fun h => absurd h (by simp)) (fun hc3 => ?_)
  refine Z.skip ?_
  refine Z.nthen ?_
  refine Z.region ?_
  refine Z.l rfl rfl (by rfl) (Z.keepS hs) (Z.Yd.buildL [(0, 1), (1, 1)] [.int .i64 0, .slice none 0 0] rfl rfl (by intro w; kernel_rfl)) ?_
  refine Z.lb 1 rfl ?_
  refine Z.le rfl trivial ?_
  first | refine Z.ZO.storeA rfl rfl hs rfl rfl (by kernel_rfl) (by first | (simp [Value.oneCell']; done) | (refine Z.all_one ?_; assumption)) (by first | exact SX.at0 | exact SX.at1 | exact SX.at2 | exact SX.at3 | exact SX.at4 | exact SX.at5 | exact Z.at6 | exact Z.at7 | exact Z.at8 | exact Z.at9 | exact Z.at10 | exact Z.at11 | exact Z.at12) (by rfl) ?_ | refine Z.ZO.storeP rfl rfl hs rfl rfl (by kernel_rfl) (by first | (simp [Value.oneCell']; done) | (refine Z.all_one ?_; assumption)) (by first | exact SX.at0 | exact SX.at1 | exact SX.at2 | exact SX.at3 | exact SX.at4 | exact SX.at5 | exact Z.at6 | exact Z.at7 | exact Z.at8 | exact Z.at9 | exact Z.at10 | exact Z.at11 | exact Z.at12) (by first | decide | (simp; done) | (simp; omega)) ?_ | refine Z.ZO.storePR rfl rfl hs rfl rfl (by kernel_rfl) (by first | (simp [Value.oneCell']; done) | (refine Z.all_one ?_; assumption)) (by first | exact SX.at0 | exact SX.at1 | exact SX.at2 | exact SX.at3 | exact SX.at4 | exact SX.at5 | exact Z.at6 | exact Z.at7 | exact Z.at8 | exact Z.at9 | exact Z.at10 | exact Z.at11 | exact Z.at12) (by first | decide | (simp; done) | (simp; omega)) ?_
  clear hs; intro ws hs
  simp only [Nat.zero_add, Nat.add_zero, Nat.reduceAdd, Int.reduceToNat, Nat.reduceMul, List.set_cons_zero, List.set_cons_succ, List.setIfInBounds_toArray] at hs
  try simp only [Z.putL, Nat.zero_add] at hs
  refine Z.le rfl trivial ?_
  first | refine Z.ZO.store rfl rfl hs Try.sizeOf27 rfl rfl rfl (by first | exact SX.at0 | exact SX.at1 | exact SX.at2 | exact SX.at3 | exact SX.at4 | exact SX.at5 | exact Z.at6 | exact Z.at7 | exact Z.at8 | exact Z.at9 | exact Z.at10 | exact Z.at11 | exact Z.at12) (by first | (simp; done) | (simp; omega)) ?_ | refine Z.ZO.storeR rfl rfl hs Try.sizeOf27 rfl rfl rfl (by first | exact SX.at0 | exact SX.at1 | exact SX.at2 | exact SX.at3 | exact SX.at4 | exact SX.at5 | exact Z.at6 | exact Z.at7 | exact Z.at8 | exact Z.at9 | exact Z.at10 | exact Z.at11 | exact Z.at12) (by first | omega | (simp [ints_length]; done) | (simp [ints_length]; omega)) ?_
  clear hs; intro ws hs
  simp only [Nat.zero_add, Nat.add_zero, Nat.reduceAdd, Int.reduceToNat, Nat.reduceMul, List.set_cons_zero, List.set_cons_succ, List.setIfInBounds_toArray] at hs
  refine Z.lnil ?_
  refine Z.only [] rfl ?_
  -- ret#0
  refine Z.out0n trivial ?_
  first | exact ⟨_, rfl, rfl, hs⟩ | exact ⟨_, rfl, rfl, hs.sub (List.nil_sublist _)⟩
theorem dec1_ret (gs ge : Nat) (w : World) :
    CallsDm Try.prog 38 #[.pointer (some ⟨gs, 0, none⟩), .pointer (some ⟨ge, 0, none⟩)] .returning .returning w (fun v w' => v = .tuple #[] ∧ SX.St w [] w' []) := by
  have hs := SX.St.start w
  refine Z.enterRec (Z.rec_ret) Try.func38 rfl Try.ntmps38 rfl rfl rfl rfl rfl rfl rfl rfl rfl rfl ?_
  refine Z.seq ?_
  refine Z.seq ?_
  refine Z.region ?_
  refine Z.lb 1 rfl ?_
  refine Z.l rfl rfl (by rfl) (Z.keepS hs) (Z.Yd.bin rfl rfl (by intro _ w; go_simp; try rfl)) ?_
  refine Z.lnil ?_
  refine Z.only [0, 1, 2, 7] rfl ?_
  refine Z.nthen ?_
  refine Z.cond rfl (fun hc1 => ?_) (fun h => absurd h (by simp))
  refine Z.ret ?_
  repeat (first | refine Z.rthen ?_ | refine Z.rblock ?_ | refine Z.rscope ?_)
  -- ret#0
  refine Z.out0 trivial ?_
  first | exact ⟨_, rfl, rfl, hs⟩ | exact ⟨_, rfl, rfl, hs.sub (List.nil_sublist _)⟩
/-- what a decoder returns -/
def Dec (e ack : Int) (ns : List NkV) (v : Value) (w w' : World) : Prop := ∃ B c co, v = .tuple #[.agg #[.int .i64 ack, .slice B ns.length c], .int .i64 e] ∧ SX.St w [] w' [SX.Ent.row (.slice B ns.length co) 45 4 ns.length (ns.flatMap NkV.cells)]
theorem Dec.zero {e : Int} {w w' : World} (hs : SX.St w [] w' []) : Dec e 0 [] (.tuple #[.agg #[.int .i64 0, .slice none 0 0], .int .i64 e]) w w' := ⟨none, 0, 0, rfl, hs.nil _ 4⟩
set_option maxRecDepth 100000 in
theorem decode_short (A : Option Addr) (m c : Nat) (l : List Int) (w : World) (hx : Sl w A (ints .u8 l)) (hl : l.length = m) (hm : m ≤ 1000000) (hb : ∀ x ∈ l, 0 ≤ x ∧ x < 256) (h : ¬ 15 ≤ 8 * l.length) :
    Calls Try.prog 17 #[.slice A m c] w (SX.Ret fun v w' => Dec 5 0 [] v w w') := by
  have hs := SX.St.start w
  have q1 : gsE l 0 [4, 10, 1] = 5 := gs_bad (l := l) [4, 10, 1] 0 (by simp) (by omega) (by simp; omega)
  have hz0 : A = none → m = 0 := fun hA => by
    subst hA
    rcases Nat.eq_zero_or_pos m with h0 | h0
    · exact h0
    · obtain ⟨b, off, e, -⟩ := hx (by simp [ints]; omega)
      cases e
  refine Z.enterD Try.func17 rfl Try.ntmps17 rfl rfl ?_
  refine Z.seq ?_
  refine Z.region ?_
  refine Z.le rfl trivial ?_
  refine Z.ZO.alloc rfl rfl (by rfl) Try.zeroValue24 rfl hs ?_
  clear hs; intro g2 w2 hs
  refine Z.le rfl trivial ?_
  refine Z.ZO.alloc rfl rfl (by rfl) Try.zeroValue27 rfl hs ?_
  clear hs; intro g3 w3 hs
  refine Z.lnil ?_
  refine Z.only [0, 2, 3] rfl ?_
  refine Z.nthen ?_
  refine Z.seq ?_
  refine Z.region ?_
  refine Z.lb 1 rfl ?_
  refine Z.le rfl trivial ?_
  refine Z.ZO.defer rfl rfl rfl rfl ?_
  refine Z.lnil ?_
  refine Z.only [0, 2, 3] rfl ?_
  refine Z.nthen ?_
  refine Z.seq ?_
  refine Z.region ?_
  refine Z.lb 1 rfl ?_
  refine Z.le rfl trivial ?_
  refine Z.ZO.call rfl rfl (by rfl) rfl rfl Try.call39 rfl (newreader_any A m c l _ ((hx.st (hs.sub (List.nil_sublist _))).sx) hl (by omega) hz0) ?_
  rintro v2_1 w2_1 ⟨gr, sv, rfl, hy⟩
  replace hs := hs.call hy
  clear hy
  try simp only [List.cons_append, List.nil_append, List.append_nil] at hs
  refine Z.l rfl rfl (by rfl) (Z.keepS hs) (Z.Yd.buildL [(0, 1)] [.pointer none] rfl rfl (by intro w; kernel_rfl)) ?_
  refine Z.le rfl trivial ?_
  refine Z.ZO.alloc rfl rfl (by rfl) Try.zeroValue77 rfl hs ?_
  clear hs; intro g4 w4 hs
  refine Z.le rfl trivial ?_
  first | refine Z.ZO.storeA rfl rfl hs rfl rfl (by kernel_rfl) (by first | (simp [Value.oneCell']; done) | (refine Z.all_one ?_; assumption)) (by first | exact SX.at0 | exact SX.at1 | exact SX.at2 | exact SX.at3 | exact SX.at4 | exact SX.at5 | exact Z.at6 | exact Z.at7 | exact Z.at8 | exact Z.at9 | exact Z.at10 | exact Z.at11 | exact Z.at12) (by rfl) ?_ | refine Z.ZO.storeP rfl rfl hs rfl rfl (by kernel_rfl) (by first | (simp [Value.oneCell']; done) | (refine Z.all_one ?_; assumption)) (by first | exact SX.at0 | exact SX.at1 | exact SX.at2 | exact SX.at3 | exact SX.at4 | exact SX.at5 | exact Z.at6 | exact Z.at7 | exact Z.at8 | exact Z.at9 | exact Z.at10 | exact Z.at11 | exact Z.at12) (by first | decide | (simp; done) | (simp; omega)) ?_ | refine Z.ZO.storePR rfl rfl hs rfl rfl (by kernel_rfl) (by first | (simp [Value.oneCell']; done) | (refine Z.all_one ?_; assumption)) (by first | exact SX.at0 | exact SX.at1 | exact SX.at2 | exact SX.at3 | exact SX.at4 | exact SX.at5 | exact Z.at6 | exact Z.at7 | exact Z.at8 | exact Z.at9 | exact Z.at10 | exact Z.at11 | exact Z.at12) (by first | decide | (simp; done) | (simp; omega)) ?_
  clear hs; intro ws hs
  simp only [Nat.zero_add, Nat.add_zero, Nat.reduceAdd, Int.reduceToNat, Nat.reduceMul, List.set_cons_zero, List.set_cons_succ, List.setIfInBounds_toArray] at hs
  try simp only [Z.putL, Nat.zero_add] at hs
  refine Z.lnil ?_
  refine Z.only [2, 3, 4] rfl ?_
  refine Z.nthen ?_
  refine Z.seq ?_
  refine Z.region ?_
  refine Z.l rfl rfl (by rfl) (Z.keepS hs) (Z.Yd.fieldA (m := 0) rfl (by kernel_rfl)) ?_
  refine Z.l rfl rfl (by rfl) (Z.keepS hs) (by first | exact Z.Yd.load rfl Try.isAgg74 (fun _ => Z.cellB (by first | ((repeat (first | exact List.mem_cons_self | refine List.mem_cons_of_mem _ ?_ | refine List.mem_append_right _ ?_)); done) | fail) rfl) | exact Z.Yd.load rfl Try.isAgg74 (fun _ => Z.cellO (by assumption) (by simp) (by assumption)) | fail "load 3.1") ?_
  refine Z.le rfl trivial ?_
  refine Z.ZO.litL (T' := 3) [(0, 1), (1, 1), (2, 1)] [.int .i64 0, .int .i64 0, .int .i64 0] rfl rfl (by rfl) rfl rfl (by intro W; kernel_rfl) hs ?_
  clear hs; intro g15 w15 hs
  replace hs : SX.St w [] _ (RdL gr 107 sv l 0 ++ [_, _, _, _]) := hs.sel [2, 3, 0, 1, 4, 5] (by decide)
  refine Z.le rfl trivial ?_
  refine Z.ZO.call rfl rfl (by rfl) rfl rfl Try.call41 rfl (rgetall_any gr _ sv l 0 _ _ _ [4, 10, 1] _ hs.lend (by have h0 := Z.blk_lentj hs (j := 0) rfl; exact h0) rfl (by decide) (by omega) (by omega) hb) ?_
  rintro v3_3 w3_3 ⟨so, rfl, hz⟩
  replace hs := hs.regain hz
  rw [q1]
  rw [q1, if_neg (by decide), if_neg (by decide), if_neg (by decide)] at hs
  simp only [RdL, List.cons_append, List.nil_append] at hs
  refine Z.lb 2 rfl ?_
  refine Z.le rfl trivial ?_
  refine Z.ZO.callP rfl rfl rfl Try.call40 rfl (gots_bad _ 5 _ (by decide)) ?_
  rintro c3_6 w3_6 ⟨rfl, hy⟩
  replace hs := hs.call hy
  clear hy
  try simp only [List.cons_append, List.nil_append, List.append_nil] at hs
  replace hs := hs.sel [5, 6] (by decide)
  repeat (first | refine Z.pthen ?_ | refine Z.pblock ?_ | refine Z.pscope ?_)
  -- ret#0
  refine Z.outDp Try.call38 (dec1_pan g2 g3 _ _ _ _ _ _ _ (hs.lend (L2 := []))) ?_
  rintro vD wD ⟨rfl, hz⟩
  replace hs := hs.regain (L2 := []) hz
  refine ⟨[_, _], (by exact ⟨⟨_, rfl, Z.rvcA hs Try.isAgg24 (by first | ((repeat (first | exact List.mem_cons_self | refine List.mem_cons_of_mem _ ?_ | refine List.mem_append_right _ ?_)); done) | fail) (by exact Try.sizeOf24)⟩, ⟨_, rfl, Z.rvc hs Try.isAgg27 (by first | ((repeat (first | exact List.mem_cons_self | refine List.mem_cons_of_mem _ ?_ | refine List.mem_append_right _ ?_)); done) | fail) rfl⟩, trivial⟩), ?_⟩
  exact ⟨_, rfl, Dec.zero (hs.sub (List.nil_sublist _))⟩
set_option maxRecDepth 100000 in
theorem decode_fmt (A : Option Addr) (m c : Nat) (l : List Int) (w : World) (hx : Sl w A (ints .u8 l)) (hl : l.length = m) (hm : m ≤ 1000000) (hb : ∀ x ∈ l, 0 ≤ x ∧ x < 256) (h : 15 ≤ 8 * l.length) (h4 : gv l 0 4 ≠ 0) :
    Calls Try.prog 17 #[.slice A m c] w (SX.Ret fun v w' => Dec 9 0 [] v w w') := by
  have hs := SX.St.start w
  have b0 := gv_bd l 0 4
  have b1 := gv_bd l 4 10
  have b2 := gv_bd l 14 1
  simp only [Nat.reducePow] at b0 b1 b2
  obtain ⟨q1, q2, q3⟩ := gs_ok (l := l) [4, 10, 1] 0 (by simp) (by simp; omega)
  obtain ⟨v0, hv0⟩ : ∃ v, v = gv l 0 4 := ⟨_, rfl⟩
  obtain ⟨v1, hv1⟩ : ∃ v, v = gv l 4 10 := ⟨_, rfl⟩
  obtain ⟨v2, hv2⟩ : ∃ v, v = gv l 14 1 := ⟨_, rfl⟩
  have q3' : gsV l 0 [4, 10, 1] = [v0, v1, v2] := by rw [hv0, hv1, hv2]; exact q3
  have q1' : gsE l 0 [4, 10, 1] = 0 := q1
  have q2' : gsA l 0 [4, 10, 1] = 15 := q2
  rw [← hv0] at b0
  rw [← hv1] at b1
  rw [← hv2] at b2
  have hz0 : A = none → m = 0 := fun hA => by
    subst hA
    rcases Nat.eq_zero_or_pos m with h0 | h0
    · exact h0
    · obtain ⟨b, off, e, -⟩ := hx (by simp [ints]; omega)
      cases e
  have h4' : (v0 == 0) = false := by rw [hv0]; simpa using h4
  refine Z.enterD Try.func17 rfl Try.ntmps17 rfl rfl ?_
  refine Z.seq ?_
  refine Z.region ?_
  refine Z.le rfl trivial ?_
  refine Z.ZO.alloc rfl rfl (by rfl) Try.zeroValue24 rfl hs ?_
  clear hs; intro g2 w2 hs
  refine Z.le rfl trivial ?_
  refine Z.ZO.alloc rfl rfl (by rfl) Try.zeroValue27 rfl hs ?_
  clear hs; intro g3 w3 hs
  refine Z.lnil ?_
  refine Z.only [0, 2, 3] rfl ?_
  refine Z.nthen ?_
  refine Z.seq ?_
  refine Z.region ?_
  refine Z.lb 1 rfl ?_
  refine Z.le rfl trivial ?_
  refine Z.ZO.defer rfl rfl rfl rfl ?_
  refine Z.lnil ?_
  refine Z.only [0, 2, 3] rfl ?_
  refine Z.nthen ?_
  refine Z.seq ?_
  refine Z.region ?_
  refine Z.lb 1 rfl ?_
  refine Z.le rfl trivial ?_
  refine Z.ZO.call rfl rfl (by rfl) rfl rfl Try.call39 rfl (newreader_any A m c l _ ((hx.st (hs.sub (List.nil_sublist _))).sx) hl (by omega) hz0) ?_
  rintro v2_1 w2_1 ⟨gr, sv, rfl, hy⟩
  replace hs := hs.call hy
  clear hy
  try simp only [List.cons_append, List.nil_append, List.append_nil] at hs
  refine Z.l rfl rfl (by rfl) (Z.keepS hs) (Z.Yd.buildL [(0, 1)] [.pointer none] rfl rfl (by intro w; kernel_rfl)) ?_
  refine Z.le rfl trivial ?_
  refine Z.ZO.alloc rfl rfl (by rfl) Try.zeroValue77 rfl hs ?_
  clear hs; intro g4 w4 hs
  refine Z.le rfl trivial ?_
  first | refine Z.ZO.storeA rfl rfl hs rfl rfl (by kernel_rfl) (by first | (simp [Value.oneCell']; done) | (refine Z.all_one ?_; assumption)) (by first | exact SX.at0 | exact SX.at1 | exact SX.at2 | exact SX.at3 | exact SX.at4 | exact SX.at5 | exact Z.at6 | exact Z.at7 | exact Z.at8 | exact Z.at9 | exact Z.at10 | exact Z.at11 | exact Z.at12) (by rfl) ?_ | refine Z.ZO.storeP rfl rfl hs rfl rfl (by kernel_rfl) (by first | (simp [Value.oneCell']; done) | (refine Z.all_one ?_; assumption)) (by first | exact SX.at0 | exact SX.at1 | exact SX.at2 | exact SX.at3 | exact SX.at4 | exact SX.at5 | exact Z.at6 | exact Z.at7 | exact Z.at8 | exact Z.at9 | exact Z.at10 | exact Z.at11 | exact Z.at12) (by first | decide | (simp; done) | (simp; omega)) ?_ | refine Z.ZO.storePR rfl rfl hs rfl rfl (by kernel_rfl) (by first | (simp [Value.oneCell']; done) | (refine Z.all_one ?_; assumption)) (by first | exact SX.at0 | exact SX.at1 | exact SX.at2 | exact SX.at3 | exact SX.at4 | exact SX.at5 | exact Z.at6 | exact Z.at7 | exact Z.at8 | exact Z.at9 | exact Z.at10 | exact Z.at11 | exact Z.at12) (by first | decide | (simp; done) | (simp; omega)) ?_
  clear hs; intro ws hs
  simp only [Nat.zero_add, Nat.add_zero, Nat.reduceAdd, Int.reduceToNat, Nat.reduceMul, List.set_cons_zero, List.set_cons_succ, List.setIfInBounds_toArray] at hs
  try simp only [Z.putL, Nat.zero_add] at hs
  refine Z.lnil ?_
  refine Z.only [2, 3, 4] rfl ?_
  refine Z.nthen ?_
  refine Z.seq ?_
  refine Z.region ?_
  refine Z.l rfl rfl (by rfl) (Z.keepS hs) (Z.Yd.fieldA (m := 0) rfl (by kernel_rfl)) ?_
  refine Z.l rfl rfl (by rfl) (Z.keepS hs) (by first | exact Z.Yd.load rfl Try.isAgg74 (fun _ => Z.cellB (by first | ((repeat (first | exact List.mem_cons_self | refine List.mem_cons_of_mem _ ?_ | refine List.mem_append_right _ ?_)); done) | fail) rfl) | exact Z.Yd.load rfl Try.isAgg74 (fun _ => Z.cellO (by assumption) (by simp) (by assumption)) | fail "load 3.1") ?_
  refine Z.le rfl trivial ?_
  refine Z.ZO.litL (T' := 3) [(0, 1), (1, 1), (2, 1)] [.int .i64 0, .int .i64 0, .int .i64 0] rfl rfl (by rfl) rfl rfl (by intro W; kernel_rfl) hs ?_
  clear hs; intro g15 w15 hs
  replace hs : SX.St w [] _ (RdL gr 107 sv l 0 ++ [_, _, _, _]) := hs.sel [2, 3, 0, 1, 4, 5] (by decide)
  refine Z.le rfl trivial ?_
  refine Z.ZO.call rfl rfl (by rfl) rfl rfl Try.call41 rfl (rgetall_any gr _ sv l 0 _ _ _ [4, 10, 1] _ hs.lend (by have h0 := Z.blk_lentj hs (j := 0) rfl; exact h0) rfl (by decide) (by omega) (by omega) hb) ?_
  rintro v3_3 w3_3 ⟨so, rfl, hz⟩
  replace hs := hs.regain hz
  rw [q1']
  rw [q1', if_pos rfl, if_pos rfl, if_pos rfl, q2', q3'] at hs
  simp only [RdL, List.cons_append, List.nil_append] at hs
  obtain ⟨gso, cso, rfl, -, -⟩ := row_form (j := 2) hs rfl (by omega)
  refine Z.lb 2 rfl ?_
  refine Z.le rfl trivial ?_
  refine Z.ZO.call rfl rfl (by rfl) rfl rfl Try.call40 rfl (gots_ok _ _) ?_
  rintro v3_6 w3_6 ⟨rfl, hy⟩
  replace hs := hs.call hy
  clear hy
  try simp only [List.cons_append, List.nil_append, List.append_nil] at hs
  refine Z.lb 1 rfl ?_
  refine Z.lnil ?_
  refine Z.only [2, 3, 4, 5] rfl ?_
  refine Z.nthen ?_
  refine Z.seq ?_
  refine Z.region ?_
  refine Z.lb 1 rfl ?_
  refine Z.l rfl rfl (by rfl) (Z.keepS hs) (Z.Yd.elem rfl rfl Try.underlying78 Try.sizeOf62 (fun hG => ⟨(by first | omega | (have hG' := Z.gh rfl hG; simp at hG'; omega)), (by first | omega | (have hG' := Z.gh rfl hG; simp at hG'; omega))⟩)) ?_
  refine Z.l rfl rfl (by rfl) (Z.keepS hs) (Z.Yd.load rfl Try.isAgg62 (fun _ => Z.cellR (by first | ((repeat (first | exact List.mem_cons_self | refine List.mem_cons_of_mem _ ?_ | refine List.mem_append_right _ ?_)); done) | fail) rfl)) ?_
  refine Z.lb 1 rfl ?_
  refine Z.le rfl trivial ?_
  refine Z.ZO.callP rfl rfl rfl Try.call42 rfl (must_bad _ 9 _ h4') ?_
  rintro c4_4 w4_4 ⟨rfl, hy⟩
  replace hs := hs.call hy
  clear hy
  try simp only [List.cons_append, List.nil_append, List.append_nil] at hs
  replace hs := hs.sel [5, 6] (by decide)
  repeat (first | refine Z.pthen ?_ | refine Z.pblock ?_ | refine Z.pscope ?_)
  -- ret#0
  refine Z.outDp Try.call38 (dec1_pan g2 g3 _ _ _ _ _ _ _ (hs.lend (L2 := []))) ?_
  rintro vD wD ⟨rfl, hz⟩
  replace hs := hs.regain (L2 := []) hz
  refine ⟨[_, _], (by exact ⟨⟨_, rfl, Z.rvcA hs Try.isAgg24 (by first | ((repeat (first | exact List.mem_cons_self | refine List.mem_cons_of_mem _ ?_ | refine List.mem_append_right _ ?_)); done) | fail) (by exact Try.sizeOf24)⟩, ⟨_, rfl, Z.rvc hs Try.isAgg27 (by first | ((repeat (first | exact List.mem_cons_self | refine List.mem_cons_of_mem _ ?_ | refine List.mem_append_right _ ?_)); done) | fail) rfl⟩, trivial⟩), ?_⟩
  exact ⟨_, rfl, Dec.zero (hs.sub (List.nil_sublist _))⟩
theorem last_at {acc : List NkV} (h : acc.length ≠ 0) : ∃ p, acc[acc.length - 1]? = some p := ⟨_, List.getElem?_eq_getElem (by omega)⟩
set_option maxRecDepth 100000 in
theorem decode_main (A : Option Addr) (m c : Nat) (l : List Int) (w : World) (hx : Sl w A (ints .u8 l)) (hl : l.length = m) (hm : m ≤ 1000000) (hb : ∀ x ∈ l, 0 ≤ x ∧ x < 256) (h : 15 ≤ 8 * l.length) (h4 : gv l 0 4 = 0) (R : Int × List NkV) (hR : decGo l (gv l 4 10) (8 * l.length + 1) 15 [] (gv l 14 1 == 1) = R) :
    Calls Try.prog 17 #[.slice A m c] w (SX.Ret fun v w' => Dec R.1 (if R.1 = 0 then gv l 4 10 else 0) (if R.1 = 0 then R.2 else []) v w w') := by
  have hs := SX.St.start w
  have b0 := gv_bd l 0 4
  have b1 := gv_bd l 4 10
  have b2 := gv_bd l 14 1
  simp only [Nat.reducePow] at b0 b1 b2
  obtain ⟨q1, q2, q3⟩ := gs_ok (l := l) [4, 10, 1] 0 (by simp) (by simp; omega)
  obtain ⟨v0, hv0⟩ : ∃ v, v = gv l 0 4 := ⟨_, rfl⟩
  obtain ⟨v1, hv1⟩ : ∃ v, v = gv l 4 10 := ⟨_, rfl⟩
  obtain ⟨v2, hv2⟩ : ∃ v, v = gv l 14 1 := ⟨_, rfl⟩
  have q3' : gsV l 0 [4, 10, 1] = [v0, v1, v2] := by rw [hv0, hv1, hv2]; exact q3
  have q1' : gsE l 0 [4, 10, 1] = 0 := q1
  have q2' : gsA l 0 [4, 10, 1] = 15 := q2
  rw [← hv0] at b0
  rw [← hv1] at b1
  rw [← hv2] at b2
  have hz0 : A = none → m = 0 := fun hA => by
    subst hA
    rcases Nat.eq_zero_or_pos m with h0 | h0
    · exact h0
    · obtain ⟨b, off, e, -⟩ := hx (by simp [ints]; omega)
      cases e
  have h4' : (v0 == 0) = true := by rw [hv0]; simpa using h4
  rw [← hv1] at hR ⊢
  rw [← hv2] at hR
  refine Z.enterD Try.func17 rfl Try.ntmps17 rfl rfl ?_
  refine Z.seq ?_
  refine Z.region ?_
  refine Z.le rfl trivial ?_
  refine Z.ZO.alloc rfl rfl (by rfl) Try.zeroValue24 rfl hs ?_
  clear hs; intro g2 w2 hs
  refine Z.le rfl trivial ?_
  refine Z.ZO.alloc rfl rfl (by rfl) Try.zeroValue27 rfl hs ?_
  clear hs; intro g3 w3 hs
  refine Z.lnil ?_
  refine Z.only [0, 2, 3] rfl ?_
  refine Z.nthen ?_
  refine Z.seq ?_
  refine Z.region ?_
  refine Z.lb 1 rfl ?_
  refine Z.le rfl trivial ?_
  refine Z.ZO.defer rfl rfl rfl rfl ?_
  refine Z.lnil ?_
  refine Z.only [0, 2, 3] rfl ?_
  refine Z.nthen ?_
  refine Z.seq ?_
  refine Z.region ?_
  refine Z.lb 1 rfl ?_
  refine Z.le rfl trivial ?_
  refine Z.ZO.call rfl rfl (by rfl) rfl rfl Try.call39 rfl (newreader_any A m c l _ ((hx.st (hs.sub (List.nil_sublist _))).sx) hl (by omega) hz0) ?_
  rintro v2_1 w2_1 ⟨gr, sv, rfl, hy⟩
  replace hs := hs.call hy
  clear hy
  try simp only [List.cons_append, List.nil_append, List.append_nil] at hs
  refine Z.l rfl rfl (by rfl) (Z.keepS hs) (Z.Yd.buildL [(0, 1)] [.pointer none] rfl rfl (by intro w; kernel_rfl)) ?_
  refine Z.le rfl trivial ?_
  refine Z.ZO.alloc rfl rfl (by rfl) Try.zeroValue77 rfl hs ?_
  clear hs; intro g4 w4 hs
  refine Z.le rfl trivial ?_
  first | refine Z.ZO.storeA rfl rfl hs rfl rfl (by kernel_rfl) (by first | (simp [Value.oneCell']; done) | (refine Z.all_one ?_; assumption)) (by first | exact SX.at0 | exact SX.at1 | exact SX.at2 | exact SX.at3 | exact SX.at4 | exact SX.at5 | exact Z.at6 | exact Z.at7 | exact Z.at8 | exact Z.at9 | exact Z.at10 | exact Z.at11 | exact Z.at12) (by rfl) ?_ | refine Z.ZO.storeP rfl rfl hs rfl rfl (by kernel_rfl) (by first | (simp [Value.oneCell']; done) | (refine Z.all_one ?_; assumption)) (by first | exact SX.at0 | exact SX.at1 | exact SX.at2 | exact SX.at3 | exact SX.at4 | exact SX.at5 | exact Z.at6 | exact Z.at7 | exact Z.at8 | exact Z.at9 | exact Z.at10 | exact Z.at11 | exact Z.at12) (by first | decide | (simp; done) | (simp; omega)) ?_ | refine Z.ZO.storePR rfl rfl hs rfl rfl (by kernel_rfl) (by first | (simp [Value.oneCell']; done) | (refine Z.all_one ?_; assumption)) (by first | exact SX.at0 | exact SX.at1 | exact SX.at2 | exact SX.at3 | exact SX.at4 | exact SX.at5 | exact Z.at6 | exact Z.at7 | exact Z.at8 | exact Z.at9 | exact Z.at10 | exact Z.at11 | exact Z.at12) (by first | decide | (simp; done) | (simp; omega)) ?_
  clear hs; intro ws hs
  simp only [Nat.zero_add, Nat.add_zero, Nat.reduceAdd, Int.reduceToNat, Nat.reduceMul, List.set_cons_zero, List.set_cons_succ, List.setIfInBounds_toArray] at hs
  try simp only [Z.putL, Nat.zero_add] at hs
  refine Z.lnil ?_
  refine Z.only [2, 3, 4] rfl ?_
  refine Z.nthen ?_
  refine Z.seq ?_
  refine Z.region ?_
  refine Z.l rfl rfl (by rfl) (Z.keepS hs) (Z.Yd.fieldA (m := 0) rfl (by kernel_rfl)) ?_
  refine Z.l rfl rfl (by rfl) (Z.keepS hs) (by first | exact Z.Yd.load rfl Try.isAgg74 (fun _ => Z.cellB (by first | ((repeat (first | exact List.mem_cons_self | refine List.mem_cons_of_mem _ ?_ | refine List.mem_append_right _ ?_)); done) | fail) rfl) | exact Z.Yd.load rfl Try.isAgg74 (fun _ => Z.cellO (by assumption) (by simp) (by assumption)) | fail "load 3.1") ?_
  refine Z.le rfl trivial ?_
  refine Z.ZO.litL (T' := 3) [(0, 1), (1, 1), (2, 1)] [.int .i64 0, .int .i64 0, .int .i64 0] rfl rfl (by rfl) rfl rfl (by intro W; kernel_rfl) hs ?_
  clear hs; intro g15 w15 hs
  replace hs : SX.St w [] _ (RdL gr 107 sv l 0 ++ [_, _, _, _]) := hs.sel [2, 3, 0, 1, 4, 5] (by decide)
  refine Z.le rfl trivial ?_
  refine Z.ZO.call rfl rfl (by rfl) rfl rfl Try.call41 rfl (rgetall_any gr _ sv l 0 _ _ _ [4, 10, 1] _ hs.lend (by have h0 := Z.blk_lentj hs (j := 0) rfl; exact h0) rfl (by decide) (by omega) (by omega) hb) ?_
  rintro v3_3 w3_3 ⟨so, rfl, hz⟩
  replace hs := hs.regain hz
  rw [q1']
  rw [q1', if_pos rfl, if_pos rfl, if_pos rfl, q2', q3'] at hs
  simp only [RdL, List.cons_append, List.nil_append] at hs
  obtain ⟨gso, cso, rfl, -, -⟩ := row_form (j := 2) hs rfl (by omega)
  refine Z.lb 2 rfl ?_
  refine Z.le rfl trivial ?_
  refine Z.ZO.call rfl rfl (by rfl) rfl rfl Try.call40 rfl (gots_ok _ _) ?_
  rintro v3_6 w3_6 ⟨rfl, hy⟩
  replace hs := hs.call hy
  clear hy
  try simp only [List.cons_append, List.nil_append, List.append_nil] at hs
  refine Z.lb 1 rfl ?_
  refine Z.lnil ?_
  refine Z.only [2, 3, 4, 5] rfl ?_
  refine Z.nthen ?_
  refine Z.seq ?_
  refine Z.region ?_
  refine Z.lb 1 rfl ?_
  refine Z.l rfl rfl (by rfl) (Z.keepS hs) (Z.Yd.elem rfl rfl Try.underlying78 Try.sizeOf62 (fun hG => ⟨(by first | omega | (have hG' := Z.gh rfl hG; simp at hG'; omega)), (by first | omega | (have hG' := Z.gh rfl hG; simp at hG'; omega))⟩)) ?_
  refine Z.l rfl rfl (by rfl) (Z.keepS hs) (Z.Yd.load rfl Try.isAgg62 (fun _ => Z.cellR (by first | ((repeat (first | exact List.mem_cons_self | refine List.mem_cons_of_mem _ ?_ | refine List.mem_append_right _ ?_)); done) | fail) rfl)) ?_
  refine Z.lb 1 rfl ?_
  refine Z.le rfl trivial ?_
  refine Z.ZO.call rfl rfl (by rfl) rfl rfl Try.call42 rfl (must_ok _ 9 _ h4') ?_
  rintro v4_4 w4_4 ⟨rfl, hy⟩
  replace hs := hs.call hy
  clear hy
  try simp only [List.cons_append, List.nil_append, List.append_nil] at hs
  refine Z.lnil ?_
  refine Z.only [2, 3, 4, 5] rfl ?_
  refine Z.nthen ?_
  refine Z.seq ?_
  refine Z.region ?_
  refine Z.lb 1 rfl ?_
  refine Z.l rfl rfl (by rfl) (Z.keepS hs) (Z.Yd.elem rfl rfl Try.underlying78 Try.sizeOf62 (fun hG => ⟨(by first | omega | (have hG' := Z.gh rfl hG; simp at hG'; omega)), (by first | omega | (have hG' := Z.gh rfl hG; simp at hG'; omega))⟩)) ?_
  refine Z.l rfl rfl (by rfl) (Z.keepS hs) (Z.Yd.load rfl Try.isAgg62 (fun _ => Z.cellR (by first | ((repeat (first | exact List.mem_cons_self | refine List.mem_cons_of_mem _ ?_ | refine List.mem_append_right _ ?_)); done) | fail) rfl)) ?_
  refine Z.l rfl rfl (by rfl) (Z.keepS hs) (Z.Yd.convI rfl ⟨_, Try.underlying62⟩ Try.underlying3 (fun hG => Z.wi64 (by first | omega | (have hG' := Z.gh rfl hG; simp at hG'; omega)))) ?_
  refine Z.l rfl rfl (by rfl) (Z.keepS hs) (Z.Yd.fieldA (m := 0) rfl (by kernel_rfl)) ?_
  refine Z.le rfl trivial ?_
  first | refine Z.ZO.store rfl rfl hs Try.sizeOf3 rfl rfl rfl (by first | exact SX.at0 | exact SX.at1 | exact SX.at2 | exact SX.at3 | exact SX.at4 | exact SX.at5 | exact Z.at6 | exact Z.at7 | exact Z.at8 | exact Z.at9 | exact Z.at10 | exact Z.at11 | exact Z.at12) (by first | (simp; done) | (simp; omega)) ?_ | refine Z.ZO.storeR rfl rfl hs Try.sizeOf3 rfl rfl rfl (by first | exact SX.at0 | exact SX.at1 | exact SX.at2 | exact SX.at3 | exact SX.at4 | exact SX.at5 | exact Z.at6 | exact Z.at7 | exact Z.at8 | exact Z.at9 | exact Z.at10 | exact Z.at11 | exact Z.at12) (by first | omega | (simp [ints_length]; done) | (simp [ints_length]; omega)) ?_
  clear hs; intro ws hs
  simp only [Nat.zero_add, Nat.add_zero, Nat.reduceAdd, Int.reduceToNat, Nat.reduceMul, List.set_cons_zero, List.set_cons_succ, List.setIfInBounds_toArray] at hs
  refine Z.lnil ?_
  refine Z.only [2, 3, 4, 5] rfl ?_
  refine Z.nthen ?_
  refine Z.seq ?_
  refine Z.seq ?_
  refine Z.region ?_
  refine Z.lb 1 rfl ?_
  refine Z.l rfl rfl (by rfl) (Z.keepS hs) (Z.Yd.elem rfl rfl Try.underlying78 Try.sizeOf62 (fun hG => ⟨(by first | omega | (have hG' := Z.gh rfl hG; simp at hG'; omega)), (by first | omega | (have hG' := Z.gh rfl hG; simp at hG'; omega))⟩)) ?_
  refine Z.l rfl rfl (by rfl) (Z.keepS hs) (Z.Yd.load rfl Try.isAgg62 (fun _ => Z.cellR (by first | ((repeat (first | exact List.mem_cons_self | refine List.mem_cons_of_mem _ ?_ | refine List.mem_append_right _ ?_)); done) | fail) rfl)) ?_
  refine Z.lb 2 rfl ?_
  refine Z.lnil ?_
  refine Z.only [2, 3, 4, 6] rfl ?_
  replace hs := (hs.sel [0, 1, 4, 5, 6] (by decide)).nil 45 4
  replace hs := hs.sel [1, 2, 0, 3, 4, 5] (by decide)
  refine Z.nthen ?_
  refine Z.block ?_
  refine Z.loopk (ι := Nat × List NkV × Value × Bool) [2, 3, 4] rfl (fun k => [(6, [], .bool k.2.2.2)]) (fun k wr => (k.1 ≤ 8 * l.length ∧ k.2.1.length ≤ 512 ∧ ∃ f, 8 * l.length - k.1 < f ∧ decGo l v1 f k.1 k.2.1 k.2.2.2 = R) ∧ SX.St w [] wr (RdL gr 107 sv l k.1 ++ [SX.Ent.row k.2.2.1 45 4 k.2.1.length (k.2.1.flatMap NkV.cells), SX.Ent.blk g4 77 #[.pointer (some ⟨gr, 0, none⟩)], SX.Ent.blk g3 27 #[.int .i64 0], SX.Ent.blk g2 24 #[.int .i64 v1, k.2.2.1]])) (fun k => 8 * l.length - k.1 + (if k.2.2.2 = true then 1 else 0)) (15, [], .slice none 0 0, v2 == 1) (by refine ⟨?_, trivial⟩ <;> (first | rfl | (refine Z.lookv rfl ?_; simp; done) | (refine Z.lookv rfl ?_; simp; omega))) ⟨⟨by simp only; omega, by simp, _, by simp only; omega, hR⟩, hs⟩ ?_
  clear hs
  rintro ⟨a, acc, sva, more⟩ w2 ⟨⟨ha, h512, f, hf, hgo⟩, hs⟩
  refine Z.only [2, 3, 4, 6] rfl ?_
  (try dsimp only at hs)
  dsimp only at ha h512 hf hgo
  refine Z.seq ?_
  refine Z.seq ?_
  refine Z.region ?_
  refine Z.lb 1 rfl ?_
  refine Z.lnil ?_
  refine Z.only [2, 3, 4, 34] rfl ?_
  refine Z.nthen ?_
  refine Z.cond rfl (fun hc7 => ?_) (fun hc7 => ?_)
  · first
      | (exfalso; simp at hc7 <;> omega)
      | (
        (try simp at hc7)
        obtain ⟨f, rfl⟩ : ∃ f', f = f' + 1 := ⟨f - 1, by omega⟩
        unfold decGo at hgo
        obtain ⟨Aa, ca, rfl, -, -, -⟩ := SX.row_slv hs (j := 2) rfl
        refine Z.skip ?_
        refine Z.nthen ?_
        refine Z.block ?_
        refine Z.seq ?_
        refine Z.region ?_
        refine Z.le rfl trivial ?_
        refine Z.ZO.alloc rfl rfl (by rfl) Try.zeroValue45 rfl hs ?_
        clear hs; intro g7 w7 hs
        refine Z.lnil ?_
        refine Z.only [2, 3, 4, 7] rfl ?_
        refine Z.nthen ?_
        refine Z.seq ?_
        refine Z.region ?_
        refine Z.l rfl rfl (by rfl) (Z.keepS hs) (by first | exact Z.Yd.loadA _ rfl Try.isAgg77 (fun _ => Z.cellsB (by first | ((repeat (first | exact List.mem_cons_self | refine List.mem_cons_of_mem _ ?_ | refine List.mem_append_right _ ?_)); done) | fail)) (by exact Try.sizeOf77) | fail "load 9.0") ?_
        replace hs : SX.St w [] _ (RdL gr 107 sv l a ++ [_, _, _, _, _]) := hs.sel [1, 2, 0, 3, 4, 5, 6] (by decide)
        refine Z.le rfl trivial ?_
        refine Z.ZO.callB rfl rfl (by rfl) rfl rfl Try.call43 rfl (entry_any gr _ sv l a _ hs.lend (by omega) hb ha) ?_ ?_
        · skip
          rintro v9_1 w9_1 ⟨hE, rfl, hz⟩
          replace hs := hs.regain hz
          have hA := nkA_ok hE
          have hone := nk_one (nkAt l a)
          rw [if_neg (by simp_all), if_neg (by simpa using hE)] at hgo
          simp only [RdL, List.cons_append, List.nil_append] at hs
          refine Z.lb 3 rfl ?_
          refine Z.le rfl trivial ?_
          first | refine Z.ZO.storeA rfl rfl hs rfl rfl (by kernel_rfl) (by first | (simp [Value.oneCell']; done) | (refine Z.all_one ?_; assumption)) (by first | exact SX.at0 | exact SX.at1 | exact SX.at2 | exact SX.at3 | exact SX.at4 | exact SX.at5 | exact Z.at6 | exact Z.at7 | exact Z.at8 | exact Z.at9 | exact Z.at10 | exact Z.at11 | exact Z.at12) (by rfl) ?_ | refine Z.ZO.storeP rfl rfl hs rfl rfl (by kernel_rfl) (by first | (simp [Value.oneCell']; done) | (refine Z.all_one ?_; assumption)) (by first | exact SX.at0 | exact SX.at1 | exact SX.at2 | exact SX.at3 | exact SX.at4 | exact SX.at5 | exact Z.at6 | exact Z.at7 | exact Z.at8 | exact Z.at9 | exact Z.at10 | exact Z.at11 | exact Z.at12) (by first | decide | (simp; done) | (simp; omega)) ?_ | refine Z.ZO.storePR rfl rfl hs rfl rfl (by kernel_rfl) (by first | (simp [Value.oneCell']; done) | (refine Z.all_one ?_; assumption)) (by first | exact SX.at0 | exact SX.at1 | exact SX.at2 | exact SX.at3 | exact SX.at4 | exact SX.at5 | exact Z.at6 | exact Z.at7 | exact Z.at8 | exact Z.at9 | exact Z.at10 | exact Z.at11 | exact Z.at12) (by first | decide | (simp; done) | (simp; omega)) ?_
          clear hs; intro ws hs
          simp only [Nat.zero_add, Nat.add_zero, Nat.reduceAdd, Int.reduceToNat, Nat.reduceMul, List.set_cons_zero, List.set_cons_succ, List.setIfInBounds_toArray] at hs
          try simp only [Z.putL, Nat.zero_add] at hs
          refine Z.lb 1 rfl ?_
          refine Z.lnil ?_
          refine Z.only [2, 3, 4, 6, 7] rfl ?_
          refine Z.nthen ?_
          refine Z.seq ?_
          refine Z.region ?_
          refine Z.l rfl rfl (by rfl) (Z.keepS hs) (Z.Yd.fieldA (m := 1) rfl (by kernel_rfl)) ?_
          refine Z.l rfl rfl (by rfl) (Z.keepS hs) (by first | exact Z.Yd.load rfl Try.isAgg22 (fun _ => Z.cellB (by first | ((repeat (first | exact List.mem_cons_self | refine List.mem_cons_of_mem _ ?_ | refine List.mem_append_right _ ?_)); done) | fail) rfl) | exact Z.Yd.load rfl Try.isAgg22 (fun _ => Z.cellO (by assumption) (by simp) (by assumption)) | fail "load 10.1") ?_
          refine Z.l rfl rfl (by rfl) (Z.keepS hs) (Z.Yd.lenS rfl Try.underlying22) ?_
          refine Z.lb 1 rfl ?_
          refine Z.lnil ?_
          refine Z.only [2, 3, 4, 6, 7, 8] rfl ?_
          refine Z.nthen ?_
          refine Z.seq ?_
          refine Z.drawPK (fun j => j != 24) mixed hs ?_
          clear hs; intro wd11 hs
          refine Z.tnP 0 rfl rfl (by kernel_rfl) rfl trivial ?_
          refine Z.ZO.quiet rfl (by rfl) (Z.keepS hs) (Z.Yd.pure rfl) ?_
          refine Z.tkP (Dn := fun j => j != 24) (i := 0) (fun _ => ⟨_, hs, by first | (simp; done) | exact fun e he => List.mem_append_right _ he⟩) ?_
          refine Z.tnP 1 rfl rfl (by kernel_rfl) rfl trivial ?_
          refine Z.ZO.quiet rfl (by rfl) (Z.keepS hs) (Z.Yd.pure rfl) ?_
          refine Z.tkP (Dn := fun j => j != 24) (i := 1) (fun _ => ⟨_, hs, by first | (simp; done) | exact fun e he => List.mem_append_right _ he⟩) ?_
          refine Z.tnP 2 rfl rfl (by kernel_rfl) rfl trivial ?_
          refine Z.ZO.quiet rfl (by rfl) (Z.keepS hs) (Z.Yd.pure rfl) ?_
          refine Z.tkP (Dn := fun j => j != 24) (i := 2) (fun _ => ⟨_, hs, by first | (simp; done) | exact fun e he => List.mem_append_right _ he⟩) ?_
          refine Z.split (s := 45) rfl (fun hsp45 => ?_) (fun hsp45 => ?_)
          · first
              | (exfalso; simp at hsp45 <;> omega)
              | (
                refine Z.yes (s := 45) (b := true) rfl hsp45 rfl ?_
                (try simp at hsp45)
                refine Z.tXD 3 [3, 4, 6, 7, 8, 9, 10, 11, 12, 13, 14, 15, 16, 17, 18, 19, 20, 21, 22, 23, 24] (fun _ _ _ _ h => Z.leaves_put (by kernel_rfl) h) rfl rfl rfl (by rfl) (by kernel_rfl) ⟨_, hs, by first | (simp; done) | exact fun e he => List.mem_append_right _ he⟩ (Z.Yd.fieldA (m := 0) rfl (by kernel_rfl)) ?_
                refine Z.tXD 4 [4, 6, 7, 8, 9, 10, 11, 12, 13, 14, 15, 16, 17, 18, 19, 20, 21, 22, 23, 24] (fun _ _ _ _ h => Z.leaves_put (by kernel_rfl) h) rfl rfl rfl (by rfl) (by kernel_rfl) ⟨_, hs, by first | (simp; done) | exact fun e he => List.mem_append_right _ he⟩ (by first | exact Z.Yd.load rfl Try.isAgg3 (fun _ => Z.cellB (by first | ((repeat (first | exact List.mem_cons_self | refine List.mem_cons_of_mem _ ?_ | refine List.mem_append_right _ ?_)); done) | fail) rfl) | exact Z.Yd.load rfl Try.isAgg3 (fun _ => Z.cellO (by assumption) (by simp) (by assumption)) | fail "load 11.4") ?_
                refine Z.yes (s := 45) (b := true) rfl rfl rfl ?_
                refine Z.tnP 5 rfl rfl (by kernel_rfl) rfl (by exact ⟨rfl, trivial⟩) ?_
                refine Z.ZO.quiet rfl (by rfl) (Z.keepS hs) (Z.Yd.loadA _ rfl Try.isAgg45 (fun _ => Z.cellsB (cs := (nkAt l a).cells) (by first | ((repeat (first | exact List.mem_cons_self | refine List.mem_cons_of_mem _ ?_ | refine List.mem_append_right _ ?_)); done) | fail)) (by exact Try.sizeOf45)) ?_
                refine Z.tkP (Dn := fun j => j != 24) (i := 5) (fun _ => ⟨_, hs, by first | (simp; done) | exact fun e he => List.mem_append_right _ he⟩) ?_
                refine Z.tnP 6 rfl rfl (by kernel_rfl) rfl (by exact ⟨rfl, trivial⟩) ?_
                refine Z.ZO.call rfl rfl (by rfl) rfl rfl Try.call33 rfl (alone_any v1 (nkAt l a) _) ?_
                rintro v11_6 w11_6 ⟨rfl, hy⟩
                replace hs := hs.call hy
                clear hy
                try simp only [List.cons_append, List.nil_append, List.append_nil] at hs
                refine Z.tkP (Dn := fun j => j != 24) (i := 6) (fun _ => ⟨_, hs, by first | (simp; done) | exact fun e he => List.mem_append_right _ he⟩) ?_
                refine Z.tnP 7 rfl rfl (by kernel_rfl) rfl trivial ?_
                refine Z.ZO.quiet rfl (by rfl) (Z.keepS hs) (Z.Yd.pickT rfl rfl) ?_
                refine Z.tkP (Dn := fun j => j != 24) (i := 7) (fun _ => ⟨_, hs, by first | (simp; done) | exact fun e he => List.mem_append_right _ he⟩) ?_
                refine Z.tnP 8 rfl rfl (by kernel_rfl) rfl trivial ?_
                refine Z.ZO.quiet rfl (by rfl) (Z.keepS hs) (Z.Yd.pure rfl) ?_
                refine Z.tkP (Dn := fun j => j != 24) (i := 8) (fun _ => ⟨_, hs, by first | (simp; done) | exact fun e he => List.mem_append_right _ he⟩) ?_
                refine Z.split (s := 51) rfl (fun hsp51 => ?_) (fun hsp51 => ?_)
                · first
                    | (exfalso; simp at hsp51 <;> omega)
                    | (
                      refine Z.yes (s := 51) (b := true) rfl hsp51 rfl ?_
                      (try simp at hsp51)
                      refine Z.yes (s := 45) (b := true) rfl rfl rfl ?_
                      refine Z.tnP 9 rfl rfl (by kernel_rfl) rfl (by exact ⟨rfl, trivial⟩) ?_
                      refine Z.ZO.quiet rfl (by rfl) (Z.keepS hs) (Z.Yd.pure rfl) ?_
                      refine Z.tkP (Dn := fun j => j != 24) (i := 9) (fun _ => ⟨_, hs, by first | (simp; done) | exact fun e he => List.mem_append_right _ he⟩) ?_
                      refine Z.tnP 10 rfl rfl (by kernel_rfl) rfl (by exact ⟨rfl, trivial⟩) ?_
                      refine Z.ZO.quiet rfl (by rfl) (Z.keepS hs) (Z.Yd.pure rfl) ?_
                      refine Z.tkP (Dn := fun j => j != 24) (i := 10) (fun _ => ⟨_, hs, by first | (simp; done) | exact fun e he => List.mem_append_right _ he⟩) ?_
                      refine Z.tnP 11 rfl rfl (by kernel_rfl) rfl (by exact ⟨rfl, trivial⟩) ?_
                      refine Z.ZO.quiet rfl (by rfl) (Z.keepS hs) (Z.Yd.pure rfl) ?_
                      refine Z.tkP (Dn := fun j => j != 24) (i := 11) (fun _ => ⟨_, hs, by first | (simp; done) | exact fun e he => List.mem_append_right _ he⟩) ?_
                      refine Z.split (s := 54) rfl (fun hsp54 => ?_) (fun hsp54 => ?_)
                      · first
                          | (exfalso; simp at hsp54 <;> omega)
                          | (
                            refine Z.yes (s := 54) (b := true) rfl hsp54 rfl ?_
                            (try simp at hsp54)
                            refine Z.yes (s := 45) (b := true) rfl rfl rfl ?_
                            refine Z.yes (s := 51) (b := true) rfl rfl rfl ?_
                            refine Z.tXD 12 [12, 13, 21, 22, 23, 24] (fun _ _ _ _ h => Z.leaves_put (by kernel_rfl) h) rfl rfl rfl (by rfl) (by kernel_rfl) ⟨_, hs, by first | (simp; done) | exact fun e he => List.mem_append_right _ he⟩ (Z.Yd.off (v := undef) 54 false rfl (by first | (simp; done) | (simp_all; done)) (by intro c h; cases h)) ?_
                            refine Z.tXD 13 [13, 21, 22, 23, 24] (fun _ _ _ _ h => Z.leaves_put (by kernel_rfl) h) rfl rfl rfl (by rfl) (by kernel_rfl) ⟨_, hs, by first | (simp; done) | exact fun e he => List.mem_append_right _ he⟩ (Z.Yd.off (v := undef) 54 false rfl (by first | (simp; done) | (simp_all; done)) (by intro c h; cases h)) ?_
                            refine Z.tXD 14 [14, 15, 18, 19, 21, 22, 23, 24] (fun _ _ _ _ h => Z.leaves_put (by kernel_rfl) h) rfl rfl rfl (by rfl) (by kernel_rfl) ⟨_, hs, by first | (simp; done) | exact fun e he => List.mem_append_right _ he⟩ (Z.Yd.off (v := undef) 54 false rfl (by first | (simp; done) | (simp_all; done)) (by intro c h; cases h)) ?_
                            refine Z.tXD 15 [15, 18, 19, 21, 22, 23, 24] (fun _ _ _ _ h => Z.leaves_put (by kernel_rfl) h) rfl rfl rfl (by rfl) (by kernel_rfl) ⟨_, hs, by first | (simp; done) | exact fun e he => List.mem_append_right _ he⟩ (Z.Yd.off (v := undef) 54 false rfl (by first | (simp; done) | (simp_all; done)) (by intro c h; cases h)) ?_
                            refine Z.tXD 16 [16, 17, 18, 19, 21, 22, 23, 24] (fun _ _ _ _ h => Z.leaves_put (by kernel_rfl) h) rfl rfl rfl (by rfl) (by kernel_rfl) ⟨_, hs, by first | (simp; done) | exact fun e he => List.mem_append_right _ he⟩ (Z.Yd.off (v := undef) 54 false rfl (by first | (simp; done) | (simp_all; done)) (by intro c h; cases h)) ?_
                            refine Z.tXD 17 [17, 18, 19, 21, 22, 23, 24] (fun _ _ _ _ h => Z.leaves_put (by kernel_rfl) h) rfl rfl rfl (by rfl) (by kernel_rfl) ⟨_, hs, by first | (simp; done) | exact fun e he => List.mem_append_right _ he⟩ (Z.Yd.off (v := undef) 54 false rfl (by first | (simp; done) | (simp_all; done)) (by intro c h; cases h)) ?_
                            refine Z.tXD 18 [18, 19, 21, 22, 23, 24] (fun _ _ _ _ h => Z.leaves_put (by kernel_rfl) h) rfl rfl rfl (by rfl) (by kernel_rfl) ⟨_, hs, by first | (simp; done) | exact fun e he => List.mem_append_right _ he⟩ (Z.Yd.off (v := undef) 54 false rfl (by first | (simp; done) | (simp_all; done)) (by intro c h; cases h)) ?_
                            refine Z.tXD 19 [19, 21, 22, 23, 24] (fun _ _ _ _ h => Z.leaves_put (by kernel_rfl) h) rfl rfl rfl (by rfl) (by kernel_rfl) ⟨_, hs, by first | (simp; done) | exact fun e he => List.mem_append_right _ he⟩ (Z.Yd.off (v := undef) 54 false rfl (by first | (simp; done) | (simp_all; done)) (by intro c h; cases h)) ?_
                            refine Z.yes (s := 45) (b := true) rfl rfl rfl ?_
                            refine Z.yes (s := 51) (b := true) rfl rfl rfl ?_
                            refine Z.yes (s := 54) (b := true) rfl rfl rfl ?_
                            refine Z.tnSPG 54 false 20 rfl rfl (by kernel_rfl) rfl rfl (by simp) rfl (by rfl) (fun _ => ⟨_, hs, by first | (simp; done) | exact fun e he => List.mem_append_right _ he⟩) ?_
                            refine Z.tnSPG 54 false 21 rfl rfl (by kernel_rfl) rfl rfl (by simp) rfl (by rfl) (fun _ => ⟨_, hs, by first | (simp; done) | exact fun e he => List.mem_append_right _ he⟩) ?_
                            refine Z.tnP 22 rfl rfl (by kernel_rfl) rfl (by exact ⟨rfl, trivial⟩) ?_
                            refine Z.ZO.quiet rfl (by rfl) (Z.keepS hs) (Z.Yd.pickT rfl rfl) ?_
                            refine Z.tkP (Dn := fun j => j != 24) (i := 22) (fun _ => ⟨_, hs, by first | (simp; done) | exact fun e he => List.mem_append_right _ he⟩) ?_
                            refine Z.tXD 23 [23, 24] (fun _ _ _ _ h => Z.leaves_put (by kernel_rfl) h) rfl rfl rfl (by rfl) (by kernel_rfl) ⟨_, hs, by first | (simp; done) | exact fun e he => List.mem_append_right _ he⟩ (Z.Yd.pickT rfl rfl) ?_
                            refine Z.tnP 24 rfl rfl (by kernel_rfl) rfl trivial ?_
                            refine Z.ZO.callB rfl rfl (by rfl) rfl rfl Try.call42 rfl (must_any _ 9 _) ?_ ?_
                            · skip
                              rintro v11_24 w11_24 ⟨hb11, rfl, hy⟩
                              replace hs := hs.call hy
                              clear hy
                              try simp only [List.cons_append, List.nil_append, List.append_nil] at hs
                              have h5 : acc.length < 512 := by first | omega | (simp at hb11 <;> omega)
                              have hok : okNext v1 acc (nkAt l a) = true := by
                                first
                                | (exfalso; simp at hb11 <;> omega)
                                | (unfold okNext; simp_all; done)
                              rw [if_pos hok] at hgo
                              refine Z.tkP (Dn := fun j => j != 24) (i := 24) (fun h => absurd h (by decide)) ?_
                              refine Z.tdP (by rfl) (by kernel_rfl) ?_
                              refine Z.only [2, 3, 4, 6, 7] rfl ?_
                              refine Z.nthen ?_
                              refine Z.region ?_
                              refine Z.l rfl rfl (by rfl) (Z.keepS hs) (Z.Yd.fieldA (m := 1) rfl (by kernel_rfl)) ?_
                              refine Z.l rfl rfl (by rfl) (Z.keepS hs) (by first | exact Z.Yd.load rfl Try.isAgg22 (fun _ => Z.cellB (by first | ((repeat (first | exact List.mem_cons_self | refine List.mem_cons_of_mem _ ?_ | refine List.mem_append_right _ ?_)); done) | fail) rfl) | exact Z.Yd.load rfl Try.isAgg22 (fun _ => Z.cellO (by assumption) (by simp) (by assumption)) | fail "load 12.1") ?_
                              refine Z.l rfl rfl (by rfl) (Z.keepS hs) (by first | exact Z.Yd.loadA _ rfl Try.isAgg45 (fun _ => Z.cellsB (by first | ((repeat (first | exact List.mem_cons_self | refine List.mem_cons_of_mem _ ?_ | refine List.mem_append_right _ ?_)); done) | fail)) (by exact Try.sizeOf45) | fail "load 12.2") ?_
                              refine Z.le rfl trivial ?_
                              refine Z.ZO.litL (T' := 45) [(0, 4)] [.int .i64 0, .bool false, .int .i64 0, .int .i64 0] rfl rfl (by rfl) rfl rfl (by intro W; kernel_rfl) hs ?_
                              clear hs; intro g71 w71 hs
                              refine Z.le rfl trivial ?_
                              refine Z.ZO.append (i0 := Try.t45) (size := 4) (bytes := 32) rfl rfl (by rfl) hs Try.underlying22 (by kernel_rfl) rfl rfl rfl rfl (by decide) rfl rfl (by first | exact SX.at0 | exact SX.at1 | exact SX.at2 | exact SX.at3 | exact SX.at4 | exact SX.at5 | exact Z.at6 | exact Z.at7 | exact Z.at8 | exact Z.at9 | exact Z.at10 | exact Z.at11 | exact Z.at12) (by first | exact SX.at0 | exact SX.at1 | exact SX.at2 | exact SX.at3 | exact SX.at4 | exact SX.at5 | exact Z.at6 | exact Z.at7 | exact Z.at8 | exact Z.at9 | exact Z.at10 | exact Z.at11 | exact Z.at12) (by first | rfl | simp) (by simp [Value.oneCell']) (by decide) (by unfold maxLen; omega) (by omega) ?_
                              clear hs; intro g72 cap72 w72 hs
                              simp only [List.set_cons_zero, List.set_cons_succ, List.eraseIdx_cons_zero, List.eraseIdx_cons_succ] at hs
                              refine Z.l rfl rfl (by rfl) (Z.keepS hs) (Z.Yd.fieldA (m := 1) rfl (by kernel_rfl)) ?_
                              refine Z.le rfl trivial ?_
                              first | refine Z.ZO.store rfl rfl hs Try.sizeOf22 rfl rfl rfl (by first | exact SX.at0 | exact SX.at1 | exact SX.at2 | exact SX.at3 | exact SX.at4 | exact SX.at5 | exact Z.at6 | exact Z.at7 | exact Z.at8 | exact Z.at9 | exact Z.at10 | exact Z.at11 | exact Z.at12) (by first | (simp; done) | (simp; omega)) ?_ | refine Z.ZO.storeR rfl rfl hs Try.sizeOf22 rfl rfl rfl (by first | exact SX.at0 | exact SX.at1 | exact SX.at2 | exact SX.at3 | exact SX.at4 | exact SX.at5 | exact Z.at6 | exact Z.at7 | exact Z.at8 | exact Z.at9 | exact Z.at10 | exact Z.at11 | exact Z.at12) (by first | omega | (simp [ints_length]; done) | (simp [ints_length]; omega)) ?_
                              clear hs; intro ws hs
                              simp only [Nat.zero_add, Nat.add_zero, Nat.reduceAdd, Int.reduceToNat, Nat.reduceMul, List.set_cons_zero, List.set_cons_succ, List.setIfInBounds_toArray] at hs
                              refine Z.lnil ?_
                              refine Z.only [2, 3, 4, 6] rfl ?_
                              refine Z.nblock ?_
                              refine Z.nthen ?_
                              have el : (acc ++ [nkAt l a]).length = acc.length + 1 := by simp
                              have hi1 : (if moreAt l a = true then 1 else 0) ≤ 1 := by split <;> omega
                              have ef : (acc ++ [nkAt l a]).flatMap NkV.cells = acc.flatMap NkV.cells ++ (nkAt l a).cells := by simp
                              exact Z.again (nkA l a, acc ++ [nkAt l a], _, moreAt l a) (by refine ⟨?_, ?_, ?_, ?_, trivial⟩ <;> (first | rfl | (refine Z.lookv rfl ?_; simp; done) | (refine Z.lookv rfl ?_; simp; omega))) ⟨⟨by simp only; omega, by simp only; omega, f, by simp only; omega, hgo⟩, by rw [el, ef]; exact hs.sel [0, 1, 3, 4, 5, 6] (by decide)⟩ (by simp only; omega)
                            · skip
                              rintro c11_24 w11_24 ⟨hb11, rfl, hy⟩
                              replace hs := hs.call hy
                              clear hy
                              try simp only [List.cons_append, List.nil_append, List.append_nil] at hs
                              have hok : okNext v1 acc (nkAt l a) = false := by
                                unfold okNext
                                first
                                | (have h5 : ¬ acc.length < 512 := by omega
                                   simp [h5]; done)
                                | (have h5 : acc.length < 512 := by omega
                                   simp_all; done)
                              rw [if_neg (by rw [hok]; decide)] at hgo
                              subst hgo
                              replace hs := hs.sel [5, 6] (by decide)
                              repeat (first | refine Z.pthen ?_ | refine Z.pblock ?_ | refine Z.pscope ?_)
                              -- ret#0
                              refine Z.outDp Try.call38 (dec1_pan g2 g3 _ _ _ _ _ _ _ (hs.lend (L2 := []))) ?_
                              rintro vD wD ⟨rfl, hz⟩
                              replace hs := hs.regain (L2 := []) hz
                              refine ⟨[_, _], (by exact ⟨⟨_, rfl, Z.rvcA hs Try.isAgg24 (by first | ((repeat (first | exact List.mem_cons_self | refine List.mem_cons_of_mem _ ?_ | refine List.mem_append_right _ ?_)); done) | fail) (by exact Try.sizeOf24)⟩, ⟨_, rfl, Z.rvc hs Try.isAgg27 (by first | ((repeat (first | exact List.mem_cons_self | refine List.mem_cons_of_mem _ ?_ | refine List.mem_append_right _ ?_)); done) | fail) rfl⟩, trivial⟩), ?_⟩
                              exact ⟨_, rfl, Dec.zero (hs.sub (List.nil_sublist _))⟩
                            )
                      · first
                          | (exfalso; simp at hsp54 <;> omega)
                          | (
                            refine Z.yes (s := 54) (b := false) rfl hsp54 rfl ?_
                            (try simp at hsp54)
                            have hne : acc.length ≠ 0 := by intro h0; simp_all
                            obtain ⟨p, hp⟩ := last_at hne
                            obtain ⟨ga, ca2, e2, -, -⟩ := row_form (j := 3) hs rfl (Nat.pos_of_ne_zero hne)
                            cases e2
                            have hk1 : ((acc.length : Int) - 1) = ((acc.length - 1 : Nat) : Int) := by omega
                            refine Z.yes (s := 45) (b := true) rfl rfl rfl ?_
                            refine Z.yes (s := 51) (b := true) rfl rfl rfl ?_
                            refine Z.tXD 12 [12, 13, 21, 22, 23, 24] (fun _ _ _ _ h => Z.leaves_put (by kernel_rfl) h) rfl rfl rfl (by rfl) (by kernel_rfl) ⟨_, hs, by first | (simp; done) | exact fun e he => List.mem_append_right _ he⟩ (Z.Yd.fieldA (m := 0) rfl (by kernel_rfl)) ?_
                            refine Z.tXD 13 [13, 21, 22, 23, 24] (fun _ _ _ _ h => Z.leaves_put (by kernel_rfl) h) rfl rfl rfl (by rfl) (by kernel_rfl) ⟨_, hs, by first | (simp; done) | exact fun e he => List.mem_append_right _ he⟩ (by first | exact Z.Yd.load rfl Try.isAgg3 (fun _ => Z.cellB (by first | ((repeat (first | exact List.mem_cons_self | refine List.mem_cons_of_mem _ ?_ | refine List.mem_append_right _ ?_)); done) | fail) rfl) | exact Z.Yd.load rfl Try.isAgg3 (fun _ => Z.cellO (by assumption) (by simp) (by assumption)) | fail "load 11.13") ?_
                            refine Z.tXD 14 [14, 15, 18, 19, 21, 22, 23, 24] (fun _ _ _ _ h => Z.leaves_put (by kernel_rfl) h) rfl rfl rfl (by rfl) (by kernel_rfl) ⟨_, hs, by first | (simp; done) | exact fun e he => List.mem_append_right _ he⟩ (Z.Yd.fieldA (m := 1) rfl (by kernel_rfl)) ?_
                            refine Z.tXD 15 [15, 18, 19, 21, 22, 23, 24] (fun _ _ _ _ h => Z.leaves_put (by kernel_rfl) h) rfl rfl rfl (by rfl) (by kernel_rfl) ⟨_, hs, by first | (simp; done) | exact fun e he => List.mem_append_right _ he⟩ (by first | exact Z.Yd.load rfl Try.isAgg22 (fun _ => Z.cellB (by first | ((repeat (first | exact List.mem_cons_self | refine List.mem_cons_of_mem _ ?_ | refine List.mem_append_right _ ?_)); done) | fail) rfl) | exact Z.Yd.load rfl Try.isAgg22 (fun _ => Z.cellO (by assumption) (by simp) (by assumption)) | fail "load 11.15") ?_
                            refine Z.tXD 16 [16, 17, 18, 19, 21, 22, 23, 24] (fun _ _ _ _ h => Z.leaves_put (by kernel_rfl) h) rfl rfl rfl (by rfl) (by kernel_rfl) ⟨_, hs, by first | (simp; done) | exact fun e he => List.mem_append_right _ he⟩ (Z.Yd.pure rfl) ?_
                            refine Z.tXD 17 [17, 18, 19, 21, 22, 23, 24] (fun _ _ _ _ h => Z.leaves_put (by kernel_rfl) h) rfl rfl rfl (by rfl) (by kernel_rfl) ⟨_, hs, by first | (simp; done) | exact fun e he => List.mem_append_right _ he⟩ (Z.Yd.sub rfl rfl (fun hG => Z.wi64 (by first | omega | (have hG' := Z.gh rfl hG; simp at hG'; omega)))) ?_
                            refine Z.tXD 18 [18, 19, 21, 22, 23, 24] (fun _ _ _ _ h => Z.leaves_put (by kernel_rfl) h) rfl rfl rfl (by rfl) (by kernel_rfl) ⟨_, hs, by first | (simp; done) | exact fun e he => List.mem_append_right _ he⟩ (Z.Yd.elem rfl rfl Try.underlying22 Try.sizeOf45 (fun hG => ⟨(by first | omega | (have hG' := Z.gh rfl hG; simp at hG'; omega)), (by first | omega | (have hG' := Z.gh rfl hG; simp at hG'; omega))⟩)) ?_
                            refine Z.tXD 19 [19, 21, 22, 23, 24] (fun _ _ _ _ h => Z.leaves_put (by kernel_rfl) h) rfl rfl rfl (by rfl) (by kernel_rfl) ⟨_, hs, by first | (simp; done) | exact fun e he => List.mem_append_right _ he⟩ (Z.Yd.loadA _ rfl Try.isAgg45 (fun _ => hk1 ▸ Z.cellsRf (by first | ((repeat (first | exact List.mem_cons_self | refine List.mem_cons_of_mem _ ?_ | refine List.mem_append_right _ ?_)); done) | fail) nk_len hp rfl) (by exact Try.sizeOf45)) ?_
                            refine Z.yes (s := 45) (b := true) rfl rfl rfl ?_
                            refine Z.yes (s := 51) (b := true) rfl rfl rfl ?_
                            refine Z.yes (s := 54) (b := false) rfl rfl rfl ?_
                            refine Z.tnP 20 rfl rfl (by kernel_rfl) rfl (by exact ⟨rfl, trivial⟩) ?_
                            refine Z.ZO.quiet rfl (by rfl) (Z.keepS hs) (Z.Yd.loadA _ rfl Try.isAgg45 (fun _ => Z.cellsB (cs := (nkAt l a).cells) (by first | ((repeat (first | exact List.mem_cons_self | refine List.mem_cons_of_mem _ ?_ | refine List.mem_append_right _ ?_)); done) | fail)) (by exact Try.sizeOf45)) ?_
                            refine Z.tkP (Dn := fun j => j != 24) (i := 20) (fun _ => ⟨_, hs, by first | (simp; done) | exact fun e he => List.mem_append_right _ he⟩) ?_
                            refine Z.tnP 21 rfl rfl (by kernel_rfl) rfl (by exact ⟨rfl, trivial⟩) ?_
                            refine Z.ZO.call rfl rfl (by rfl) rfl rfl Try.call34 rfl (follows_any v1 p (nkAt l a) _) ?_
                            rintro v11_21 w11_21 ⟨rfl, hy⟩
                            replace hs := hs.call hy
                            clear hy
                            try simp only [List.cons_append, List.nil_append, List.append_nil] at hs
                            refine Z.tkP (Dn := fun j => j != 24) (i := 21) (fun _ => ⟨_, hs, by first | (simp; done) | exact fun e he => List.mem_append_right _ he⟩) ?_
                            refine Z.tnP 22 rfl rfl (by kernel_rfl) rfl (by exact ⟨rfl, trivial⟩) ?_
                            refine Z.ZO.quiet rfl (by rfl) (Z.keepS hs) (Z.Yd.pickF rfl rfl) ?_
                            refine Z.tkP (Dn := fun j => j != 24) (i := 22) (fun _ => ⟨_, hs, by first | (simp; done) | exact fun e he => List.mem_append_right _ he⟩) ?_
                            refine Z.tXD 23 [23, 24] (fun _ _ _ _ h => Z.leaves_put (by kernel_rfl) h) rfl rfl rfl (by rfl) (by kernel_rfl) ⟨_, hs, by first | (simp; done) | exact fun e he => List.mem_append_right _ he⟩ (Z.Yd.pickT rfl rfl) ?_
                            refine Z.tnP 24 rfl rfl (by kernel_rfl) rfl trivial ?_
                            refine Z.ZO.callB rfl rfl (by rfl) rfl rfl Try.call42 rfl (must_any _ 9 _) ?_ ?_
                            · skip
                              rintro v11_24 w11_24 ⟨hb11, rfl, hy⟩
                              replace hs := hs.call hy
                              clear hy
                              try simp only [List.cons_append, List.nil_append, List.append_nil] at hs
                              have h5 : acc.length < 512 := by first | omega | (simp at hb11 <;> omega)
                              have hok : okNext v1 acc (nkAt l a) = true := by
                                first
                                | (exfalso; simp at hb11 <;> omega)
                                | (unfold okNext; simp_all; done)
                              rw [if_pos hok] at hgo
                              refine Z.tkP (Dn := fun j => j != 24) (i := 24) (fun h => absurd h (by decide)) ?_
                              refine Z.tdP (by rfl) (by kernel_rfl) ?_
                              refine Z.only [2, 3, 4, 6, 7] rfl ?_
                              refine Z.nthen ?_
                              refine Z.region ?_
                              refine Z.l rfl rfl (by rfl) (Z.keepS hs) (Z.Yd.fieldA (m := 1) rfl (by kernel_rfl)) ?_
                              refine Z.l rfl rfl (by rfl) (Z.keepS hs) (by first | exact Z.Yd.load rfl Try.isAgg22 (fun _ => Z.cellB (by first | ((repeat (first | exact List.mem_cons_self | refine List.mem_cons_of_mem _ ?_ | refine List.mem_append_right _ ?_)); done) | fail) rfl) | exact Z.Yd.load rfl Try.isAgg22 (fun _ => Z.cellO (by assumption) (by simp) (by assumption)) | fail "load 12.1") ?_
                              refine Z.l rfl rfl (by rfl) (Z.keepS hs) (by first | exact Z.Yd.loadA _ rfl Try.isAgg45 (fun _ => Z.cellsB (by first | ((repeat (first | exact List.mem_cons_self | refine List.mem_cons_of_mem _ ?_ | refine List.mem_append_right _ ?_)); done) | fail)) (by exact Try.sizeOf45) | fail "load 12.2") ?_
                              refine Z.le rfl trivial ?_
                              refine Z.ZO.litL (T' := 45) [(0, 4)] [.int .i64 0, .bool false, .int .i64 0, .int .i64 0] rfl rfl (by rfl) rfl rfl (by intro W; kernel_rfl) hs ?_
                              clear hs; intro g71 w71 hs
                              refine Z.le rfl trivial ?_
                              refine Z.ZO.append (i0 := Try.t45) (size := 4) (bytes := 32) rfl rfl (by rfl) hs Try.underlying22 (by kernel_rfl) rfl rfl rfl rfl (by decide) rfl rfl (by first | exact SX.at0 | exact SX.at1 | exact SX.at2 | exact SX.at3 | exact SX.at4 | exact SX.at5 | exact Z.at6 | exact Z.at7 | exact Z.at8 | exact Z.at9 | exact Z.at10 | exact Z.at11 | exact Z.at12) (by first | exact SX.at0 | exact SX.at1 | exact SX.at2 | exact SX.at3 | exact SX.at4 | exact SX.at5 | exact Z.at6 | exact Z.at7 | exact Z.at8 | exact Z.at9 | exact Z.at10 | exact Z.at11 | exact Z.at12) (by first | rfl | simp) (by simp [Value.oneCell']) (by decide) (by unfold maxLen; omega) (by omega) ?_
                              clear hs; intro g72 cap72 w72 hs
                              simp only [List.set_cons_zero, List.set_cons_succ, List.eraseIdx_cons_zero, List.eraseIdx_cons_succ] at hs
                              refine Z.l rfl rfl (by rfl) (Z.keepS hs) (Z.Yd.fieldA (m := 1) rfl (by kernel_rfl)) ?_
                              refine Z.le rfl trivial ?_
                              first | refine Z.ZO.store rfl rfl hs Try.sizeOf22 rfl rfl rfl (by first | exact SX.at0 | exact SX.at1 | exact SX.at2 | exact SX.at3 | exact SX.at4 | exact SX.at5 | exact Z.at6 | exact Z.at7 | exact Z.at8 | exact Z.at9 | exact Z.at10 | exact Z.at11 | exact Z.at12) (by first | (simp; done) | (simp; omega)) ?_ | refine Z.ZO.storeR rfl rfl hs Try.sizeOf22 rfl rfl rfl (by first | exact SX.at0 | exact SX.at1 | exact SX.at2 | exact SX.at3 | exact SX.at4 | exact SX.at5 | exact Z.at6 | exact Z.at7 | exact Z.at8 | exact Z.at9 | exact Z.at10 | exact Z.at11 | exact Z.at12) (by first | omega | (simp [ints_length]; done) | (simp [ints_length]; omega)) ?_
                              clear hs; intro ws hs
                              simp only [Nat.zero_add, Nat.add_zero, Nat.reduceAdd, Int.reduceToNat, Nat.reduceMul, List.set_cons_zero, List.set_cons_succ, List.setIfInBounds_toArray] at hs
                              refine Z.lnil ?_
                              refine Z.only [2, 3, 4, 6] rfl ?_
                              refine Z.nblock ?_
                              refine Z.nthen ?_
                              have el : (acc ++ [nkAt l a]).length = acc.length + 1 := by simp
                              have hi1 : (if moreAt l a = true then 1 else 0) ≤ 1 := by split <;> omega
                              have ef : (acc ++ [nkAt l a]).flatMap NkV.cells = acc.flatMap NkV.cells ++ (nkAt l a).cells := by simp
                              exact Z.again (nkA l a, acc ++ [nkAt l a], _, moreAt l a) (by refine ⟨?_, ?_, ?_, ?_, trivial⟩ <;> (first | rfl | (refine Z.lookv rfl ?_; simp; done) | (refine Z.lookv rfl ?_; simp; omega))) ⟨⟨by simp only; omega, by simp only; omega, f, by simp only; omega, hgo⟩, by rw [el, ef]; exact hs.sel [0, 1, 3, 4, 5, 6] (by decide)⟩ (by simp only; omega)
                            · skip
                              rintro c11_24 w11_24 ⟨hb11, rfl, hy⟩
                              replace hs := hs.call hy
                              clear hy
                              try simp only [List.cons_append, List.nil_append, List.append_nil] at hs
                              have hok : okNext v1 acc (nkAt l a) = false := by
                                unfold okNext
                                first
                                | (have h5 : ¬ acc.length < 512 := by omega
                                   simp [h5]; done)
                                | (have h5 : acc.length < 512 := by omega
                                   simp_all; done)
                              rw [if_neg (by rw [hok]; decide)] at hgo
                              subst hgo
                              replace hs := hs.sel [5, 6] (by decide)
                              repeat (first | refine Z.pthen ?_ | refine Z.pblock ?_ | refine Z.pscope ?_)
                              -- ret#1
                              refine Z.outDp Try.call38 (dec1_pan g2 g3 _ _ _ _ _ _ _ (hs.lend (L2 := []))) ?_
                              rintro vD wD ⟨rfl, hz⟩
                              replace hs := hs.regain (L2 := []) hz
                              refine ⟨[_, _], (by exact ⟨⟨_, rfl, Z.rvcA hs Try.isAgg24 (by first | ((repeat (first | exact List.mem_cons_self | refine List.mem_cons_of_mem _ ?_ | refine List.mem_append_right _ ?_)); done) | fail) (by exact Try.sizeOf24)⟩, ⟨_, rfl, Z.rvc hs Try.isAgg27 (by first | ((repeat (first | exact List.mem_cons_self | refine List.mem_cons_of_mem _ ?_ | refine List.mem_append_right _ ?_)); done) | fail) rfl⟩, trivial⟩), ?_⟩
                              exact ⟨_, rfl, Dec.zero (hs.sub (List.nil_sublist _))⟩
                            )
                      )
                · first
                    | (exfalso; simp at hsp51 <;> omega)
                    | (
                      refine Z.yes (s := 51) (b := false) rfl hsp51 rfl ?_
                      (try simp at hsp51)
                      refine Z.yes (s := 45) (b := true) rfl rfl rfl ?_
                      refine Z.tnSPG 51 true 9 rfl rfl (by kernel_rfl) rfl rfl (by simp) rfl (by rfl) (fun _ => ⟨_, hs, by first | (simp; done) | exact fun e he => List.mem_append_right _ he⟩) ?_
                      refine Z.tnSPG 51 true 10 rfl rfl (by kernel_rfl) rfl rfl (by simp) rfl (by rfl) (fun _ => ⟨_, hs, by first | (simp; done) | exact fun e he => List.mem_append_right _ he⟩) ?_
                      refine Z.tnSPG 51 true 11 rfl rfl (by kernel_rfl) rfl rfl (by simp) rfl (by rfl) (fun _ => ⟨_, hs, by first | (simp; done) | exact fun e he => List.mem_append_right _ he⟩) ?_
                      refine Z.tXD 12 [12, 13, 21, 22, 23, 24] (fun _ _ _ _ h => Z.leaves_put (by kernel_rfl) h) rfl rfl rfl (by rfl) (by kernel_rfl) ⟨_, hs, by first | (simp; done) | exact fun e he => List.mem_append_right _ he⟩ (Z.Yd.off (v := undef) 51 true rfl (by first | (simp; done) | (simp_all; done)) (by intro c h; cases h)) ?_
                      refine Z.tXD 13 [13, 21, 22, 23, 24] (fun _ _ _ _ h => Z.leaves_put (by kernel_rfl) h) rfl rfl rfl (by rfl) (by kernel_rfl) ⟨_, hs, by first | (simp; done) | exact fun e he => List.mem_append_right _ he⟩ (Z.Yd.off (v := undef) 51 true rfl (by first | (simp; done) | (simp_all; done)) (by intro c h; cases h)) ?_
                      refine Z.tXD 14 [14, 15, 18, 19, 21, 22, 23, 24] (fun _ _ _ _ h => Z.leaves_put (by kernel_rfl) h) rfl rfl rfl (by rfl) (by kernel_rfl) ⟨_, hs, by first | (simp; done) | exact fun e he => List.mem_append_right _ he⟩ (Z.Yd.off (v := undef) 51 true rfl (by first | (simp; done) | (simp_all; done)) (by intro c h; cases h)) ?_
                      refine Z.tXD 15 [15, 18, 19, 21, 22, 23, 24] (fun _ _ _ _ h => Z.leaves_put (by kernel_rfl) h) rfl rfl rfl (by rfl) (by kernel_rfl) ⟨_, hs, by first | (simp; done) | exact fun e he => List.mem_append_right _ he⟩ (Z.Yd.off (v := undef) 51 true rfl (by first | (simp; done) | (simp_all; done)) (by intro c h; cases h)) ?_
                      refine Z.tXD 16 [16, 17, 18, 19, 21, 22, 23, 24] (fun _ _ _ _ h => Z.leaves_put (by kernel_rfl) h) rfl rfl rfl (by rfl) (by kernel_rfl) ⟨_, hs, by first | (simp; done) | exact fun e he => List.mem_append_right _ he⟩ (Z.Yd.off (v := undef) 51 true rfl (by first | (simp; done) | (simp_all; done)) (by intro c h; cases h)) ?_
                      refine Z.tXD 17 [17, 18, 19, 21, 22, 23, 24] (fun _ _ _ _ h => Z.leaves_put (by kernel_rfl) h) rfl rfl rfl (by rfl) (by kernel_rfl) ⟨_, hs, by first | (simp; done) | exact fun e he => List.mem_append_right _ he⟩ (Z.Yd.off (v := undef) 51 true rfl (by first | (simp; done) | (simp_all; done)) (by intro c h; cases h)) ?_
                      refine Z.tXD 18 [18, 19, 21, 22, 23, 24] (fun _ _ _ _ h => Z.leaves_put (by kernel_rfl) h) rfl rfl rfl (by rfl) (by kernel_rfl) ⟨_, hs, by first | (simp; done) | exact fun e he => List.mem_append_right _ he⟩ (Z.Yd.off (v := undef) 51 true rfl (by first | (simp; done) | (simp_all; done)) (by intro c h; cases h)) ?_
                      refine Z.tXD 19 [19, 21, 22, 23, 24] (fun _ _ _ _ h => Z.leaves_put (by kernel_rfl) h) rfl rfl rfl (by rfl) (by kernel_rfl) ⟨_, hs, by first | (simp; done) | exact fun e he => List.mem_append_right _ he⟩ (Z.Yd.off (v := undef) 51 true rfl (by first | (simp; done) | (simp_all; done)) (by intro c h; cases h)) ?_
                      refine Z.tnSPG 51 true 20 rfl rfl (by kernel_rfl) rfl rfl (by simp) rfl (by rfl) (fun _ => ⟨_, hs, by first | (simp; done) | exact fun e he => List.mem_append_right _ he⟩) ?_
                      refine Z.tnSPG 51 true 21 rfl rfl (by kernel_rfl) rfl rfl (by simp) rfl (by rfl) (fun _ => ⟨_, hs, by first | (simp; done) | exact fun e he => List.mem_append_right _ he⟩) ?_
                      refine Z.tnSPG 51 true 22 rfl rfl (by kernel_rfl) rfl rfl (by simp) rfl (by rfl) (fun _ => ⟨_, hs, by first | (simp; done) | exact fun e he => List.mem_append_right _ he⟩) ?_
                      refine Z.tXD 23 [23, 24] (fun _ _ _ _ h => Z.leaves_put (by kernel_rfl) h) rfl rfl rfl (by rfl) (by kernel_rfl) ⟨_, hs, by first | (simp; done) | exact fun e he => List.mem_append_right _ he⟩ (Z.Yd.pickF rfl rfl) ?_
                      refine Z.tnP 24 rfl rfl (by kernel_rfl) rfl trivial ?_
                      refine Z.ZO.callB rfl rfl (by rfl) rfl rfl Try.call42 rfl (must_any _ 9 _) ?_ ?_
                      · skip
                        rintro v11_24 w11_24 ⟨hb11, rfl, hy⟩
                        replace hs := hs.call hy
                        clear hy
                        try simp only [List.cons_append, List.nil_append, List.append_nil] at hs
                        have h5 : acc.length < 512 := by first | omega | (simp at hb11 <;> omega)
                        have hok : okNext v1 acc (nkAt l a) = true := by
                          first
                          | (exfalso; simp at hb11 <;> omega)
                          | (unfold okNext; simp_all; done)
                        rw [if_pos hok] at hgo
                        refine Z.tkP (Dn := fun j => j != 24) (i := 24) (fun h => absurd h (by decide)) ?_
                        refine Z.tdP (by rfl) (by kernel_rfl) ?_
                        refine Z.only [2, 3, 4, 6, 7] rfl ?_
                        refine Z.nthen ?_
                        refine Z.region ?_
                        refine Z.l rfl rfl (by rfl) (Z.keepS hs) (Z.Yd.fieldA (m := 1) rfl (by kernel_rfl)) ?_
                        refine Z.l rfl rfl (by rfl) (Z.keepS hs) (by first | exact Z.Yd.load rfl Try.isAgg22 (fun _ => Z.cellB (by first | ((repeat (first | exact List.mem_cons_self | refine List.mem_cons_of_mem _ ?_ | refine List.mem_append_right _ ?_)); done) | fail) rfl) | exact Z.Yd.load rfl Try.isAgg22 (fun _ => Z.cellO (by assumption) (by simp) (by assumption)) | fail "load 12.1") ?_
                        refine Z.l rfl rfl (by rfl) (Z.keepS hs) (by first | exact Z.Yd.loadA _ rfl Try.isAgg45 (fun _ => Z.cellsB (by first | ((repeat (first | exact List.mem_cons_self | refine List.mem_cons_of_mem _ ?_ | refine List.mem_append_right _ ?_)); done) | fail)) (by exact Try.sizeOf45) | fail "load 12.2") ?_
                        refine Z.le rfl trivial ?_
                        refine Z.ZO.litL (T' := 45) [(0, 4)] [.int .i64 0, .bool false, .int .i64 0, .int .i64 0] rfl rfl (by rfl) rfl rfl (by intro W; kernel_rfl) hs ?_
                        clear hs; intro g71 w71 hs
                        refine Z.le rfl trivial ?_
                        refine Z.ZO.append (i0 := Try.t45) (size := 4) (bytes := 32) rfl rfl (by rfl) hs Try.underlying22 (by kernel_rfl) rfl rfl rfl rfl (by decide) rfl rfl (by first | exact SX.at0 | exact SX.at1 | exact SX.at2 | exact SX.at3 | exact SX.at4 | exact SX.at5 | exact Z.at6 | exact Z.at7 | exact Z.at8 | exact Z.at9 | exact Z.at10 | exact Z.at11 | exact Z.at12) (by first | exact SX.at0 | exact SX.at1 | exact SX.at2 | exact SX.at3 | exact SX.at4 | exact SX.at5 | exact Z.at6 | exact Z.at7 | exact Z.at8 | exact Z.at9 | exact Z.at10 | exact Z.at11 | exact Z.at12) (by first | rfl | simp) (by simp [Value.oneCell']) (by decide) (by unfold maxLen; omega) (by omega) ?_
                        clear hs; intro g72 cap72 w72 hs
                        simp only [List.set_cons_zero, List.set_cons_succ, List.eraseIdx_cons_zero, List.eraseIdx_cons_succ] at hs
                        refine Z.l rfl rfl (by rfl) (Z.keepS hs) (Z.Yd.fieldA (m := 1) rfl (by kernel_rfl)) ?_
                        refine Z.le rfl trivial ?_
                        first | refine Z.ZO.store rfl rfl hs Try.sizeOf22 rfl rfl rfl (by first | exact SX.at0 | exact SX.at1 | exact SX.at2 | exact SX.at3 | exact SX.at4 | exact SX.at5 | exact Z.at6 | exact Z.at7 | exact Z.at8 | exact Z.at9 | exact Z.at10 | exact Z.at11 | exact Z.at12) (by first | (simp; done) | (simp; omega)) ?_ | refine Z.ZO.storeR rfl rfl hs Try.sizeOf22 rfl rfl rfl (by first | exact SX.at0 | exact SX.at1 | exact SX.at2 | exact SX.at3 | exact SX.at4 | exact SX.at5 | exact Z.at6 | exact Z.at7 | exact Z.at8 | exact Z.at9 | exact Z.at10 | exact Z.at11 | exact Z.at12) (by first | omega | (simp [ints_length]; done) | (simp [ints_length]; omega)) ?_
                        clear hs; intro ws hs
                        simp only [Nat.zero_add, Nat.add_zero, Nat.reduceAdd, Int.reduceToNat, Nat.reduceMul, List.set_cons_zero, List.set_cons_succ, List.setIfInBounds_toArray] at hs
                        refine Z.lnil ?_
                        refine Z.only [2, 3, 4, 6] rfl ?_
                        refine Z.nblock ?_
                        refine Z.nthen ?_
                        have el : (acc ++ [nkAt l a]).length = acc.length + 1 := by simp
                        have hi1 : (if moreAt l a = true then 1 else 0) ≤ 1 := by split <;> omega
                        have ef : (acc ++ [nkAt l a]).flatMap NkV.cells = acc.flatMap NkV.cells ++ (nkAt l a).cells := by simp
                        exact Z.again (nkA l a, acc ++ [nkAt l a], _, moreAt l a) (by refine ⟨?_, ?_, ?_, ?_, trivial⟩ <;> (first | rfl | (refine Z.lookv rfl ?_; simp; done) | (refine Z.lookv rfl ?_; simp; omega))) ⟨⟨by simp only; omega, by simp only; omega, f, by simp only; omega, hgo⟩, by rw [el, ef]; exact hs.sel [0, 1, 3, 4, 5, 6] (by decide)⟩ (by simp only; omega)
                      · skip
                        rintro c11_24 w11_24 ⟨hb11, rfl, hy⟩
                        replace hs := hs.call hy
                        clear hy
                        try simp only [List.cons_append, List.nil_append, List.append_nil] at hs
                        have hok : okNext v1 acc (nkAt l a) = false := by
                          unfold okNext
                          first
                          | (have h5 : ¬ acc.length < 512 := by omega
                             simp [h5]; done)
                          | (have h5 : acc.length < 512 := by omega
                             simp_all; done)
                        rw [if_neg (by rw [hok]; decide)] at hgo
                        subst hgo
                        replace hs := hs.sel [5, 6] (by decide)
                        repeat (first | refine Z.pthen ?_ | refine Z.pblock ?_ | refine Z.pscope ?_)
                        -- ret#2
                        refine Z.outDp Try.call38 (dec1_pan g2 g3 _ _ _ _ _ _ _ (hs.lend (L2 := []))) ?_
                        rintro vD wD ⟨rfl, hz⟩
                        replace hs := hs.regain (L2 := []) hz
                        refine ⟨[_, _], (by exact ⟨⟨_, rfl, Z.rvcA hs Try.isAgg24 (by first | ((repeat (first | exact List.mem_cons_self | refine List.mem_cons_of_mem _ ?_ | refine List.mem_append_right _ ?_)); done) | fail) (by exact Try.sizeOf24)⟩, ⟨_, rfl, Z.rvc hs Try.isAgg27 (by first | ((repeat (first | exact List.mem_cons_self | refine List.mem_cons_of_mem _ ?_ | refine List.mem_append_right _ ?_)); done) | fail) rfl⟩, trivial⟩), ?_⟩
                        exact ⟨_, rfl, Dec.zero (hs.sub (List.nil_sublist _))⟩
                      )
                )
          · first
              | (exfalso; simp at hsp45 <;> omega)
              | (
                refine Z.yes (s := 45) (b := false) rfl hsp45 rfl ?_
                (try simp at hsp45)
                refine Z.tXD 3 [3, 4, 6, 7, 8, 9, 10, 11, 12, 13, 14, 15, 16, 17, 18, 19, 20, 21, 22, 23, 24] (fun _ _ _ _ h => Z.leaves_put (by kernel_rfl) h) rfl rfl rfl (by rfl) (by kernel_rfl) ⟨_, hs, by first | (simp; done) | exact fun e he => List.mem_append_right _ he⟩ (Z.Yd.off (v := undef) 45 true rfl (by first | (simp; done) | (simp_all; done)) (by intro c h; cases h)) ?_
                refine Z.tXD 4 [4, 6, 7, 8, 9, 10, 11, 12, 13, 14, 15, 16, 17, 18, 19, 20, 21, 22, 23, 24] (fun _ _ _ _ h => Z.leaves_put (by kernel_rfl) h) rfl rfl rfl (by rfl) (by kernel_rfl) ⟨_, hs, by first | (simp; done) | exact fun e he => List.mem_append_right _ he⟩ (Z.Yd.off (v := undef) 45 true rfl (by first | (simp; done) | (simp_all; done)) (by intro c h; cases h)) ?_
                refine Z.yes (s := 45) (b := false) rfl rfl rfl ?_
                refine Z.tnSPG 45 true 5 rfl rfl (by kernel_rfl) rfl rfl (by simp) rfl (by rfl) (fun _ => ⟨_, hs, by first | (simp; done) | exact fun e he => List.mem_append_right _ he⟩) ?_
                refine Z.tnSPG 45 true 6 rfl rfl (by kernel_rfl) rfl rfl (by simp) rfl (by rfl) (fun _ => ⟨_, hs, by first | (simp; done) | exact fun e he => List.mem_append_right _ he⟩) ?_
                refine Z.tnP 7 rfl rfl (by kernel_rfl) rfl trivial ?_
                refine Z.ZO.quiet rfl (by rfl) (Z.keepS hs) (Z.Yd.pickF rfl rfl) ?_
                refine Z.tkP (Dn := fun j => j != 24) (i := 7) (fun _ => ⟨_, hs, by first | (simp; done) | exact fun e he => List.mem_append_right _ he⟩) ?_
                refine Z.tnP 8 rfl rfl (by kernel_rfl) rfl trivial ?_
                refine Z.ZO.quiet rfl (by rfl) (Z.keepS hs) (Z.Yd.pure rfl) ?_
                refine Z.tkP (Dn := fun j => j != 24) (i := 8) (fun _ => ⟨_, hs, by first | (simp; done) | exact fun e he => List.mem_append_right _ he⟩) ?_
                refine Z.split (s := 51) rfl (fun hsp51 => ?_) (fun hsp51 => ?_)
                · first
                    | (exfalso; simp at hsp51 <;> omega)
                    | (
                      refine Z.yes (s := 51) (b := true) rfl hsp51 rfl ?_
                      (try simp at hsp51)
                      refine Z.yes (s := 45) (b := false) rfl rfl rfl ?_
                      refine Z.tnP 9 rfl rfl (by kernel_rfl) rfl (by exact ⟨rfl, trivial⟩) ?_
                      refine Z.ZO.quiet rfl (by rfl) (Z.keepS hs) (Z.Yd.pure rfl) ?_
                      refine Z.tkP (Dn := fun j => j != 24) (i := 9) (fun _ => ⟨_, hs, by first | (simp; done) | exact fun e he => List.mem_append_right _ he⟩) ?_
                      refine Z.tnP 10 rfl rfl (by kernel_rfl) rfl (by exact ⟨rfl, trivial⟩) ?_
                      refine Z.ZO.quiet rfl (by rfl) (Z.keepS hs) (Z.Yd.pure rfl) ?_
                      refine Z.tkP (Dn := fun j => j != 24) (i := 10) (fun _ => ⟨_, hs, by first | (simp; done) | exact fun e he => List.mem_append_right _ he⟩) ?_
                      refine Z.tnP 11 rfl rfl (by kernel_rfl) rfl (by exact ⟨rfl, trivial⟩) ?_
                      refine Z.ZO.quiet rfl (by rfl) (Z.keepS hs) (Z.Yd.pure rfl) ?_
                      refine Z.tkP (Dn := fun j => j != 24) (i := 11) (fun _ => ⟨_, hs, by first | (simp; done) | exact fun e he => List.mem_append_right _ he⟩) ?_
                      refine Z.split (s := 54) rfl (fun hsp54 => ?_) (fun hsp54 => ?_)
                      · first
                          | (exfalso; simp at hsp54 <;> omega)
                          | (
                            refine Z.yes (s := 54) (b := true) rfl hsp54 rfl ?_
                            (try simp at hsp54)
                            refine Z.yes (s := 45) (b := false) rfl rfl rfl ?_
                            refine Z.yes (s := 51) (b := true) rfl rfl rfl ?_
                            refine Z.tXD 12 [12, 13, 21, 22, 23, 24] (fun _ _ _ _ h => Z.leaves_put (by kernel_rfl) h) rfl rfl rfl (by rfl) (by kernel_rfl) ⟨_, hs, by first | (simp; done) | exact fun e he => List.mem_append_right _ he⟩ (Z.Yd.off (v := undef) 54 false rfl (by first | (simp; done) | (simp_all; done)) (by intro c h; cases h)) ?_
                            refine Z.tXD 13 [13, 21, 22, 23, 24] (fun _ _ _ _ h => Z.leaves_put (by kernel_rfl) h) rfl rfl rfl (by rfl) (by kernel_rfl) ⟨_, hs, by first | (simp; done) | exact fun e he => List.mem_append_right _ he⟩ (Z.Yd.off (v := undef) 54 false rfl (by first | (simp; done) | (simp_all; done)) (by intro c h; cases h)) ?_
                            refine Z.tXD 14 [14, 15, 18, 19, 21, 22, 23, 24] (fun _ _ _ _ h => Z.leaves_put (by kernel_rfl) h) rfl rfl rfl (by rfl) (by kernel_rfl) ⟨_, hs, by first | (simp; done) | exact fun e he => List.mem_append_right _ he⟩ (Z.Yd.off (v := undef) 54 false rfl (by first | (simp; done) | (simp_all; done)) (by intro c h; cases h)) ?_
                            refine Z.tXD 15 [15, 18, 19, 21, 22, 23, 24] (fun _ _ _ _ h => Z.leaves_put (by kernel_rfl) h) rfl rfl rfl (by rfl) (by kernel_rfl) ⟨_, hs, by first | (simp; done) | exact fun e he => List.mem_append_right _ he⟩ (Z.Yd.off (v := undef) 54 false rfl (by first | (simp; done) | (simp_all; done)) (by intro c h; cases h)) ?_
                            refine Z.tXD 16 [16, 17, 18, 19, 21, 22, 23, 24] (fun _ _ _ _ h => Z.leaves_put (by kernel_rfl) h) rfl rfl rfl (by rfl) (by kernel_rfl) ⟨_, hs, by first | (simp; done) | exact fun e he => List.mem_append_right _ he⟩ (Z.Yd.off (v := undef) 54 false rfl (by first | (simp; done) | (simp_all; done)) (by intro c h; cases h)) ?_
                            refine Z.tXD 17 [17, 18, 19, 21, 22, 23, 24] (fun _ _ _ _ h => Z.leaves_put (by kernel_rfl) h) rfl rfl rfl (by rfl) (by kernel_rfl) ⟨_, hs, by first | (simp; done) | exact fun e he => List.mem_append_right _ he⟩ (Z.Yd.off (v := undef) 54 false rfl (by first | (simp; done) | (simp_all; done)) (by intro c h; cases h)) ?_
                            refine Z.tXD 18 [18, 19, 21, 22, 23, 24] (fun _ _ _ _ h => Z.leaves_put (by kernel_rfl) h) rfl rfl rfl (by rfl) (by kernel_rfl) ⟨_, hs, by first | (simp; done) | exact fun e he => List.mem_append_right _ he⟩ (Z.Yd.off (v := undef) 54 false rfl (by first | (simp; done) | (simp_all; done)) (by intro c h; cases h)) ?_
                            refine Z.tXD 19 [19, 21, 22, 23, 24] (fun _ _ _ _ h => Z.leaves_put (by kernel_rfl) h) rfl rfl rfl (by rfl) (by kernel_rfl) ⟨_, hs, by first | (simp; done) | exact fun e he => List.mem_append_right _ he⟩ (Z.Yd.off (v := undef) 54 false rfl (by first | (simp; done) | (simp_all; done)) (by intro c h; cases h)) ?_
                            refine Z.yes (s := 45) (b := false) rfl rfl rfl ?_
                            refine Z.yes (s := 51) (b := true) rfl rfl rfl ?_
                            refine Z.yes (s := 54) (b := true) rfl rfl rfl ?_
                            refine Z.tnSPG 54 false 20 rfl rfl (by kernel_rfl) rfl rfl (by simp) rfl (by rfl) (fun _ => ⟨_, hs, by first | (simp; done) | exact fun e he => List.mem_append_right _ he⟩) ?_
                            refine Z.tnSPG 54 false 21 rfl rfl (by kernel_rfl) rfl rfl (by simp) rfl (by rfl) (fun _ => ⟨_, hs, by first | (simp; done) | exact fun e he => List.mem_append_right _ he⟩) ?_
                            refine Z.tnP 22 rfl rfl (by kernel_rfl) rfl (by exact ⟨rfl, trivial⟩) ?_
                            refine Z.ZO.quiet rfl (by rfl) (Z.keepS hs) (Z.Yd.pickT rfl rfl) ?_
                            refine Z.tkP (Dn := fun j => j != 24) (i := 22) (fun _ => ⟨_, hs, by first | (simp; done) | exact fun e he => List.mem_append_right _ he⟩) ?_
                            refine Z.tXD 23 [23, 24] (fun _ _ _ _ h => Z.leaves_put (by kernel_rfl) h) rfl rfl rfl (by rfl) (by kernel_rfl) ⟨_, hs, by first | (simp; done) | exact fun e he => List.mem_append_right _ he⟩ (Z.Yd.pickT rfl rfl) ?_
                            refine Z.tnP 24 rfl rfl (by kernel_rfl) rfl trivial ?_
                            refine Z.ZO.callB rfl rfl (by rfl) rfl rfl Try.call42 rfl (must_any _ 9 _) ?_ ?_
                            · skip
                              rintro v11_24 w11_24 ⟨hb11, rfl, hy⟩
                              replace hs := hs.call hy
                              clear hy
                              try simp only [List.cons_append, List.nil_append, List.append_nil] at hs
                              have h5 : acc.length < 512 := by first | omega | (simp at hb11 <;> omega)
                              have hok : okNext v1 acc (nkAt l a) = true := by
                                first
                                | (exfalso; simp at hb11 <;> omega)
                                | (unfold okNext; simp_all; done)
                              rw [if_pos hok] at hgo
                              refine Z.tkP (Dn := fun j => j != 24) (i := 24) (fun h => absurd h (by decide)) ?_
                              refine Z.tdP (by rfl) (by kernel_rfl) ?_
                              refine Z.only [2, 3, 4, 6, 7] rfl ?_
                              refine Z.nthen ?_
                              refine Z.region ?_
                              refine Z.l rfl rfl (by rfl) (Z.keepS hs) (Z.Yd.fieldA (m := 1) rfl (by kernel_rfl)) ?_
                              refine Z.l rfl rfl (by rfl) (Z.keepS hs) (by first | exact Z.Yd.load rfl Try.isAgg22 (fun _ => Z.cellB (by first | ((repeat (first | exact List.mem_cons_self | refine List.mem_cons_of_mem _ ?_ | refine List.mem_append_right _ ?_)); done) | fail) rfl) | exact Z.Yd.load rfl Try.isAgg22 (fun _ => Z.cellO (by assumption) (by simp) (by assumption)) | fail "load 12.1") ?_
                              refine Z.l rfl rfl (by rfl) (Z.keepS hs) (by first | exact Z.Yd.loadA _ rfl Try.isAgg45 (fun _ => Z.cellsB (by first | ((repeat (first | exact List.mem_cons_self | refine List.mem_cons_of_mem _ ?_ | refine List.mem_append_right _ ?_)); done) | fail)) (by exact Try.sizeOf45) | fail "load 12.2") ?_
                              refine Z.le rfl trivial ?_
                              refine Z.ZO.litL (T' := 45) [(0, 4)] [.int .i64 0, .bool false, .int .i64 0, .int .i64 0] rfl rfl (by rfl) rfl rfl (by intro W; kernel_rfl) hs ?_
                              clear hs; intro g71 w71 hs
                              refine Z.le rfl trivial ?_
                              refine Z.ZO.append (i0 := Try.t45) (size := 4) (bytes := 32) rfl rfl (by rfl) hs Try.underlying22 (by kernel_rfl) rfl rfl rfl rfl (by decide) rfl rfl (by first | exact SX.at0 | exact SX.at1 | exact SX.at2 | exact SX.at3 | exact SX.at4 | exact SX.at5 | exact Z.at6 | exact Z.at7 | exact Z.at8 | exact Z.at9 | exact Z.at10 | exact Z.at11 | exact Z.at12) (by first | exact SX.at0 | exact SX.at1 | exact SX.at2 | exact SX.at3 | exact SX.at4 | exact SX.at5 | exact Z.at6 | exact Z.at7 | exact Z.at8 | exact Z.at9 | exact Z.at10 | exact Z.at11 | exact Z.at12) (by first | rfl | simp) (by simp [Value.oneCell']) (by decide) (by unfold maxLen; omega) (by omega) ?_
                              clear hs; intro g72 cap72 w72 hs
                              simp only [List.set_cons_zero, List.set_cons_succ, List.eraseIdx_cons_zero, List.eraseIdx_cons_succ] at hs
                              refine Z.l rfl rfl (by rfl) (Z.keepS hs) (Z.Yd.fieldA (m := 1) rfl (by kernel_rfl)) ?_
                              refine Z.le rfl trivial ?_
                              first | refine Z.ZO.store rfl rfl hs Try.sizeOf22 rfl rfl rfl (by first | exact SX.at0 | exact SX.at1 | exact SX.at2 | exact SX.at3 | exact SX.at4 | exact SX.at5 | exact Z.at6 | exact Z.at7 | exact Z.at8 | exact Z.at9 | exact Z.at10 | exact Z.at11 | exact Z.at12) (by first | (simp; done) | (simp; omega)) ?_ | refine Z.ZO.storeR rfl rfl hs Try.sizeOf22 rfl rfl rfl (by first | exact SX.at0 | exact SX.at1 | exact SX.at2 | exact SX.at3 | exact SX.at4 | exact SX.at5 | exact Z.at6 | exact Z.at7 | exact Z.at8 | exact Z.at9 | exact Z.at10 | exact Z.at11 | exact Z.at12) (by first | omega | (simp [ints_length]; done) | (simp [ints_length]; omega)) ?_
                              clear hs; intro ws hs
                              simp only [Nat.zero_add, Nat.add_zero, Nat.reduceAdd, Int.reduceToNat, Nat.reduceMul, List.set_cons_zero, List.set_cons_succ, List.setIfInBounds_toArray] at hs
                              refine Z.lnil ?_
                              refine Z.only [2, 3, 4, 6] rfl ?_
                              refine Z.nblock ?_
                              refine Z.nthen ?_
                              have el : (acc ++ [nkAt l a]).length = acc.length + 1 := by simp
                              have hi1 : (if moreAt l a = true then 1 else 0) ≤ 1 := by split <;> omega
                              have ef : (acc ++ [nkAt l a]).flatMap NkV.cells = acc.flatMap NkV.cells ++ (nkAt l a).cells := by simp
                              exact Z.again (nkA l a, acc ++ [nkAt l a], _, moreAt l a) (by refine ⟨?_, ?_, ?_, ?_, trivial⟩ <;> (first | rfl | (refine Z.lookv rfl ?_; simp; done) | (refine Z.lookv rfl ?_; simp; omega))) ⟨⟨by simp only; omega, by simp only; omega, f, by simp only; omega, hgo⟩, by rw [el, ef]; exact hs.sel [0, 1, 3, 4, 5, 6] (by decide)⟩ (by simp only; omega)
                            · skip
                              rintro c11_24 w11_24 ⟨hb11, rfl, hy⟩
                              replace hs := hs.call hy
                              clear hy
                              try simp only [List.cons_append, List.nil_append, List.append_nil] at hs
                              have hok : okNext v1 acc (nkAt l a) = false := by
                                unfold okNext
                                first
                                | (have h5 : ¬ acc.length < 512 := by omega
                                   simp [h5]; done)
                                | (have h5 : acc.length < 512 := by omega
                                   simp_all; done)
                              rw [if_neg (by rw [hok]; decide)] at hgo
                              subst hgo
                              replace hs := hs.sel [5, 6] (by decide)
                              repeat (first | refine Z.pthen ?_ | refine Z.pblock ?_ | refine Z.pscope ?_)
                              -- ret#3
                              refine Z.outDp Try.call38 (dec1_pan g2 g3 _ _ _ _ _ _ _ (hs.lend (L2 := []))) ?_
                              rintro vD wD ⟨rfl, hz⟩
                              replace hs := hs.regain (L2 := []) hz
                              refine ⟨[_, _], (by exact ⟨⟨_, rfl, Z.rvcA hs Try.isAgg24 (by first | ((repeat (first | exact List.mem_cons_self | refine List.mem_cons_of_mem _ ?_ | refine List.mem_append_right _ ?_)); done) | fail) (by exact Try.sizeOf24)⟩, ⟨_, rfl, Z.rvc hs Try.isAgg27 (by first | ((repeat (first | exact List.mem_cons_self | refine List.mem_cons_of_mem _ ?_ | refine List.mem_append_right _ ?_)); done) | fail) rfl⟩, trivial⟩), ?_⟩
                              exact ⟨_, rfl, Dec.zero (hs.sub (List.nil_sublist _))⟩
                            )
                      · first
                          | (exfalso; simp at hsp54 <;> omega)
                          | (
                            refine Z.yes (s := 54) (b := false) rfl hsp54 rfl ?_
                            (try simp at hsp54)
                            have hne : acc.length ≠ 0 := by intro h0; simp_all
                            obtain ⟨p, hp⟩ := last_at hne
                            obtain ⟨ga, ca2, e2, -, -⟩ := row_form (j := 3) hs rfl (Nat.pos_of_ne_zero hne)
                            cases e2
                            have hk1 : ((acc.length : Int) - 1) = ((acc.length - 1 : Nat) : Int) := by omega
                            refine Z.yes (s := 45) (b := false) rfl rfl rfl ?_
                            refine Z.yes (s := 51) (b := true) rfl rfl rfl ?_
                            refine Z.tXD 12 [12, 13, 21, 22, 23, 24] (fun _ _ _ _ h => Z.leaves_put (by kernel_rfl) h) rfl rfl rfl (by rfl) (by kernel_rfl) ⟨_, hs, by first | (simp; done) | exact fun e he => List.mem_append_right _ he⟩ (Z.Yd.fieldA (m := 0) rfl (by kernel_rfl)) ?_
                            refine Z.tXD 13 [13, 21, 22, 23, 24] (fun _ _ _ _ h => Z.leaves_put (by kernel_rfl) h) rfl rfl rfl (by rfl) (by kernel_rfl) ⟨_, hs, by first | (simp; done) | exact fun e he => List.mem_append_right _ he⟩ (by first | exact Z.Yd.load rfl Try.isAgg3 (fun _ => Z.cellB (by first | ((repeat (first | exact List.mem_cons_self | refine List.mem_cons_of_mem _ ?_ | refine List.mem_append_right _ ?_)); done) | fail) rfl) | exact Z.Yd.load rfl Try.isAgg3 (fun _ => Z.cellO (by assumption) (by simp) (by assumption)) | fail "load 11.13") ?_
                            refine Z.tXD 14 [14, 15, 18, 19, 21, 22, 23, 24] (fun _ _ _ _ h => Z.leaves_put (by kernel_rfl) h) rfl rfl rfl (by rfl) (by kernel_rfl) ⟨_, hs, by first | (simp; done) | exact fun e he => List.mem_append_right _ he⟩ (Z.Yd.fieldA (m := 1) rfl (by kernel_rfl)) ?_
                            refine Z.tXD 15 [15, 18, 19, 21, 22, 23, 24] (fun _ _ _ _ h => Z.leaves_put (by kernel_rfl) h) rfl rfl rfl (by rfl) (by kernel_rfl) ⟨_, hs, by first | (simp; done) | exact fun e he => List.mem_append_right _ he⟩ (by first | exact Z.Yd.load rfl Try.isAgg22 (fun _ => Z.cellB (by first | ((repeat (first | exact List.mem_cons_self | refine List.mem_cons_of_mem _ ?_ | refine List.mem_append_right _ ?_)); done) | fail) rfl) | exact Z.Yd.load rfl Try.isAgg22 (fun _ => Z.cellO (by assumption) (by simp) (by assumption)) | fail "load 11.15") ?_
                            refine Z.tXD 16 [16, 17, 18, 19, 21, 22, 23, 24] (fun _ _ _ _ h => Z.leaves_put (by kernel_rfl) h) rfl rfl rfl (by rfl) (by kernel_rfl) ⟨_, hs, by first | (simp; done) | exact fun e he => List.mem_append_right _ he⟩ (Z.Yd.pure rfl) ?_
                            refine Z.tXD 17 [17, 18, 19, 21, 22, 23, 24] (fun _ _ _ _ h => Z.leaves_put (by kernel_rfl) h) rfl rfl rfl (by rfl) (by kernel_rfl) ⟨_, hs, by first | (simp; done) | exact fun e he => List.mem_append_right _ he⟩ (Z.Yd.sub rfl rfl (fun hG => Z.wi64 (by first | omega | (have hG' := Z.gh rfl hG; simp at hG'; omega)))) ?_
                            refine Z.tXD 18 [18, 19, 21, 22, 23, 24] (fun _ _ _ _ h => Z.leaves_put (by kernel_rfl) h) rfl rfl rfl (by rfl) (by kernel_rfl) ⟨_, hs, by first | (simp; done) | exact fun e he => List.mem_append_right _ he⟩ (Z.Yd.elem rfl rfl Try.underlying22 Try.sizeOf45 (fun hG => ⟨(by first | omega | (have hG' := Z.gh rfl hG; simp at hG'; omega)), (by first | omega | (have hG' := Z.gh rfl hG; simp at hG'; omega))⟩)) ?_
                            refine Z.tXD 19 [19, 21, 22, 23, 24] (fun _ _ _ _ h => Z.leaves_put (by kernel_rfl) h) rfl rfl rfl (by rfl) (by kernel_rfl) ⟨_, hs, by first | (simp; done) | exact fun e he => List.mem_append_right _ he⟩ (Z.Yd.loadA _ rfl Try.isAgg45 (fun _ => hk1 ▸ Z.cellsRf (by first | ((repeat (first | exact List.mem_cons_self | refine List.mem_cons_of_mem _ ?_ | refine List.mem_append_right _ ?_)); done) | fail) nk_len hp rfl) (by exact Try.sizeOf45)) ?_
                            refine Z.yes (s := 45) (b := false) rfl rfl rfl ?_
                            refine Z.yes (s := 51) (b := true) rfl rfl rfl ?_
                            refine Z.yes (s := 54) (b := false) rfl rfl rfl ?_
                            refine Z.tnP 20 rfl rfl (by kernel_rfl) rfl (by exact ⟨rfl, trivial⟩) ?_
                            refine Z.ZO.quiet rfl (by rfl) (Z.keepS hs) (Z.Yd.loadA _ rfl Try.isAgg45 (fun _ => Z.cellsB (cs := (nkAt l a).cells) (by first | ((repeat (first | exact List.mem_cons_self | refine List.mem_cons_of_mem _ ?_ | refine List.mem_append_right _ ?_)); done) | fail)) (by exact Try.sizeOf45)) ?_
                            refine Z.tkP (Dn := fun j => j != 24) (i := 20) (fun _ => ⟨_, hs, by first | (simp; done) | exact fun e he => List.mem_append_right _ he⟩) ?_
                            refine Z.tnP 21 rfl rfl (by kernel_rfl) rfl (by exact ⟨rfl, trivial⟩) ?_
                            refine Z.ZO.call rfl rfl (by rfl) rfl rfl Try.call34 rfl (follows_any v1 p (nkAt l a) _) ?_
                            rintro v11_21 w11_21 ⟨rfl, hy⟩
                            replace hs := hs.call hy
                            clear hy
                            try simp only [List.cons_append, List.nil_append, List.append_nil] at hs
                            refine Z.tkP (Dn := fun j => j != 24) (i := 21) (fun _ => ⟨_, hs, by first | (simp; done) | exact fun e he => List.mem_append_right _ he⟩) ?_
                            refine Z.tnP 22 rfl rfl (by kernel_rfl) rfl (by exact ⟨rfl, trivial⟩) ?_
                            refine Z.ZO.quiet rfl (by rfl) (Z.keepS hs) (Z.Yd.pickF rfl rfl) ?_
                            refine Z.tkP (Dn := fun j => j != 24) (i := 22) (fun _ => ⟨_, hs, by first | (simp; done) | exact fun e he => List.mem_append_right _ he⟩) ?_
                            refine Z.tXD 23 [23, 24] (fun _ _ _ _ h => Z.leaves_put (by kernel_rfl) h) rfl rfl rfl (by rfl) (by kernel_rfl) ⟨_, hs, by first | (simp; done) | exact fun e he => List.mem_append_right _ he⟩ (Z.Yd.pickT rfl rfl) ?_
                            refine Z.tnP 24 rfl rfl (by kernel_rfl) rfl trivial ?_
                            refine Z.ZO.callB rfl rfl (by rfl) rfl rfl Try.call42 rfl (must_any _ 9 _) ?_ ?_
                            · skip
                              rintro v11_24 w11_24 ⟨hb11, rfl, hy⟩
                              replace hs := hs.call hy
                              clear hy
                              try simp only [List.cons_append, List.nil_append, List.append_nil] at hs
                              have h5 : acc.length < 512 := by first | omega | (simp at hb11 <;> omega)
                              have hok : okNext v1 acc (nkAt l a) = true := by
                                first
                                | (exfalso; simp at hb11 <;> omega)
                                | (unfold okNext; simp_all; done)
                              rw [if_pos hok] at hgo
                              refine Z.tkP (Dn := fun j => j != 24) (i := 24) (fun h => absurd h (by decide)) ?_
                              refine Z.tdP (by rfl) (by kernel_rfl) ?_
                              refine Z.only [2, 3, 4, 6, 7] rfl ?_
                              refine Z.nthen ?_
                              refine Z.region ?_
                              refine Z.l rfl rfl (by rfl) (Z.keepS hs) (Z.Yd.fieldA (m := 1) rfl (by kernel_rfl)) ?_
                              refine Z.l rfl rfl (by rfl) (Z.keepS hs) (by first | exact Z.Yd.load rfl Try.isAgg22 (fun _ => Z.cellB (by first | ((repeat (first | exact List.mem_cons_self | refine List.mem_cons_of_mem _ ?_ | refine List.mem_append_right _ ?_)); done) | fail) rfl) | exact Z.Yd.load rfl Try.isAgg22 (fun _ => Z.cellO (by assumption) (by simp) (by assumption)) | fail "load 12.1") ?_
                              refine Z.l rfl rfl (by rfl) (Z.keepS hs) (by first | exact Z.Yd.loadA _ rfl Try.isAgg45 (fun _ => Z.cellsB (by first | ((repeat (first | exact List.mem_cons_self | refine List.mem_cons_of_mem _ ?_ | refine List.mem_append_right _ ?_)); done) | fail)) (by exact Try.sizeOf45) | fail "load 12.2") ?_
                              refine Z.le rfl trivial ?_
                              refine Z.ZO.litL (T' := 45) [(0, 4)] [.int .i64 0, .bool false, .int .i64 0, .int .i64 0] rfl rfl (by rfl) rfl rfl (by intro W; kernel_rfl) hs ?_
                              clear hs; intro g71 w71 hs
                              refine Z.le rfl trivial ?_
                              refine Z.ZO.append (i0 := Try.t45) (size := 4) (bytes := 32) rfl rfl (by rfl) hs Try.underlying22 (by kernel_rfl) rfl rfl rfl rfl (by decide) rfl rfl (by first | exact SX.at0 | exact SX.at1 | exact SX.at2 | exact SX.at3 | exact SX.at4 | exact SX.at5 | exact Z.at6 | exact Z.at7 | exact Z.at8 | exact Z.at9 | exact Z.at10 | exact Z.at11 | exact Z.at12) (by first | exact SX.at0 | exact SX.at1 | exact SX.at2 | exact SX.at3 | exact SX.at4 | exact SX.at5 | exact Z.at6 | exact Z.at7 | exact Z.at8 | exact Z.at9 | exact Z.at10 | exact Z.at11 | exact Z.at12) (by first | rfl | simp) (by simp [Value.oneCell']) (by decide) (by unfold maxLen; omega) (by omega) ?_
                              clear hs; intro g72 cap72 w72 hs
                              simp only [List.set_cons_zero, List.set_cons_succ, List.eraseIdx_cons_zero, List.eraseIdx_cons_succ] at hs
                              refine Z.l rfl rfl (by rfl) (Z.keepS hs) (Z.Yd.fieldA (m := 1) rfl (by kernel_rfl)) ?_
                              refine Z.le rfl trivial ?_
                              first | refine Z.ZO.store rfl rfl hs Try.sizeOf22 rfl rfl rfl (by first | exact SX.at0 | exact SX.at1 | exact SX.at2 | exact SX.at3 | exact SX.at4 | exact SX.at5 | exact Z.at6 | exact Z.at7 | exact Z.at8 | exact Z.at9 | exact Z.at10 | exact Z.at11 | exact Z.at12) (by first | (simp; done) | (simp; omega)) ?_ | refine Z.ZO.storeR rfl rfl hs Try.sizeOf22 rfl rfl rfl (by first | exact SX.at0 | exact SX.at1 | exact SX.at2 | exact SX.at3 | exact SX.at4 | exact SX.at5 | exact Z.at6 | exact Z.at7 | exact Z.at8 | exact Z.at9 | exact Z.at10 | exact Z.at11 | exact Z.at12) (by first | omega | (simp [ints_length]; done) | (simp [ints_length]; omega)) ?_
                              clear hs; intro ws hs
                              simp only [Nat.zero_add, Nat.add_zero, Nat.reduceAdd, Int.reduceToNat, Nat.reduceMul, List.set_cons_zero, List.set_cons_succ, List.setIfInBounds_toArray] at hs
                              refine Z.lnil ?_
                              refine Z.only [2, 3, 4, 6] rfl ?_
                              refine Z.nblock ?_
                              refine Z.nthen ?_
                              have el : (acc ++ [nkAt l a]).length = acc.length + 1 := by simp
                              have hi1 : (if moreAt l a = true then 1 else 0) ≤ 1 := by split <;> omega
                              have ef : (acc ++ [nkAt l a]).flatMap NkV.cells = acc.flatMap NkV.cells ++ (nkAt l a).cells := by simp
                              exact Z.again (nkA l a, acc ++ [nkAt l a], _, moreAt l a) (by refine ⟨?_, ?_, ?_, ?_, trivial⟩ <;> (first | rfl | (refine Z.lookv rfl ?_; simp; done) | (refine Z.lookv rfl ?_; simp; omega))) ⟨⟨by simp only; omega, by simp only; omega, f, by simp only; omega, hgo⟩, by rw [el, ef]; exact hs.sel [0, 1, 3, 4, 5, 6] (by decide)⟩ (by simp only; omega)
                            · skip
                              rintro c11_24 w11_24 ⟨hb11, rfl, hy⟩
                              replace hs := hs.call hy
                              clear hy
                              try simp only [List.cons_append, List.nil_append, List.append_nil] at hs
                              have hok : okNext v1 acc (nkAt l a) = false := by
                                unfold okNext
                                first
                                | (have h5 : ¬ acc.length < 512 := by omega
                                   simp [h5]; done)
                                | (have h5 : acc.length < 512 := by omega
                                   simp_all; done)
                              rw [if_neg (by rw [hok]; decide)] at hgo
                              subst hgo
                              replace hs := hs.sel [5, 6] (by decide)
                              repeat (first | refine Z.pthen ?_ | refine Z.pblock ?_ | refine Z.pscope ?_)
                              -- ret#4
                              refine Z.outDp Try.call38 (dec1_pan g2 g3 _ _ _ _ _ _ _ (hs.lend (L2 := []))) ?_
                              rintro vD wD ⟨rfl, hz⟩
                              replace hs := hs.regain (L2 := []) hz
                              refine ⟨[_, _], (by exact ⟨⟨_, rfl, Z.rvcA hs Try.isAgg24 (by first | ((repeat (first | exact List.mem_cons_self | refine List.mem_cons_of_mem _ ?_ | refine List.mem_append_right _ ?_)); done) | fail) (by exact Try.sizeOf24)⟩, ⟨_, rfl, Z.rvc hs Try.isAgg27 (by first | ((repeat (first | exact List.mem_cons_self | refine List.mem_cons_of_mem _ ?_ | refine List.mem_append_right _ ?_)); done) | fail) rfl⟩, trivial⟩), ?_⟩
                              exact ⟨_, rfl, Dec.zero (hs.sub (List.nil_sublist _))⟩
                            )
                      )
                · first
                    | (exfalso; simp at hsp51 <;> omega)
                    | (
                      refine Z.yes (s := 51) (b := false) rfl hsp51 rfl ?_
                      (try simp at hsp51)
                      refine Z.yes (s := 45) (b := false) rfl rfl rfl ?_
                      refine Z.tnSPG 51 true 9 rfl rfl (by kernel_rfl) rfl rfl (by simp) rfl (by rfl) (fun _ => ⟨_, hs, by first | (simp; done) | exact fun e he => List.mem_append_right _ he⟩) ?_
                      refine Z.tnSPG 51 true 10 rfl rfl (by kernel_rfl) rfl rfl (by simp) rfl (by rfl) (fun _ => ⟨_, hs, by first | (simp; done) | exact fun e he => List.mem_append_right _ he⟩) ?_
                      refine Z.tnSPG 51 true 11 rfl rfl (by kernel_rfl) rfl rfl (by simp) rfl (by rfl) (fun _ => ⟨_, hs, by first | (simp; done) | exact fun e he => List.mem_append_right _ he⟩) ?_
                      refine Z.tXD 12 [12, 13, 21, 22, 23, 24] (fun _ _ _ _ h => Z.leaves_put (by kernel_rfl) h) rfl rfl rfl (by rfl) (by kernel_rfl) ⟨_, hs, by first | (simp; done) | exact fun e he => List.mem_append_right _ he⟩ (Z.Yd.off (v := undef) 51 true rfl (by first | (simp; done) | (simp_all; done)) (by intro c h; cases h)) ?_
                      refine Z.tXD 13 [13, 21, 22, 23, 24] (fun _ _ _ _ h => Z.leaves_put (by kernel_rfl) h) rfl rfl rfl (by rfl) (by kernel_rfl) ⟨_, hs, by first | (simp; done) | exact fun e he => List.mem_append_right _ he⟩ (Z.Yd.off (v := undef) 51 true rfl (by first | (simp; done) | (simp_all; done)) (by intro c h; cases h)) ?_
                      refine Z.tXD 14 [14, 15, 18, 19, 21, 22, 23, 24] (fun _ _ _ _ h => Z.leaves_put (by kernel_rfl) h) rfl rfl rfl (by rfl) (by kernel_rfl) ⟨_, hs, by first | (simp; done) | exact fun e he => List.mem_append_right _ he⟩ (Z.Yd.off (v := undef) 51 true rfl (by first | (simp; done) | (simp_all; done)) (by intro c h; cases h)) ?_
                      refine Z.tXD 15 [15, 18, 19, 21, 22, 23, 24] (fun _ _ _ _ h => Z.leaves_put (by kernel_rfl) h) rfl rfl rfl (by rfl) (by kernel_rfl) ⟨_, hs, by first | (simp; done) | exact fun e he => List.mem_append_right _ he⟩ (Z.Yd.off (v := undef) 51 true rfl (by first | (simp; done) | (simp_all; done)) (by intro c h; cases h)) ?_
                      refine Z.tXD 16 [16, 17, 18, 19, 21, 22, 23, 24] (fun _ _ _ _ h => Z.leaves_put (by kernel_rfl) h) rfl rfl rfl (by rfl) (by kernel_rfl) ⟨_, hs, by first | (simp; done) | exact fun e he => List.mem_append_right _ he⟩ (Z.Yd.off (v := undef) 51 true rfl (by first | (simp; done) | (simp_all; done)) (by intro c h; cases h)) ?_
                      refine Z.tXD 17 [17, 18, 19, 21, 22, 23, 24] (fun _ _ _ _ h => Z.leaves_put (by kernel_rfl) h) rfl rfl rfl (by rfl) (by kernel_rfl) ⟨_, hs, by first | (simp; done) | exact fun e he => List.mem_append_right _ he⟩ (Z.Yd.off (v := undef) 51 true rfl (by first | (simp; done) | (simp_all; done)) (by intro c h; cases h)) ?_
                      refine Z.tXD 18 [18, 19, 21, 22, 23, 24] (fun _ _ _ _ h => Z.leaves_put (by kernel_rfl) h) rfl rfl rfl (by rfl) (by kernel_rfl) ⟨_, hs, by first | (simp; done) | exact fun e he => List.mem_append_right _ he⟩ (Z.Yd.off (v := undef) 51 true rfl (by first | (simp; done) | (simp_all; done)) (by intro c h; cases h)) ?_
                      refine Z.tXD 19 [19, 21, 22, 23, 24] (fun _ _ _ _ h => Z.leaves_put (by kernel_rfl) h) rfl rfl rfl (by rfl) (by kernel_rfl) ⟨_, hs, by first | (simp; done) | exact fun e he => List.mem_append_right _ he⟩ (Z.Yd.off (v := undef) 51 true rfl (by first | (simp; done) | (simp_all; done)) (by intro c h; cases h)) ?_
                      refine Z.tnSPG 51 true 20 rfl rfl (by kernel_rfl) rfl rfl (by simp) rfl (by rfl) (fun _ => ⟨_, hs, by first | (simp; done) | exact fun e he => List.mem_append_right _ he⟩) ?_
                      refine Z.tnSPG 51 true 21 rfl rfl (by kernel_rfl) rfl rfl (by simp) rfl (by rfl) (fun _ => ⟨_, hs, by first | (simp; done) | exact fun e he => List.mem_append_right _ he⟩) ?_
                      refine Z.tnSPG 51 true 22 rfl rfl (by kernel_rfl) rfl rfl (by simp) rfl (by rfl) (fun _ => ⟨_, hs, by first | (simp; done) | exact fun e he => List.mem_append_right _ he⟩) ?_
                      refine Z.tXD 23 [23, 24] (fun _ _ _ _ h => Z.leaves_put (by kernel_rfl) h) rfl rfl rfl (by rfl) (by kernel_rfl) ⟨_, hs, by first | (simp; done) | exact fun e he => List.mem_append_right _ he⟩ (Z.Yd.pickF rfl rfl) ?_
                      refine Z.tnP 24 rfl rfl (by kernel_rfl) rfl trivial ?_
                      refine Z.ZO.callB rfl rfl (by rfl) rfl rfl Try.call42 rfl (must_any _ 9 _) ?_ ?_
                      · skip
                        rintro v11_24 w11_24 ⟨hb11, rfl, hy⟩
                        replace hs := hs.call hy
                        clear hy
                        try simp only [List.cons_append, List.nil_append, List.append_nil] at hs
                        have h5 : acc.length < 512 := by first | omega | (simp at hb11 <;> omega)
                        have hok : okNext v1 acc (nkAt l a) = true := by
                          first
                          | (exfalso; simp at hb11 <;> omega)
                          | (unfold okNext; simp_all; done)
                        rw [if_pos hok] at hgo
                        refine Z.tkP (Dn := fun j => j != 24) (i := 24) (fun h => absurd h (by decide)) ?_
                        refine Z.tdP (by rfl) (by kernel_rfl) ?_
                        refine Z.only [2, 3, 4, 6, 7] rfl ?_
                        refine Z.nthen ?_
                        refine Z.region ?_
                        refine Z.l rfl rfl (by rfl) (Z.keepS hs) (Z.Yd.fieldA (m := 1) rfl (by kernel_rfl)) ?_
                        refine Z.l rfl rfl (by rfl) (Z.keepS hs) (by first | exact Z.Yd.load rfl Try.isAgg22 (fun _ => Z.cellB (by first | ((repeat (first | exact List.mem_cons_self | refine List.mem_cons_of_mem _ ?_ | refine List.mem_append_right _ ?_)); done) | fail) rfl) | exact Z.Yd.load rfl Try.isAgg22 (fun _ => Z.cellO (by assumption) (by simp) (by assumption)) | fail "load 12.1") ?_
                        refine Z.l rfl rfl (by rfl) (Z.keepS hs) (by first | exact Z.Yd.loadA _ rfl Try.isAgg45 (fun _ => Z.cellsB (by first | ((repeat (first | exact List.mem_cons_self | refine List.mem_cons_of_mem _ ?_ | refine List.mem_append_right _ ?_)); done) | fail)) (by exact Try.sizeOf45) | fail "load 12.2") ?_
                        refine Z.le rfl trivial ?_
                        refine Z.ZO.litL (T' := 45) [(0, 4)] [.int .i64 0, .bool false, .int .i64 0, .int .i64 0] rfl rfl (by rfl) rfl rfl (by intro W; kernel_rfl) hs ?_
                        clear hs; intro g71 w71 hs
                        refine Z.le rfl trivial ?_
                        refine Z.ZO.append (i0 := Try.t45) (size := 4) (bytes := 32) rfl rfl (by rfl) hs Try.underlying22 (by kernel_rfl) rfl rfl rfl rfl (by decide) rfl rfl (by first | exact SX.at0 | exact SX.at1 | exact SX.at2 | exact SX.at3 | exact SX.at4 | exact SX.at5 | exact Z.at6 | exact Z.at7 | exact Z.at8 | exact Z.at9 | exact Z.at10 | exact Z.at11 | exact Z.at12) (by first | exact SX.at0 | exact SX.at1 | exact SX.at2 | exact SX.at3 | exact SX.at4 | exact SX.at5 | exact Z.at6 | exact Z.at7 | exact Z.at8 | exact Z.at9 | exact Z.at10 | exact Z.at11 | exact Z.at12) (by first | rfl | simp) (by simp [Value.oneCell']) (by decide) (by unfold maxLen; omega) (by omega) ?_
                        clear hs; intro g72 cap72 w72 hs
                        simp only [List.set_cons_zero, List.set_cons_succ, List.eraseIdx_cons_zero, List.eraseIdx_cons_succ] at hs
                        refine Z.l rfl rfl (by rfl) (Z.keepS hs) (Z.Yd.fieldA (m := 1) rfl (by kernel_rfl)) ?_
                        refine Z.le rfl trivial ?_
                        first | refine Z.ZO.store rfl rfl hs Try.sizeOf22 rfl rfl rfl (by first | exact SX.at0 | exact SX.at1 | exact SX.at2 | exact SX.at3 | exact SX.at4 | exact SX.at5 | exact Z.at6 | exact Z.at7 | exact Z.at8 | exact Z.at9 | exact Z.at10 | exact Z.at11 | exact Z.at12) (by first | (simp; done) | (simp; omega)) ?_ | refine Z.ZO.storeR rfl rfl hs Try.sizeOf22 rfl rfl rfl (by first | exact SX.at0 | exact SX.at1 | exact SX.at2 | exact SX.at3 | exact SX.at4 | exact SX.at5 | exact Z.at6 | exact Z.at7 | exact Z.at8 | exact Z.at9 | exact Z.at10 | exact Z.at11 | exact Z.at12) (by first | omega | (simp [ints_length]; done) | (simp [ints_length]; omega)) ?_
                        clear hs; intro ws hs
                        simp only [Nat.zero_add, Nat.add_zero, Nat.reduceAdd, Int.reduceToNat, Nat.reduceMul, List.set_cons_zero, List.set_cons_succ, List.setIfInBounds_toArray] at hs
                        refine Z.lnil ?_
                        refine Z.only [2, 3, 4, 6] rfl ?_
                        refine Z.nblock ?_
                        refine Z.nthen ?_
                        have el : (acc ++ [nkAt l a]).length = acc.length + 1 := by simp
                        have hi1 : (if moreAt l a = true then 1 else 0) ≤ 1 := by split <;> omega
                        have ef : (acc ++ [nkAt l a]).flatMap NkV.cells = acc.flatMap NkV.cells ++ (nkAt l a).cells := by simp
                        exact Z.again (nkA l a, acc ++ [nkAt l a], _, moreAt l a) (by refine ⟨?_, ?_, ?_, ?_, trivial⟩ <;> (first | rfl | (refine Z.lookv rfl ?_; simp; done) | (refine Z.lookv rfl ?_; simp; omega))) ⟨⟨by simp only; omega, by simp only; omega, f, by simp only; omega, hgo⟩, by rw [el, ef]; exact hs.sel [0, 1, 3, 4, 5, 6] (by decide)⟩ (by simp only; omega)
                      · skip
                        rintro c11_24 w11_24 ⟨hb11, rfl, hy⟩
                        replace hs := hs.call hy
                        clear hy
                        try simp only [List.cons_append, List.nil_append, List.append_nil] at hs
                        have hok : okNext v1 acc (nkAt l a) = false := by
                          unfold okNext
                          first
                          | (have h5 : ¬ acc.length < 512 := by omega
                             simp [h5]; done)
                          | (have h5 : acc.length < 512 := by omega
                             simp_all; done)
                        rw [if_neg (by rw [hok]; decide)] at hgo
                        subst hgo
                        replace hs := hs.sel [5, 6] (by decide)
                        repeat (first | refine Z.pthen ?_ | refine Z.pblock ?_ | refine Z.pscope ?_)
                        -- ret#5
                        refine Z.outDp Try.call38 (dec1_pan g2 g3 _ _ _ _ _ _ _ (hs.lend (L2 := []))) ?_
                        rintro vD wD ⟨rfl, hz⟩
                        replace hs := hs.regain (L2 := []) hz
                        refine ⟨[_, _], (by exact ⟨⟨_, rfl, Z.rvcA hs Try.isAgg24 (by first | ((repeat (first | exact List.mem_cons_self | refine List.mem_cons_of_mem _ ?_ | refine List.mem_append_right _ ?_)); done) | fail) (by exact Try.sizeOf24)⟩, ⟨_, rfl, Z.rvc hs Try.isAgg27 (by first | ((repeat (first | exact List.mem_cons_self | refine List.mem_cons_of_mem _ ?_ | refine List.mem_append_right _ ?_)); done) | fail) rfl⟩, trivial⟩), ?_⟩
                        exact ⟨_, rfl, Dec.zero (hs.sub (List.nil_sublist _))⟩
                      )
                )
        · skip
          rintro c9_1 w9_1 ⟨hE, rfl, a', hz⟩
          replace hs := (hs.regain hz).sel [5, 6] (by decide)
          rw [if_neg (by simp_all), if_pos hE] at hgo
          subst hgo
          repeat (first | refine Z.pthen ?_ | refine Z.pblock ?_ | refine Z.pscope ?_)
          -- ret#6
          refine Z.outDp Try.call38 (dec1_pan g2 g3 _ _ _ _ _ _ _ (hs.lend (L2 := []))) ?_
          rintro vD wD ⟨rfl, hz⟩
          replace hs := hs.regain (L2 := []) hz
          refine ⟨[_, _], (by exact ⟨⟨_, rfl, Z.rvcA hs Try.isAgg24 (by first | ((repeat (first | exact List.mem_cons_self | refine List.mem_cons_of_mem _ ?_ | refine List.mem_append_right _ ?_)); done) | fail) (by exact Try.sizeOf24)⟩, ⟨_, rfl, Z.rvc hs Try.isAgg27 (by first | ((repeat (first | exact List.mem_cons_self | refine List.mem_cons_of_mem _ ?_ | refine List.mem_append_right _ ?_)); done) | fail) rfl⟩, trivial⟩), ?_⟩
          exact ⟨_, rfl, Dec.zero (hs.sub (List.nil_sublist _))⟩
        )
  · first
      | (exfalso; simp at hc7 <;> omega)
      | (
        (try simp at hc7)
        refine Z.exit ?_
        refine Z.xthen ?_
        refine Z.xthen ?_
        refine Z.xblock ?_
        refine Z.nthen ?_
        refine Z.seq ?_
        refine Z.region ?_
        refine Z.l rfl rfl (by rfl) (Z.keepS hs) (Z.Yd.fieldA (m := 0) rfl (by kernel_rfl)) ?_
        refine Z.l rfl rfl (by rfl) (Z.keepS hs) (by first | exact Z.Yd.load rfl Try.isAgg74 (fun _ => Z.cellB (by first | ((repeat (first | exact List.mem_cons_self | refine List.mem_cons_of_mem _ ?_ | refine List.mem_append_right _ ?_)); done) | fail) rfl) | exact Z.Yd.load rfl Try.isAgg74 (fun _ => Z.cellO (by assumption) (by simp) (by assumption)) | fail "load 13.1") ?_
        obtain ⟨Aa, ca, rfl, -, -, -⟩ := SX.row_slv hs (j := 2) rfl
        obtain ⟨f, rfl⟩ : ∃ f', f = f' + 1 := ⟨f - 1, by omega⟩
        unfold decGo at hgo
        rw [if_pos (by simp_all)] at hgo
        refine Z.le rfl trivial ?_
        refine Z.ZO.call rfl rfl (by rfl) rfl rfl Try.call44 rfl (rend_any gr _ sv l a _ hs.lend (by omega) ha hb) ?_
        rintro v13_2 w13_2 ⟨rfl, hz⟩
        replace hs := hs.regain hz
        simp only [RdL, List.cons_append, List.nil_append] at hs
        refine Z.lb 1 rfl ?_
        refine Z.le rfl trivial ?_
        refine Z.ZO.callB rfl rfl (by rfl) rfl rfl Try.call42 rfl (must_any _ 9 _) ?_ ?_
        · skip
          rintro v13_4 w13_4 ⟨hb13, rfl, hy⟩
          replace hs := hs.call hy
          clear hy
          try simp only [List.cons_append, List.nil_append, List.append_nil] at hs
          rw [if_pos (by simpa using hb13)] at hgo
          subst hgo
          refine Z.lnil ?_
          refine Z.only [2, 3] rfl ?_
          refine Z.nthen ?_
          refine Z.seq ?_
          refine Z.region ?_
          refine Z.l rfl rfl (by rfl) (Z.keepS hs) (by first | exact Z.Yd.loadA _ rfl Try.isAgg24 (fun _ => Z.cellsB (by first | ((repeat (first | exact List.mem_cons_self | refine List.mem_cons_of_mem _ ?_ | refine List.mem_append_right _ ?_)); done) | fail)) (by exact Try.sizeOf24) | fail "load 14.0") ?_
          refine Z.le rfl trivial ?_
          first | refine Z.ZO.storeA rfl rfl hs rfl rfl (by kernel_rfl) (by first | (simp [Value.oneCell']; done) | (refine Z.all_one ?_; assumption)) (by first | exact SX.at0 | exact SX.at1 | exact SX.at2 | exact SX.at3 | exact SX.at4 | exact SX.at5 | exact Z.at6 | exact Z.at7 | exact Z.at8 | exact Z.at9 | exact Z.at10 | exact Z.at11 | exact Z.at12) (by rfl) ?_ | refine Z.ZO.storeP rfl rfl hs rfl rfl (by kernel_rfl) (by first | (simp [Value.oneCell']; done) | (refine Z.all_one ?_; assumption)) (by first | exact SX.at0 | exact SX.at1 | exact SX.at2 | exact SX.at3 | exact SX.at4 | exact SX.at5 | exact Z.at6 | exact Z.at7 | exact Z.at8 | exact Z.at9 | exact Z.at10 | exact Z.at11 | exact Z.at12) (by first | decide | (simp; done) | (simp; omega)) ?_ | refine Z.ZO.storePR rfl rfl hs rfl rfl (by kernel_rfl) (by first | (simp [Value.oneCell']; done) | (refine Z.all_one ?_; assumption)) (by first | exact SX.at0 | exact SX.at1 | exact SX.at2 | exact SX.at3 | exact SX.at4 | exact SX.at5 | exact Z.at6 | exact Z.at7 | exact Z.at8 | exact Z.at9 | exact Z.at10 | exact Z.at11 | exact Z.at12) (by first | decide | (simp; done) | (simp; omega)) ?_
          clear hs; intro ws hs
          simp only [Nat.zero_add, Nat.add_zero, Nat.reduceAdd, Int.reduceToNat, Nat.reduceMul, List.set_cons_zero, List.set_cons_succ, List.setIfInBounds_toArray] at hs
          try simp only [Z.putL, Nat.zero_add] at hs
          refine Z.le rfl trivial ?_
          first | refine Z.ZO.store rfl rfl hs Try.sizeOf27 rfl rfl rfl (by first | exact SX.at0 | exact SX.at1 | exact SX.at2 | exact SX.at3 | exact SX.at4 | exact SX.at5 | exact Z.at6 | exact Z.at7 | exact Z.at8 | exact Z.at9 | exact Z.at10 | exact Z.at11 | exact Z.at12) (by first | (simp; done) | (simp; omega)) ?_ | refine Z.ZO.storeR rfl rfl hs Try.sizeOf27 rfl rfl rfl (by first | exact SX.at0 | exact SX.at1 | exact SX.at2 | exact SX.at3 | exact SX.at4 | exact SX.at5 | exact Z.at6 | exact Z.at7 | exact Z.at8 | exact Z.at9 | exact Z.at10 | exact Z.at11 | exact Z.at12) (by first | omega | (simp [ints_length]; done) | (simp [ints_length]; omega)) ?_
          clear hs; intro ws hs
          simp only [Nat.zero_add, Nat.add_zero, Nat.reduceAdd, Int.reduceToNat, Nat.reduceMul, List.set_cons_zero, List.set_cons_succ, List.setIfInBounds_toArray] at hs
          refine Z.lnil ?_
          refine Z.only [2, 3] rfl ?_
          refine Z.nthen ?_
          refine Z.ret ?_
          -- ret#7
          refine Z.outDr Try.call38 (dec1_ret g2 g3 _) ?_
          rintro vD wD ⟨rfl, hy⟩
          replace hs := hs.call hy
          refine ⟨[_, _], (by exact ⟨⟨_, rfl, Z.rvcA hs Try.isAgg24 (by first | ((repeat (first | exact List.mem_cons_self | refine List.mem_cons_of_mem _ ?_ | refine List.mem_append_right _ ?_)); done) | fail) (by exact Try.sizeOf24)⟩, ⟨_, rfl, Z.rvc hs Try.isAgg27 (by first | ((repeat (first | exact List.mem_cons_self | refine List.mem_cons_of_mem _ ?_ | refine List.mem_append_right _ ?_)); done) | fail) rfl⟩, trivial⟩), ?_⟩
          exact ⟨_, rfl, Aa, ca, ca, rfl, hs.sel [2] (by decide)⟩
        · skip
          rintro c13_4 w13_4 ⟨hb13, rfl, hy⟩
          replace hs := hs.call hy
          clear hy
          try simp only [List.cons_append, List.nil_append, List.append_nil] at hs
          rw [if_neg (by simpa using hb13)] at hgo
          subst hgo
          replace hs := hs.sel [4, 5] (by decide)
          repeat (first | refine Z.pthen ?_ | refine Z.pblock ?_ | refine Z.pscope ?_)
          -- ret#8
          refine Z.outDp Try.call38 (dec1_pan g2 g3 _ _ _ _ _ _ _ (hs.lend (L2 := []))) ?_
          rintro vD wD ⟨rfl, hz⟩
          replace hs := hs.regain (L2 := []) hz
          refine ⟨[_, _], (by exact ⟨⟨_, rfl, Z.rvcA hs Try.isAgg24 (by first | ((repeat (first | exact List.mem_cons_self | refine List.mem_cons_of_mem _ ?_ | refine List.mem_append_right _ ?_)); done) | fail) (by exact Try.sizeOf24)⟩, ⟨_, rfl, Z.rvc hs Try.isAgg27 (by first | ((repeat (first | exact List.mem_cons_self | refine List.mem_cons_of_mem _ ?_ | refine List.mem_append_right _ ?_)); done) | fail) rfl⟩, trivial⟩), ?_⟩
          exact ⟨_, rfl, Dec.zero (hs.sub (List.nil_sublist _))⟩
        )
end Go.Proofs.Ytcieclifabbkjaa

/- Numbers out of bytes and bits: plain facts. -/
namespace Go.Proofs.Ytcieclifabbkjaa
open Go.RowKit
set_option linter.unusedSimpArgs false
set_option linter.unusedVariables false

end Go.Proofs.Ytcieclifabbkjaa

/- Status reports: the document's decoder. -/
namespace Go.Proofs.Ytcieclifabbkjaa
open Go.RowKit
set_option linter.unusedSimpArgs false
set_option linter.unusedVariables false
--newlaws

theorem decode_any (A : Option Addr) (m c : Nat) (l : List Int) (w : World) (hx : Sl w A (ints .u8 l)) (hl : l.length = m) (hm : m ≤ 1000000) (hb : ∀ x ∈ l, 0 ≤ x ∧ x < 256) :
    Calls Try.prog 17 #[.slice A m c] w (SX.Ret fun v w' => Dec (decE l) (decA l) (decL l) v w w') := by
  by_cases h15 : 15 ≤ 8 * l.length
  · by_cases h4 : gv l 0 4 = 0
    · have e1 : decE l = (decGo l (gv l 4 10) (8 * l.length + 1) 15 [] (gv l 14 1 == 1)).1 := by unfold decE; rw [if_pos h15, if_pos h4]
      unfold decA decL
      rw [e1]
      exact decode_main A m c l w hx hl hm hb h15 h4 _ rfl
    · have e1 : decE l = 9 := by unfold decE; rw [if_pos h15, if_neg h4]
      unfold decA decL
      rw [e1]
      exact decode_fmt A m c l w hx hl hm hb h15 h4
  · have e1 : decE l = 5 := by unfold decE; rw [if_neg h15]
    unfold decA decL
    rw [e1]
    exact decode_short A m c l w hx hl hm hb h15
end Go.Proofs.Ytcieclifabbkjaa

/- FieldHolds. -/
namespace Go.Proofs.Ytcieclifabbkjaa
open Go.RowKit
set_option linter.unusedSimpArgs false
set_option linter.unusedVariables false

end Go.Proofs.Ytcieclifabbkjaa

/- A nil writer, a nil reader. -/
namespace Go.Proofs.Ytcieclifabbkjaa
open Go.RowKit
set_option linter.unusedSimpArgs false
set_option linter.unusedVariables false

end Go.Proofs.Ytcieclifabbkjaa

/- FieldNone. -/
namespace Go.Proofs.Ytcieclifabbkjaa
open Go.RowKit
set_option linter.unusedSimpArgs false
set_option linter.unusedVariables false

structure AskV where
  what : Int
  n : Int
  lA : Option Addr
  lc : Nat
  ll : List Int
structure GoodK (W : World) (x : AskV) : Prop where
  what : -9223372036854775808 ≤ x.what ∧ x.what ≤ 9223372036854775807
  n : -9223372036854775808 ≤ x.n ∧ x.n ≤ 9223372036854775807
  ls : Sl W x.lA (ints .i64 x.ll)
  l63 : x.ll.length ≤ maxLen

end Go.Proofs.Ytcieclifabbkjaa

/- The document's reader. -/
namespace Go.Proofs.Ytcieclifabbkjaa
open Go.RowKit
set_option linter.unusedSimpArgs false
set_option linter.unusedVariables false

end Go.Proofs.Ytcieclifabbkjaa

/- The document's reader: Get, GetBytes, Align, End. -/
namespace Go.Proofs.Ytcieclifabbkjaa
open Go.RowKit
set_option linter.unusedSimpArgs false
set_option linter.unusedVariables false

end Go.Proofs.Ytcieclifabbkjaa

/- The document's reader: Align, GetAll. -/
namespace Go.Proofs.Ytcieclifabbkjaa
open Go.RowKit
set_option linter.unusedSimpArgs false
set_option linter.unusedVariables false

end Go.Proofs.Ytcieclifabbkjaa

/- Status reports: the document's decoder. -/
namespace Go.Proofs.Ytcieclifabbkjaa
open Go.RowKit
set_option linter.unusedSimpArgs false
set_option linter.unusedVariables false
--newlaws

theorem _root_.Go.Proofs.Ytcieclifabbkjaa.SX.St.blkSl {w0 w : World} {M : List Nat} {L : List SX.Ent} {g T : Nat} {cs : Array Value} (hs : SX.St w0 M w L) (hm : SX.Ent.blk g T cs ∈ L) : Sl w (some ⟨g, 0, none⟩) cs.toList := fun hp => by
  have hr : w.heap[g]? = some (.cells cs T (0, 0)) := hs.ok _ hm
  refine ⟨g, 0, rfl, SX.lt_of_some hr, fun i u hu => ?_⟩
  rw [Nat.zero_add]
  exact (SX.cell_blk hr i).trans (by simpa using hu)
theorem _root_.Go.Proofs.Ytcieclifabbkjaa.SX.St.slm {w0 w : World} {M : List Nat} {L : List SX.Ent} {T k size c m : Nat} {A : Option Addr} {xs : List Value} (hs : SX.St w0 M w L) (hm : SX.Ent.row (.slice A k c) T size m xs ∈ L) : Sl w A xs := by
  obtain ⟨j, hj⟩ := List.getElem?_of_mem hm
  exact SX.row_slB hs hj
end Go.Proofs.Ytcieclifabbkjaa

/- Status reports shortened. -/
namespace Go.Proofs.Ytcieclifabbkjaa
open Go.RowKit
set_option linter.unusedSimpArgs false
set_option linter.unusedVariables false
--newlaws

theorem Sl.zero {w : World} {A : Option Addr} {xs : List Value} (h : Sl w A xs) (hA : A = none) : xs.length = 0 := by
  subst hA
  rcases Nat.eq_zero_or_pos xs.length with h0 | h0
  · exact h0
  · obtain ⟨b, off, e, -⟩ := h h0
    cases e
theorem nk_flat (l : List NkV) : (l.flatMap NkV.cells).length = l.length * 4 := Z.flat_length (s := 4) nk_len
theorem cloneN (A : Option Addr) (n c : Nat) (l : List NkV) (w : World) (hx : Sl w A (l.flatMap NkV.cells)) (hl : l.length = n) (hn : n ≤ 1000000) :
    Calls Try.prog 48 #[.slice A n c] w (SX.Ret fun v w' => SX.St w [] w' [SX.Ent.row v 45 4 n (l.flatMap NkV.cells)]) := by
  have hs := SX.St.start w
  cases A with
  | none =>
    have hf := Sl.zero hx rfl
    rw [nk_flat] at hf
    obtain rfl : n = 0 := by omega
    have hl0 : l = [] := List.eq_nil_of_length_eq_zero hl
    subst hl0
    refine Z.enter Try.func48 rfl Try.ntmps48 rfl rfl ?_
    refine Z.seq ?_
    refine Z.region ?_
    refine Z.lb 1 rfl ?_
    refine Z.lnil ?_
    refine Z.only [0] rfl ?_
    refine Z.nthen ?_
    refine Z.seq ?_
    refine Z.seq ?_
    refine Z.region ?_
    refine Z.lb 1 rfl ?_
    refine Z.l rfl rfl (by rfl) (Z.keepS hs) (Z.Yd.sliceNil rfl rfl Try.underlying22) ?_
    refine Z.lnil ?_
    refine Z.only [0, 4] rfl ?_
    refine Z.nthen ?_
    refine Z.cond rfl (fun hc1 => ?_) (fun h => absurd h (by simp))
    refine Z.seq ?_
    refine Z.region ?_
    refine Z.lb 1 rfl ?_
    refine Z.lnil ?_
    refine Z.only [2] rfl ?_
    refine Z.nthen ?_
    refine Z.ret ?_
    repeat (first | refine Z.rthen ?_ | refine Z.rblock ?_ | refine Z.rscope ?_)
    -- ret#0
    refine Z.out1 (by exact ⟨rfl, trivial⟩) ?_
    exact ⟨_, rfl, hs.nil _ _⟩
  | some ad =>
    have hf : (l.flatMap NkV.cells).length = n * 4 := by rw [nk_flat, hl]
    have hone : ∀ u ∈ l.flatMap NkV.cells, u.oneCell' = true := fun u hu => by
      obtain ⟨x, -, hx⟩ := List.mem_flatMap.1 hu
      exact nk_one x u hx
    refine Z.enter Try.func48 rfl Try.ntmps48 rfl rfl ?_
    refine Z.seq ?_
    refine Z.region ?_
    refine Z.lb 1 rfl ?_
    refine Z.lnil ?_
    refine Z.only [0] rfl ?_
    refine Z.nthen ?_
    refine Z.seq ?_
    refine Z.seq ?_
    refine Z.region ?_
    refine Z.lb 1 rfl ?_
    refine Z.l rfl rfl (by rfl) (Z.keepS hs) (Z.Yd.sliceNil rfl rfl Try.underlying22) ?_
    refine Z.lnil ?_
    refine Z.only [0, 4] rfl ?_
    refine Z.nthen ?_
    refine Z.cond rfl (fun h => absurd h (by simp)) (fun hc1 => ?_)
    refine Z.skip ?_
    refine Z.nthen ?_
    refine Z.seq ?_
    refine Z.region ?_
    refine Z.le rfl trivial ?_
    refine Z.ZO.empty rfl rfl (by rfl) Try.underlying22 Try.sizeOf45 hs ?_
    clear hs; intro g5 w5 hs
    refine Z.lb 1 rfl ?_
    refine Z.le rfl trivial ?_
    refine Z.ZO.appendG (i0 := Try.t45) (size := 4) (bytes := 32) rfl rfl (by rfl) hs Try.underlying22 (by kernel_rfl) rfl rfl rfl rfl (by decide) rfl rfl (by first | exact SX.at0 | exact SX.at1 | exact SX.at2 | exact SX.at3 | exact SX.at4 | exact SX.at5 | exact Z.at6 | exact Z.at7 | exact Z.at8 | exact Z.at9 | exact Z.at10 | exact Z.at11 | exact Z.at12) (hx.st hs) (by first | rfl | assumption | (simp [ints_length]; done) | (simp [ints_length]; omega)) (by first | exact Z.ints_one | assumption | simp [Value.oneCell']) (by unfold maxLen; omega) (by omega) ?_
    clear hs; intro v7 w7 hs
    simp only [List.set_cons_zero, List.set_cons_succ] at hs
    refine Z.lb 1 rfl ?_
    refine Z.lnil ?_
    refine Z.only [2] rfl ?_
    refine Z.nthen ?_
    refine Z.ret ?_
    -- ret#0
    refine Z.out1 (by exact ⟨rfl, trivial⟩) ?_
    exact ⟨_, rfl, by simpa using hs⟩
/-- what a report is shortened to: the last SN and how many entries stay -/
def szK (l : List NkV) (k : Nat) : Int := (((sizeN (l.take k) + 7) / 8 : Nat) : Int)
def snK (l : List NkV) (k : Nat) : Int := match l[k]? with
  | some x => x.sn
  | none => 0
def fitR (l : List NkV) (n : Int) : Nat → Int × Nat
  | 0 => (snK l 0, 0)
  | k + 1 => if szK l (k + 1) ≤ n ∧ snK l (k + 1) ≠ snK l k then (snK l (k + 1), k + 1) else fitR l n k
def fitK (l : List NkV) (ack n : Int) : Int × Nat := if szK l l.length ≤ n then (ack, l.length) else fitR l n (l.length - 1)
def fitE (l : List NkV) (ack n : Int) : Int := if vldB ack l = true ∧ 0 ≤ n then (if n < 2 then 5 else 0) else 2
theorem fitR_le (l : List NkV) (n : Int) : ∀ k, (fitR l n k).2 ≤ k
  | 0 => Nat.le_refl _
  | k + 1 => by
    unfold fitR
    split
    · exact Nat.le_refl _
    · exact Nat.le_succ_of_le (fitR_le l n k)
theorem szK0 (l : List NkV) : szK l 0 = 2 := by simp [szK, sizeN]
theorem fitK_le (l : List NkV) (ack n : Int) : (fitK l ack n).2 ≤ l.length := by
  unfold fitK
  split
  · exact Nat.le_refl _
  · exact Nat.le_trans (fitR_le l n _) (by omega)
theorem fitStep1 {l : List NkV} {n : Int} {k : Nat} (hk : 0 < k) (h : snK l k = snK l (k - 1)) : fitR l n (k - 1) = fitR l n k := by
  obtain ⟨j, rfl⟩ : ∃ j, k = j + 1 := ⟨k - 1, by omega⟩
  rw [show j + 1 - 1 = j from rfl] at h ⊢
  rw [fitR, if_neg (fun hh => hh.2 h)]
theorem fitStep2 {l : List NkV} {n : Int} {k : Nat} (hn : 2 ≤ n) (h : k = 0 ∨ snK l k ≠ snK l (k - 1)) : (szK l k ≤ n ∧ (snK l k, k) = fitR l n k) ∨ (¬ szK l k ≤ n ∧ 1 ≤ k ∧ fitR l n (k - 1) = fitR l n k) := by
  by_cases hz : szK l k ≤ n
  · refine .inl ⟨hz, ?_⟩
    cases k with
    | zero => rfl
    | succ j => rw [fitR, if_pos ⟨hz, h.resolve_left (by omega)⟩]
  · cases k with
    | zero => rw [szK0] at hz; omega
    | succ j =>
      refine .inr ⟨hz, by omega, ?_⟩
      rw [fitR, if_neg (fun hh => hz hh.1)]
      rfl
theorem Sl.pre {w : World} {A : Option Addr} {xs ys : List Value} (h : Sl w A xs) (hp : ys <+: xs) : Sl w A ys := fun h0 => by
  obtain ⟨b, off, e, hb, hc⟩ := h (Nat.lt_of_lt_of_le h0 hp.length_le)
  refine ⟨b, off, e, hb, fun j u hu => hc j u ?_⟩
  obtain ⟨t, rfl⟩ := hp
  rw [List.getElem?_append_left (List.getElem?_eq_some_iff.1 hu).1]
  exact hu
theorem nk_pre (l : List NkV) (j : Nat) : (l.take j).flatMap NkV.cells <+: l.flatMap NkV.cells := ⟨(l.drop j).flatMap NkV.cells, by rw [← List.flatMap_append, List.take_append_drop]⟩
set_option maxHeartbeats 1000000 in
set_option maxRecDepth 100000 in
theorem fit_ok (ack n : Int) (A : Option Addr) (m c : Nat) (l : List NkV) (w : World) (hx : Sl w A (l.flatMap NkV.cells)) (hl : l.length = m) (hm : m ≤ 9223372036854775807) (hv : vldB ack l = true) (hn : 2 ≤ n) :
    Calls Try.prog 20 #[.agg #[.int .i64 ack, .slice A m c], .int .i64 n] w (SX.Ret fun v w' => ∃ B co cc, v = .tuple #[.agg #[.int .i64 (fitK l ack n).1, .slice B (fitK l ack n).2 cc], .int .i64 0] ∧ (fitK l ack n).2 ≤ cc ∧ SX.St w [] w' [SX.Ent.row (.slice B m co) 45 4 m (l.flatMap NkV.cells)]) := by
  have hs := SX.St.start w
  obtain ⟨hack, h512, hst⟩ := vldB_len hv
  have hf := nk_flat l
  refine Z.enter Try.func20 rfl Try.ntmps20 rfl rfl ?_
  refine Z.seq ?_
  refine Z.region ?_
  refine Z.le rfl trivial ?_
  refine Z.ZO.box rfl rfl (by rfl) rfl rfl hs ?_
  clear hs; intro g2 w2 hs
  refine Z.le rfl trivial ?_
  refine Z.ZO.alloc rfl rfl (by rfl) Try.zeroValue24 rfl hs ?_
  clear hs; intro g4 w4 hs
  refine Z.lb 1 rfl ?_
  refine Z.lnil ?_
  refine Z.only [1, 2, 4] rfl ?_
  refine Z.nthen ?_
  refine Z.seq ?_
  refine Z.block ?_
  refine Z.seq ?_
  refine Z.region ?_
  refine Z.l rfl rfl (by rfl) (Z.keepS hs) (by first | exact Z.Yd.loadA _ rfl Try.isAgg24 (fun _ => Z.cellsB (by first | ((repeat (first | exact List.mem_cons_self | refine List.mem_cons_of_mem _ ?_ | refine List.mem_append_right _ ?_)); done) | fail)) (by exact Try.sizeOf24) | fail "load 1.0") ?_
  refine Z.le rfl trivial ?_
  refine Z.ZO.call rfl rfl (by rfl) rfl rfl Try.call14 rfl (svalid_any ack A m c l _ (hx.st (hs.sub (List.nil_sublist _))) hl (by omega)) ?_
  rintro v1_1 w1_1 ⟨rfl, hy⟩
  replace hs := hs.call hy
  clear hy
  try simp only [List.cons_append, List.nil_append, List.append_nil] at hs
  refine Z.lb 2 rfl ?_
  refine Z.yes (s := 12) (b := false) rfl ((by simp [hv])) rfl ?_
  refine Z.lb 2 rfl ?_
  refine Z.yes (s := 12) (b := false) rfl rfl rfl ?_
  refine Z.l rfl rfl (by rfl) (Z.keepS hs) (Z.Yd.pickF rfl rfl) ?_
  refine Z.lb 1 rfl ?_
  refine Z.lnil ?_
  refine Z.only [1, 2, 4, 8] rfl ?_
  refine Z.nthen ?_
  refine Z.cond rfl (fun h => absurd h (by simp; omega)) (fun hc1 => ?_)
  refine Z.seq ?_
  refine Z.region ?_
  refine Z.lb 3 rfl ?_
  refine Z.lnil ?_
  refine Z.only [1, 2, 4, 17] rfl ?_
  refine Z.nthen ?_
  refine Z.cond rfl (fun h => absurd h (by simp; omega)) (fun hc3 => ?_)
  refine Z.skip ?_
  refine Z.nblock ?_
  refine Z.nthen ?_
  refine Z.seq ?_
  refine Z.cutt (ι := Nat × Option Addr × Nat) [1, 2, 4] rfl (fun x => [(6, [], .pointer (some ⟨x.1, 0, none⟩))]) (fun x wr => m ≤ x.2.2 ∧ SX.St w [] wr [SX.Ent.blk x.1 24 #[.int .i64 ack, .slice x.2.1 m x.2.2], SX.Ent.row (.slice x.2.1 m x.2.2) 45 4 m (l.flatMap NkV.cells), SX.Ent.blk g4 24 #[.int .i64 0, .slice none 0 0], SX.Ent.blk g2 24 #[.int .i64 ack, .slice A m c]]) ?_ ?_
  · skip
    refine Z.drawK (fun _ => true) mixed hs ?_
    clear hs; intro wd5 hs
    refine Z.t 0 rfl rfl rfl (by rfl) (by kernel_rfl) ⟨_, hs, by first | (simp; done) | exact fun e he => List.mem_append_right _ he⟩ (Z.Yd.fieldA (m := 0) rfl (by kernel_rfl)) ?_
    refine Z.t 1 rfl rfl rfl (by rfl) (by kernel_rfl) ⟨_, hs, by first | (simp; done) | exact fun e he => List.mem_append_right _ he⟩ (by first | exact Z.Yd.load rfl Try.isAgg3 (fun _ => Z.cellB (by first | ((repeat (first | exact List.mem_cons_self | refine List.mem_cons_of_mem _ ?_ | refine List.mem_append_right _ ?_)); done) | fail) rfl) | exact Z.Yd.load rfl Try.isAgg3 (fun _ => Z.cellO (by assumption) (by simp) (by assumption)) | fail "load 5.1") ?_
    refine Z.t 2 rfl rfl rfl (by rfl) (by kernel_rfl) ⟨_, hs, by first | (simp; done) | exact fun e he => List.mem_append_right _ he⟩ (Z.Yd.fieldA (m := 1) rfl (by kernel_rfl)) ?_
    refine Z.t 3 rfl rfl rfl (by rfl) (by kernel_rfl) ⟨_, hs, by first | (simp; done) | exact fun e he => List.mem_append_right _ he⟩ (by first | exact Z.Yd.load rfl Try.isAgg22 (fun _ => Z.cellB (by first | ((repeat (first | exact List.mem_cons_self | refine List.mem_cons_of_mem _ ?_ | refine List.mem_append_right _ ?_)); done) | fail) rfl) | exact Z.Yd.load rfl Try.isAgg22 (fun _ => Z.cellO (by assumption) (by simp) (by assumption)) | fail "load 5.3") ?_
    refine Z.fork2 4 6 rfl rfl rfl (by kernel_rfl) rfl rfl trivial trivial ?_ ?_
    · skip
      refine Z.ZO.call rfl rfl (by rfl) rfl rfl Try.call48 rfl (cloneN A m c l _ (hx.st (hs.sub (List.nil_sublist _))) hl (by omega)) ?_
      rintro v5_4 w5_4 hy
      replace hs := hs.call hy
      clear hy
      try simp only [List.cons_append, List.nil_append, List.append_nil] at hs
      obtain ⟨Bv, cv, rfl, hcv, -, -⟩ := SX.row_slv hs (j := 0) rfl
      refine Z.tk (Dn := fun _ => true) (i := 4) (fun _ => ⟨_, hs, by first | (simp; done) | exact fun e he => List.mem_append_right _ he⟩) ?_
      refine Z.t 5 rfl rfl rfl (by rfl) (by kernel_rfl) ⟨_, hs, by first | (simp; done) | exact fun e he => List.mem_append_right _ he⟩ (Z.Yd.buildL [(0, 1), (1, 1)] [.int .i64 0, .slice none 0 0] rfl rfl (by intro w; kernel_rfl)) ?_
      refine Z.tn 6 rfl rfl (by kernel_rfl) rfl trivial ?_
      refine Z.ZO.alloc rfl rfl (by rfl) Try.zeroValue24 rfl hs ?_
      clear hs; intro g6 w6 hs
      refine Z.tk (Dn := fun _ => true) (i := 6) (fun _ => ⟨_, hs, by first | (simp; done) | exact fun e he => List.mem_append_right _ he⟩) ?_
      refine Z.tn 7 rfl rfl (by kernel_rfl) rfl trivial ?_
      first | refine Z.ZO.storeA rfl rfl hs rfl rfl (by kernel_rfl) (by first | (simp [Value.oneCell']; done) | (refine Z.all_one ?_; assumption)) (by first | exact SX.at0 | exact SX.at1 | exact SX.at2 | exact SX.at3 | exact SX.at4 | exact SX.at5 | exact Z.at6 | exact Z.at7 | exact Z.at8 | exact Z.at9 | exact Z.at10 | exact Z.at11 | exact Z.at12) (by rfl) ?_ | refine Z.ZO.storeP rfl rfl hs rfl rfl (by kernel_rfl) (by first | (simp [Value.oneCell']; done) | (refine Z.all_one ?_; assumption)) (by first | exact SX.at0 | exact SX.at1 | exact SX.at2 | exact SX.at3 | exact SX.at4 | exact SX.at5 | exact Z.at6 | exact Z.at7 | exact Z.at8 | exact Z.at9 | exact Z.at10 | exact Z.at11 | exact Z.at12) (by first | decide | (simp; done) | (simp; omega)) ?_ | refine Z.ZO.storePR rfl rfl hs rfl rfl (by kernel_rfl) (by first | (simp [Value.oneCell']; done) | (refine Z.all_one ?_; assumption)) (by first | exact SX.at0 | exact SX.at1 | exact SX.at2 | exact SX.at3 | exact SX.at4 | exact SX.at5 | exact Z.at6 | exact Z.at7 | exact Z.at8 | exact Z.at9 | exact Z.at10 | exact Z.at11 | exact Z.at12) (by first | decide | (simp; done) | (simp; omega)) ?_
      clear hs; intro ws hs
      simp only [Nat.zero_add, Nat.add_zero, Nat.reduceAdd, Int.reduceToNat, Nat.reduceMul, List.set_cons_zero, List.set_cons_succ, List.setIfInBounds_toArray] at hs
      try simp only [Z.putL, Nat.zero_add] at hs
      refine Z.tk (Dn := fun _ => true) (i := 7) (fun _ => ⟨_, hs, by first | (simp; done) | exact fun e he => List.mem_append_right _ he⟩) ?_
      refine Z.td (by rfl) (by kernel_rfl) ?_
      refine Z.only [1, 2, 4, 6] rfl ?_
      refine Z.nthen ?_
      exact Z.meet (g6, _, _) (by refine ⟨?_, ?_, ?_, ?_, trivial⟩ <;> (first | rfl | (refine Z.lookv rfl ?_; simp; done) | (refine Z.lookv rfl ?_; simp; omega))) ⟨hcv, by first | exact hs | exact hs.sel [1, 0, 2, 3] (by decide)⟩
    · skip
      refine Z.ZO.alloc rfl rfl (by rfl) Try.zeroValue24 rfl hs ?_
      clear hs; intro g6 w6 hs
      refine Z.tk (Dn := fun _ => true) (i := 6) (fun _ => ⟨_, hs, by first | (simp; done) | exact fun e he => List.mem_append_right _ he⟩) ?_
      refine Z.tn 4 rfl rfl (by kernel_rfl) rfl trivial ?_
      refine Z.ZO.call rfl rfl (by rfl) rfl rfl Try.call48 rfl (cloneN A m c l _ (hx.st (hs.sub (List.nil_sublist _))) hl (by omega)) ?_
      rintro v5_4 w5_4 hy
      replace hs := hs.call hy
      clear hy
      try simp only [List.cons_append, List.nil_append, List.append_nil] at hs
      obtain ⟨Bv, cv, rfl, hcv, -, -⟩ := SX.row_slv hs (j := 0) rfl
      refine Z.tk (Dn := fun _ => true) (i := 4) (fun _ => ⟨_, hs, by first | (simp; done) | exact fun e he => List.mem_append_right _ he⟩) ?_
      refine Z.t 5 rfl rfl rfl (by rfl) (by kernel_rfl) ⟨_, hs, by first | (simp; done) | exact fun e he => List.mem_append_right _ he⟩ (Z.Yd.buildL [(0, 1), (1, 1)] [.int .i64 0, .slice none 0 0] rfl rfl (by intro w; kernel_rfl)) ?_
      refine Z.tn 7 rfl rfl (by kernel_rfl) rfl trivial ?_
      first | refine Z.ZO.storeA rfl rfl hs rfl rfl (by kernel_rfl) (by first | (simp [Value.oneCell']; done) | (refine Z.all_one ?_; assumption)) (by first | exact SX.at0 | exact SX.at1 | exact SX.at2 | exact SX.at3 | exact SX.at4 | exact SX.at5 | exact Z.at6 | exact Z.at7 | exact Z.at8 | exact Z.at9 | exact Z.at10 | exact Z.at11 | exact Z.at12) (by rfl) ?_ | refine Z.ZO.storeP rfl rfl hs rfl rfl (by kernel_rfl) (by first | (simp [Value.oneCell']; done) | (refine Z.all_one ?_; assumption)) (by first | exact SX.at0 | exact SX.at1 | exact SX.at2 | exact SX.at3 | exact SX.at4 | exact SX.at5 | exact Z.at6 | exact Z.at7 | exact Z.at8 | exact Z.at9 | exact Z.at10 | exact Z.at11 | exact Z.at12) (by first | decide | (simp; done) | (simp; omega)) ?_ | refine Z.ZO.storePR rfl rfl hs rfl rfl (by kernel_rfl) (by first | (simp [Value.oneCell']; done) | (refine Z.all_one ?_; assumption)) (by first | exact SX.at0 | exact SX.at1 | exact SX.at2 | exact SX.at3 | exact SX.at4 | exact SX.at5 | exact Z.at6 | exact Z.at7 | exact Z.at8 | exact Z.at9 | exact Z.at10 | exact Z.at11 | exact Z.at12) (by first | decide | (simp; done) | (simp; omega)) ?_
      clear hs; intro ws hs
      simp only [Nat.zero_add, Nat.add_zero, Nat.reduceAdd, Int.reduceToNat, Nat.reduceMul, List.set_cons_zero, List.set_cons_succ, List.setIfInBounds_toArray] at hs
      try simp only [Z.putL, Nat.zero_add] at hs
      refine Z.tk (Dn := fun _ => true) (i := 7) (fun _ => ⟨_, hs, by first | (simp; done) | exact fun e he => List.mem_append_right _ he⟩) ?_
      refine Z.td (by rfl) (by kernel_rfl) ?_
      refine Z.only [1, 2, 4, 6] rfl ?_
      refine Z.nthen ?_
      exact Z.meet (g6, _, _) (by refine ⟨?_, ?_, ?_, ?_, trivial⟩ <;> (first | rfl | (refine Z.lookv rfl ?_; simp; done) | (refine Z.lookv rfl ?_; simp; omega))) ⟨hcv, by first | exact hs | exact hs.sel [1, 0, 2, 3] (by decide)⟩
  · clear hs
    rintro ⟨g6, B, cb⟩ w5 ⟨hcb, hs⟩
    refine Z.only [1, 2, 4, 6] rfl ?_
    (try dsimp only at hs)
    refine Z.seq ?_
    refine Z.seq ?_
    refine Z.region ?_
    refine Z.l rfl rfl (by rfl) (Z.keepS hs) (Z.Yd.fieldA (m := 1) rfl (by kernel_rfl)) ?_
    refine Z.l rfl rfl (by rfl) (Z.keepS hs) (by first | exact Z.Yd.load rfl Try.isAgg22 (fun _ => Z.cellB (by first | ((repeat (first | exact List.mem_cons_self | refine List.mem_cons_of_mem _ ?_ | refine List.mem_append_right _ ?_)); done) | fail) rfl) | exact Z.Yd.load rfl Try.isAgg22 (fun _ => Z.cellO (by assumption) (by simp) (by assumption)) | fail "load 6.1") ?_
    refine Z.l rfl rfl (by rfl) (Z.keepS hs) (Z.Yd.lenS rfl Try.underlying22) ?_
    refine Z.l rfl rfl (by rfl) (Z.keepS hs) (Z.Yd.sub rfl rfl (fun hG => Z.wi64 (by first | omega | (have hG' := Z.gh rfl hG; simp at hG'; omega)))) ?_
    refine Z.lb 1 rfl ?_
    refine Z.lnil ?_
    refine Z.only [1, 2, 4, 6, 7] rfl ?_
    obtain ⟨R, hR⟩ : ∃ R, fitK l ack n = R := ⟨_, rfl⟩
    rw [hR]
    have hJ : (szK l m ≤ n ∧ (ack, m) = R) ∨ (¬ szK l m ≤ n ∧ 1 ≤ m ∧ m ≤ m ∧ fitR l n (m - 1) = R) := by
      rw [← hR, ← hl]
      unfold fitK
      by_cases hz : szK l l.length ≤ n
      · exact .inl ⟨hz, by rw [if_pos hz]⟩
      · refine .inr ⟨hz, ?_, Nat.le_refl _, by rw [if_neg hz]⟩
        rcases Nat.eq_zero_or_pos l.length with h0 | h0
        · rw [h0, szK0] at hz; omega
        · exact h0
    refine Z.nthen ?_
    refine Z.block ?_
    refine Z.loopk (ι := Int × Nat × Nat × Nat) [1, 2, 4, 6] rfl (fun x => [(7, [], .int .i64 ((x.2.2.2 : Int) - 1))]) (fun x wr => (x.2.1 ≤ m ∧ x.2.1 ≤ x.2.2.1 ∧ ((szK l x.2.1 ≤ n ∧ (x.1, x.2.1) = R) ∨ (¬ szK l x.2.1 ≤ n ∧ 1 ≤ x.2.2.2 ∧ x.2.2.2 ≤ x.2.1 ∧ fitR l n (x.2.2.2 - 1) = R))) ∧ SX.St w [] wr [SX.Ent.blk g6 24 #[.int .i64 x.1, .slice B x.2.1 x.2.2.1], SX.Ent.row (.slice B m cb) 45 4 m (l.flatMap NkV.cells), SX.Ent.blk g4 24 #[.int .i64 0, .slice none 0 0], SX.Ent.blk g2 24 #[.int .i64 ack, .slice A m c]]) (fun x => x.2.2.2) (ack, m, cb, m) (by refine ⟨?_, trivial⟩ <;> (first | rfl | (refine Z.lookv rfl ?_; simp; done) | (refine Z.lookv rfl ?_; simp; omega))) ⟨⟨Nat.le_refl _, hcb, hJ⟩, hs⟩ ?_
    clear hs
    rintro ⟨a1, j, cj, K⟩ w6 ⟨⟨hj, hjc, hJ⟩, hs⟩
    refine Z.only [1, 2, 4, 6, 7] rfl ?_
    (try dsimp only at hs)
    dsimp only at hj hjc hJ
    have hsz : szK l j = (((sizeN (l.take j) + 7) / 8 : Nat) : Int) := rfl
    refine Z.seq ?_
    refine Z.seq ?_
    refine Z.region ?_
    refine Z.l rfl rfl (by rfl) (Z.keepS hs) (Z.Yd.fieldA (m := 1) rfl (by kernel_rfl)) ?_
    refine Z.l rfl rfl (by rfl) (Z.keepS hs) (by first | exact Z.Yd.load rfl Try.isAgg22 (fun _ => Z.cellB (by first | ((repeat (first | exact List.mem_cons_self | refine List.mem_cons_of_mem _ ?_ | refine List.mem_append_right _ ?_)); done) | fail) rfl) | exact Z.Yd.load rfl Try.isAgg22 (fun _ => Z.cellO (by assumption) (by simp) (by assumption)) | fail "load 7.1") ?_
    refine Z.le rfl trivial ?_
    refine Z.ZO.call rfl rfl (by rfl) rfl rfl Try.call37 rfl (size_any B j cj (l.take j) _ (Sl.pre (hs.slm (by first | ((repeat (first | exact List.mem_cons_self | refine List.mem_cons_of_mem _ ?_ | refine List.mem_append_right _ ?_)); done) | fail)) (nk_pre l j)) (by simp; omega) (by omega)) ?_
    rintro v7_2 w7_2 ⟨rfl, hy⟩
    replace hs := hs.call hy
    clear hy
    try simp only [List.cons_append, List.nil_append, List.append_nil] at hs
    refine Z.lb 2 rfl ?_
    refine Z.lnil ?_
    refine Z.only [1, 2, 4, 6, 7, 35] rfl ?_
    refine Z.nthen ?_
    refine Z.cond rfl (fun hc7 => ?_) (fun hc7 => ?_)
    · first
        | (exfalso; simp at hc7 <;> omega)
        | (
          (try simp at hc7)
          have hbig : ¬ szK l j ≤ n := by rw [hsz]; omega
          have hJ2 := hJ.resolve_left fun h => hbig h.1
          obtain ⟨-, hK1, hK2, hfr⟩ := hJ2
          obtain ⟨k, rfl⟩ : ∃ k, K = k + 1 := ⟨K - 1, by omega⟩
          rw [show (((k + 1 : Nat) : Int) - 1) = (k : Int) from by omega]
          rw [show k + 1 - 1 = k from rfl] at hfr
          obtain ⟨b, off, rfl, hx2⟩ := hx.sx.some (by omega)
          obtain ⟨x, hxk⟩ : ∃ f, l[k]? = some f := ⟨_, List.getElem?_eq_getElem (by omega)⟩
          have hsk : snK l k = x.sn := by unfold snK; rw [hxk]
          refine Z.skip ?_
          refine Z.nthen ?_
          refine Z.seq ?_
          refine Z.block ?_
          refine Z.seq ?_
          refine Z.seq ?_
          refine Z.drawK (fun _ => true) mixed hs ?_
          clear hs; intro wd9 hs
          refine Z.tb [0, 1, 2] (by kernel_rfl) rfl ⟨_, hs, by first | (simp; done) | exact fun e he => List.mem_append_right _ he⟩ rfl ?_
          refine Z.split (s := 40) rfl (fun hsp40 => ?_) (fun hsp40 => ?_)
          · first
              | (exfalso; simp at hsp40 <;> omega)
              | (
                refine Z.yes (s := 40) (b := true) rfl hsp40 rfl ?_
                (try simp at hsp40)
                obtain ⟨p, hp⟩ : ∃ f, l[k - 1]? = some f := ⟨_, List.getElem?_eq_getElem (by omega)⟩
                have hsp : snK l (k - 1) = p.sn := by unfold snK; rw [hp]
                have hk1 : ((k : Int) - 1) = ((k - 1 : Nat) : Int) := by omega
                refine Z.t 3 rfl rfl rfl (by rfl) (by kernel_rfl) ⟨_, hs, by first | (simp; done) | exact fun e he => List.mem_append_right _ he⟩ (Z.Yd.fieldA (m := 1) rfl (by kernel_rfl)) ?_
                refine Z.t 4 rfl rfl rfl (by rfl) (by kernel_rfl) ⟨_, hs, by first | (simp; done) | exact fun e he => List.mem_append_right _ he⟩ (by first | exact Z.Yd.load rfl Try.isAgg22 (fun _ => Z.cellB (by first | ((repeat (first | exact List.mem_cons_self | refine List.mem_cons_of_mem _ ?_ | refine List.mem_append_right _ ?_)); done) | fail) rfl) | exact Z.Yd.load rfl Try.isAgg22 (fun _ => Z.cellO (by assumption) (by simp) (by assumption)) | fail "load 9.4") ?_
                refine Z.tb [5] (by kernel_rfl) rfl ⟨_, hs, by first | (simp; done) | exact fun e he => List.mem_append_right _ he⟩ rfl ?_
                refine Z.t 6 rfl rfl rfl (by rfl) (by kernel_rfl) ⟨_, hs, by first | (simp; done) | exact fun e he => List.mem_append_right _ he⟩ (Z.Yd.elem rfl rfl Try.underlying22 Try.sizeOf45 (fun hG => ⟨(by first | omega | (have hG' := Z.gh rfl hG; simp at hG'; omega)), (by first | omega | (have hG' := Z.gh rfl hG; simp at hG'; omega))⟩)) ?_
                refine Z.t 7 rfl rfl rfl (by rfl) (by kernel_rfl) ⟨_, hs, by first | (simp; done) | exact fun e he => List.mem_append_right _ he⟩ (Z.Yd.fieldA (m := 0) rfl (by kernel_rfl)) ?_
                refine Z.t 8 rfl rfl rfl (by rfl) (by kernel_rfl) ⟨_, hs, by first | (simp; done) | exact fun e he => List.mem_append_right _ he⟩ (Z.Yd.load rfl Try.isAgg3 (fun _ => Z.cellXf hx2 nk_len hxk rfl)) ?_
                refine Z.t 9 rfl rfl rfl (by rfl) (by kernel_rfl) ⟨_, hs, by first | (simp; done) | exact fun e he => List.mem_append_right _ he⟩ (Z.Yd.fieldA (m := 1) rfl (by kernel_rfl)) ?_
                refine Z.t 10 rfl rfl rfl (by rfl) (by kernel_rfl) ⟨_, hs, by first | (simp; done) | exact fun e he => List.mem_append_right _ he⟩ (by first | exact Z.Yd.load rfl Try.isAgg22 (fun _ => Z.cellB (by first | ((repeat (first | exact List.mem_cons_self | refine List.mem_cons_of_mem _ ?_ | refine List.mem_append_right _ ?_)); done) | fail) rfl) | exact Z.Yd.load rfl Try.isAgg22 (fun _ => Z.cellO (by assumption) (by simp) (by assumption)) | fail "load 9.10") ?_
                refine Z.tb [11] (by kernel_rfl) rfl ⟨_, hs, by first | (simp; done) | exact fun e he => List.mem_append_right _ he⟩ rfl ?_
                refine Z.t 12 rfl rfl rfl (by rfl) (by kernel_rfl) ⟨_, hs, by first | (simp; done) | exact fun e he => List.mem_append_right _ he⟩ (Z.Yd.sub rfl rfl (fun hG => Z.wi64 (by first | omega | (have hG' := Z.gh rfl hG; simp at hG'; omega)))) ?_
                refine Z.t 13 rfl rfl rfl (by rfl) (by kernel_rfl) ⟨_, hs, by first | (simp; done) | exact fun e he => List.mem_append_right _ he⟩ (Z.Yd.elem rfl rfl Try.underlying22 Try.sizeOf45 (fun hG => ⟨(by first | omega | (have hG' := Z.gh rfl hG; simp at hG'; omega)), (by first | omega | (have hG' := Z.gh rfl hG; simp at hG'; omega))⟩)) ?_
                refine Z.t 14 rfl rfl rfl (by rfl) (by kernel_rfl) ⟨_, hs, by first | (simp; done) | exact fun e he => List.mem_append_right _ he⟩ (Z.Yd.fieldA (m := 0) rfl (by kernel_rfl)) ?_
                refine Z.t 15 rfl rfl rfl (by rfl) (by kernel_rfl) ⟨_, hs, by first | (simp; done) | exact fun e he => List.mem_append_right _ he⟩ (Z.Yd.load rfl Try.isAgg3 (fun _ => hk1 ▸ Z.cellXf hx2 nk_len hp rfl)) ?_
                refine Z.tb [16] (by kernel_rfl) rfl ⟨_, hs, by first | (simp; done) | exact fun e he => List.mem_append_right _ he⟩ rfl ?_
                refine Z.yes (s := 40) (b := true) rfl rfl rfl ?_
                refine Z.t 17 rfl rfl rfl (by rfl) (by kernel_rfl) ⟨_, hs, by first | (simp; done) | exact fun e he => List.mem_append_right _ he⟩ (Z.Yd.pickT rfl rfl) ?_
                refine Z.td (by rfl) (by kernel_rfl) ?_
                refine Z.only [1, 2, 4, 6, 7, 55] rfl ?_
                refine Z.nthen ?_
                refine Z.cond rfl (fun hc9 => ?_) (fun hc9 => ?_)
                · first
                    | (exfalso; simp at hc9 <;> omega)
                    | (
                      (try simp at hc9)
                      refine Z.exit ?_
                      refine Z.xthen ?_
                      refine Z.xblock ?_
                      refine Z.nthen ?_
                      refine Z.region ?_
                      refine Z.lb 1 rfl ?_
                      refine Z.l rfl rfl (by rfl) (Z.keepS hs) (Z.Yd.sub rfl rfl (fun hG => Z.wi64 (by first | omega | (have hG' := Z.gh rfl hG; simp at hG'; omega)))) ?_
                      refine Z.lb 1 rfl ?_
                      refine Z.lnil ?_
                      refine Z.only [1, 2, 4, 6, 7] rfl ?_
                      refine Z.nthen ?_
                      first
                      | (have hst1 := fitStep1 (l := l) (n := n) (k := k) (by omega) (by rw [hsk, hsp]; assumption)
                         exact Z.again (a1, j, cj, k) (by refine ⟨?_, ?_, ?_, ?_, ?_, trivial⟩ <;> (first | rfl | (refine Z.lookv rfl ?_; simp; done) | (refine Z.lookv rfl ?_; simp; omega))) ⟨⟨hj, hjc, .inr ⟨hbig, by simp only; omega, by simp only; omega, hst1.trans hfr⟩⟩, hs⟩ (by simp only; omega))
                      | (have hne : k = 0 ∨ snK l k ≠ snK l (k - 1) := by
                           first
                           | exact .inr (by rw [hsk, hsp]; assumption)
                           | exact .inl (by omega)
                         have hst2 : (szK l k ≤ n ∧ (snK l k, k) = R) ∨ (¬ szK l k ≤ n ∧ 1 ≤ k ∧ k ≤ k ∧ fitR l n (k - 1) = R) := by
                           rcases fitStep2 (l := l) (n := n) (k := k) hn hne with ⟨h1, h2⟩ | ⟨h1, h2, h3⟩
                           · exact .inl ⟨h1, h2.trans hfr⟩
                           · exact .inr ⟨h1, h2, by omega, h3.trans hfr⟩
                         rw [hsk] at hst2
                         rw [slA_zero, Nat.sub_zero] at hs
                         exact Z.again (x.sn, k, k, k) (by refine ⟨?_, ?_, ?_, ?_, ?_, trivial⟩ <;> (first | rfl | (refine Z.lookv rfl ?_; simp; done) | (refine Z.lookv rfl ?_; simp; omega))) ⟨⟨by simp only; omega, Nat.le_refl _, hst2⟩, hs⟩ (by simp only; omega))
                      )
                · first
                    | (exfalso; simp at hc9 <;> omega)
                    | (
                      (try simp at hc9)
                      refine Z.skip ?_
                      refine Z.nthen ?_
                      refine Z.drawK (fun j => j != 12) mixed hs ?_
                      clear hs; intro wd10 hs
                      refine Z.t 0 rfl rfl rfl (by rfl) (by kernel_rfl) ⟨_, hs, by first | (simp; done) | exact fun e he => List.mem_append_right _ he⟩ (Z.Yd.fieldA (m := 1) rfl (by kernel_rfl)) ?_
                      refine Z.t 1 rfl rfl rfl (by rfl) (by kernel_rfl) ⟨_, hs, by first | (simp; done) | exact fun e he => List.mem_append_right _ he⟩ (by first | exact Z.Yd.load rfl Try.isAgg22 (fun _ => Z.cellB (by first | ((repeat (first | exact List.mem_cons_self | refine List.mem_cons_of_mem _ ?_ | refine List.mem_append_right _ ?_)); done) | fail) rfl) | exact Z.Yd.load rfl Try.isAgg22 (fun _ => Z.cellO (by assumption) (by simp) (by assumption)) | fail "load 10.1") ?_
                      refine Z.tb [2] (by kernel_rfl) rfl ⟨_, hs, by first | (simp; done) | exact fun e he => List.mem_append_right _ he⟩ rfl ?_
                      refine Z.t 3 rfl rfl rfl (by rfl) (by kernel_rfl) ⟨_, hs, by first | (simp; done) | exact fun e he => List.mem_append_right _ he⟩ (Z.Yd.elem rfl rfl Try.underlying22 Try.sizeOf45 (fun hG => ⟨(by first | omega | (have hG' := Z.gh rfl hG; simp at hG'; omega)), (by first | omega | (have hG' := Z.gh rfl hG; simp at hG'; omega))⟩)) ?_
                      refine Z.t 4 rfl rfl rfl (by rfl) (by kernel_rfl) ⟨_, hs, by first | (simp; done) | exact fun e he => List.mem_append_right _ he⟩ (Z.Yd.fieldA (m := 0) rfl (by kernel_rfl)) ?_
                      refine Z.t 5 rfl rfl rfl (by rfl) (by kernel_rfl) ⟨_, hs, by first | (simp; done) | exact fun e he => List.mem_append_right _ he⟩ (Z.Yd.load rfl Try.isAgg3 (fun _ => Z.cellXf hx2 nk_len hxk rfl)) ?_
                      refine Z.t 6 rfl rfl rfl (by rfl) (by kernel_rfl) ⟨_, hs, by first | (simp; done) | exact fun e he => List.mem_append_right _ he⟩ (Z.Yd.fieldA (m := 1) rfl (by kernel_rfl)) ?_
                      refine Z.t 7 rfl rfl rfl (by rfl) (by kernel_rfl) ⟨_, hs, by first | (simp; done) | exact fun e he => List.mem_append_right _ he⟩ (by first | exact Z.Yd.load rfl Try.isAgg22 (fun _ => Z.cellB (by first | ((repeat (first | exact List.mem_cons_self | refine List.mem_cons_of_mem _ ?_ | refine List.mem_append_right _ ?_)); done) | fail) rfl) | exact Z.Yd.load rfl Try.isAgg22 (fun _ => Z.cellO (by assumption) (by simp) (by assumption)) | fail "load 10.7") ?_
                      refine Z.tb [8, 9] (by kernel_rfl) rfl ⟨_, hs, by first | (simp; done) | exact fun e he => List.mem_append_right _ he⟩ rfl ?_
                      refine Z.t 10 rfl rfl rfl (by rfl) (by kernel_rfl) ⟨_, hs, by first | (simp; done) | exact fun e he => List.mem_append_right _ he⟩ (Z.Yd.cut3 0 k k rfl rfl rfl rfl Try.underlying22 Try.sizeOf45 (fun hG => ⟨(by first | omega | (have hG' := Z.gh rfl hG; simp at hG'; omega)), (by first | omega | (have hG' := Z.gh rfl hG; simp at hG'; omega)), (by first | omega | (have hG' := Z.gh rfl hG; simp at hG'; omega)), (by first | omega | (have hG' := Z.gh rfl hG; simp at hG'; omega)), (by first | omega | (have hG' := Z.gh rfl hG; simp at hG'; omega))⟩)) ?_
                      refine Z.t 11 rfl rfl rfl (by rfl) (by kernel_rfl) ⟨_, hs, by first | (simp; done) | exact fun e he => List.mem_append_right _ he⟩ (Z.Yd.buildL [(0, 1), (1, 1)] [.int .i64 0, .slice none 0 0] rfl rfl (by intro w; kernel_rfl)) ?_
                      refine Z.tn 12 rfl rfl (by kernel_rfl) rfl trivial ?_
                      first | refine Z.ZO.storeA rfl rfl hs rfl rfl (by kernel_rfl) (by first | (simp [Value.oneCell']; done) | (refine Z.all_one ?_; assumption)) (by first | exact SX.at0 | exact SX.at1 | exact SX.at2 | exact SX.at3 | exact SX.at4 | exact SX.at5 | exact Z.at6 | exact Z.at7 | exact Z.at8 | exact Z.at9 | exact Z.at10 | exact Z.at11 | exact Z.at12) (by rfl) ?_ | refine Z.ZO.storeP rfl rfl hs rfl rfl (by kernel_rfl) (by first | (simp [Value.oneCell']; done) | (refine Z.all_one ?_; assumption)) (by first | exact SX.at0 | exact SX.at1 | exact SX.at2 | exact SX.at3 | exact SX.at4 | exact SX.at5 | exact Z.at6 | exact Z.at7 | exact Z.at8 | exact Z.at9 | exact Z.at10 | exact Z.at11 | exact Z.at12) (by first | decide | (simp; done) | (simp; omega)) ?_ | refine Z.ZO.storePR rfl rfl hs rfl rfl (by kernel_rfl) (by first | (simp [Value.oneCell']; done) | (refine Z.all_one ?_; assumption)) (by first | exact SX.at0 | exact SX.at1 | exact SX.at2 | exact SX.at3 | exact SX.at4 | exact SX.at5 | exact Z.at6 | exact Z.at7 | exact Z.at8 | exact Z.at9 | exact Z.at10 | exact Z.at11 | exact Z.at12) (by first | decide | (simp; done) | (simp; omega)) ?_
                      clear hs; intro ws hs
                      simp only [Nat.zero_add, Nat.add_zero, Nat.reduceAdd, Int.reduceToNat, Nat.reduceMul, List.set_cons_zero, List.set_cons_succ, List.setIfInBounds_toArray] at hs
                      try simp only [Z.putL, Nat.zero_add] at hs
                      refine Z.tk (Dn := fun j => j != 12) (i := 12) (fun h => absurd h (by decide)) ?_
                      refine Z.td (by rfl) (by kernel_rfl) ?_
                      refine Z.only [1, 2, 4, 6, 7] rfl ?_
                      refine Z.nblock ?_
                      refine Z.nthen ?_
                      refine Z.region ?_
                      refine Z.lb 1 rfl ?_
                      refine Z.l rfl rfl (by rfl) (Z.keepS hs) (Z.Yd.sub rfl rfl (fun hG => Z.wi64 (by first | omega | (have hG' := Z.gh rfl hG; simp at hG'; omega)))) ?_
                      refine Z.lb 1 rfl ?_
                      refine Z.lnil ?_
                      refine Z.only [1, 2, 4, 6, 7] rfl ?_
                      refine Z.nthen ?_
                      first
                      | (have hst1 := fitStep1 (l := l) (n := n) (k := k) (by omega) (by rw [hsk, hsp]; assumption)
                         exact Z.again (a1, j, cj, k) (by refine ⟨?_, ?_, ?_, ?_, ?_, trivial⟩ <;> (first | rfl | (refine Z.lookv rfl ?_; simp; done) | (refine Z.lookv rfl ?_; simp; omega))) ⟨⟨hj, hjc, .inr ⟨hbig, by simp only; omega, by simp only; omega, hst1.trans hfr⟩⟩, hs⟩ (by simp only; omega))
                      | (have hne : k = 0 ∨ snK l k ≠ snK l (k - 1) := by
                           first
                           | exact .inr (by rw [hsk, hsp]; assumption)
                           | exact .inl (by omega)
                         have hst2 : (szK l k ≤ n ∧ (snK l k, k) = R) ∨ (¬ szK l k ≤ n ∧ 1 ≤ k ∧ k ≤ k ∧ fitR l n (k - 1) = R) := by
                           rcases fitStep2 (l := l) (n := n) (k := k) hn hne with ⟨h1, h2⟩ | ⟨h1, h2, h3⟩
                           · exact .inl ⟨h1, h2.trans hfr⟩
                           · exact .inr ⟨h1, h2, by omega, h3.trans hfr⟩
                         rw [hsk] at hst2
                         rw [slA_zero, Nat.sub_zero] at hs
                         exact Z.again (x.sn, k, k, k) (by refine ⟨?_, ?_, ?_, ?_, ?_, trivial⟩ <;> (first | rfl | (refine Z.lookv rfl ?_; simp; done) | (refine Z.lookv rfl ?_; simp; omega))) ⟨⟨by simp only; omega, Nat.le_refl _, hst2⟩, hs⟩ (by simp only; omega))
                      )
                )
          · first
              | (exfalso; simp at hsp40 <;> omega)
              | (
                refine Z.yes (s := 40) (b := false) rfl hsp40 rfl ?_
                (try simp at hsp40)
                refine Z.t 3 rfl rfl rfl (by rfl) (by kernel_rfl) ⟨_, hs, by first | (simp; done) | exact fun e he => List.mem_append_right _ he⟩ (Z.Yd.off (v := undef) 40 true rfl (by first | (simp; done) | (simp_all; done)) (by intro c h; cases h)) ?_
                refine Z.t 4 rfl rfl rfl (by rfl) (by kernel_rfl) ⟨_, hs, by first | (simp; done) | exact fun e he => List.mem_append_right _ he⟩ (Z.Yd.off (v := undef) 40 true rfl (by first | (simp; done) | (simp_all; done)) (by intro c h; cases h)) ?_
                refine Z.t 5 rfl rfl rfl (by rfl) (by kernel_rfl) ⟨_, hs, by first | (simp; done) | exact fun e he => List.mem_append_right _ he⟩ (Z.Yd.off (v := undef) 40 true rfl (by first | (simp; done) | (simp_all; done)) (by intro c h; cases h)) ?_
                refine Z.t 6 rfl rfl rfl (by rfl) (by kernel_rfl) ⟨_, hs, by first | (simp; done) | exact fun e he => List.mem_append_right _ he⟩ (Z.Yd.off (v := undef) 40 true rfl (by first | (simp; done) | (simp_all; done)) (by intro c h; cases h)) ?_
                refine Z.t 7 rfl rfl rfl (by rfl) (by kernel_rfl) ⟨_, hs, by first | (simp; done) | exact fun e he => List.mem_append_right _ he⟩ (Z.Yd.off (v := undef) 40 true rfl (by first | (simp; done) | (simp_all; done)) (by intro c h; cases h)) ?_
                refine Z.t 8 rfl rfl rfl (by rfl) (by kernel_rfl) ⟨_, hs, by first | (simp; done) | exact fun e he => List.mem_append_right _ he⟩ (Z.Yd.off (v := undef) 40 true rfl (by first | (simp; done) | (simp_all; done)) (by intro c h; cases h)) ?_
                refine Z.t 9 rfl rfl rfl (by rfl) (by kernel_rfl) ⟨_, hs, by first | (simp; done) | exact fun e he => List.mem_append_right _ he⟩ (Z.Yd.off (v := undef) 40 true rfl (by first | (simp; done) | (simp_all; done)) (by intro c h; cases h)) ?_
                refine Z.t 10 rfl rfl rfl (by rfl) (by kernel_rfl) ⟨_, hs, by first | (simp; done) | exact fun e he => List.mem_append_right _ he⟩ (Z.Yd.off (v := undef) 40 true rfl (by first | (simp; done) | (simp_all; done)) (by intro c h; cases h)) ?_
                refine Z.t 11 rfl rfl rfl (by rfl) (by kernel_rfl) ⟨_, hs, by first | (simp; done) | exact fun e he => List.mem_append_right _ he⟩ (Z.Yd.off (v := undef) 40 true rfl (by first | (simp; done) | (simp_all; done)) (by intro c h; cases h)) ?_
                refine Z.t 12 rfl rfl rfl (by rfl) (by kernel_rfl) ⟨_, hs, by first | (simp; done) | exact fun e he => List.mem_append_right _ he⟩ (Z.Yd.off (v := undef) 40 true rfl (by first | (simp; done) | (simp_all; done)) (by intro c h; cases h)) ?_
                refine Z.t 13 rfl rfl rfl (by rfl) (by kernel_rfl) ⟨_, hs, by first | (simp; done) | exact fun e he => List.mem_append_right _ he⟩ (Z.Yd.off (v := undef) 40 true rfl (by first | (simp; done) | (simp_all; done)) (by intro c h; cases h)) ?_
                refine Z.t 14 rfl rfl rfl (by rfl) (by kernel_rfl) ⟨_, hs, by first | (simp; done) | exact fun e he => List.mem_append_right _ he⟩ (Z.Yd.off (v := undef) 40 true rfl (by first | (simp; done) | (simp_all; done)) (by intro c h; cases h)) ?_
                refine Z.t 15 rfl rfl rfl (by rfl) (by kernel_rfl) ⟨_, hs, by first | (simp; done) | exact fun e he => List.mem_append_right _ he⟩ (Z.Yd.off (v := undef) 40 true rfl (by first | (simp; done) | (simp_all; done)) (by intro c h; cases h)) ?_
                refine Z.t 16 rfl rfl rfl (by rfl) (by kernel_rfl) ⟨_, hs, by first | (simp; done) | exact fun e he => List.mem_append_right _ he⟩ (Z.Yd.off (v := undef) 40 true rfl (by first | (simp; done) | (simp_all; done)) (by intro c h; cases h)) ?_
                refine Z.yes (s := 40) (b := false) rfl rfl rfl ?_
                refine Z.t 17 rfl rfl rfl (by rfl) (by kernel_rfl) ⟨_, hs, by first | (simp; done) | exact fun e he => List.mem_append_right _ he⟩ (Z.Yd.pickF rfl rfl) ?_
                refine Z.td (by rfl) (by kernel_rfl) ?_
                refine Z.only [1, 2, 4, 6, 7, 55] rfl ?_
                refine Z.nthen ?_
                refine Z.cond rfl (fun hc9 => ?_) (fun hc9 => ?_)
                · first
                    | (exfalso; simp at hc9 <;> omega)
                    | (
                      (try simp at hc9)
                      refine Z.exit ?_
                      refine Z.xthen ?_
                      refine Z.xblock ?_
                      refine Z.nthen ?_
                      refine Z.region ?_
                      refine Z.lb 1 rfl ?_
                      refine Z.l rfl rfl (by rfl) (Z.keepS hs) (Z.Yd.sub rfl rfl (fun hG => Z.wi64 (by first | omega | (have hG' := Z.gh rfl hG; simp at hG'; omega)))) ?_
                      refine Z.lb 1 rfl ?_
                      refine Z.lnil ?_
                      refine Z.only [1, 2, 4, 6, 7] rfl ?_
                      refine Z.nthen ?_
                      first
                      | (have hst1 := fitStep1 (l := l) (n := n) (k := k) (by omega) (by rw [hsk, hsp]; assumption)
                         exact Z.again (a1, j, cj, k) (by refine ⟨?_, ?_, ?_, ?_, ?_, trivial⟩ <;> (first | rfl | (refine Z.lookv rfl ?_; simp; done) | (refine Z.lookv rfl ?_; simp; omega))) ⟨⟨hj, hjc, .inr ⟨hbig, by simp only; omega, by simp only; omega, hst1.trans hfr⟩⟩, hs⟩ (by simp only; omega))
                      | (have hne : k = 0 ∨ snK l k ≠ snK l (k - 1) := by
                           first
                           | exact .inr (by rw [hsk, hsp]; assumption)
                           | exact .inl (by omega)
                         have hst2 : (szK l k ≤ n ∧ (snK l k, k) = R) ∨ (¬ szK l k ≤ n ∧ 1 ≤ k ∧ k ≤ k ∧ fitR l n (k - 1) = R) := by
                           rcases fitStep2 (l := l) (n := n) (k := k) hn hne with ⟨h1, h2⟩ | ⟨h1, h2, h3⟩
                           · exact .inl ⟨h1, h2.trans hfr⟩
                           · exact .inr ⟨h1, h2, by omega, h3.trans hfr⟩
                         rw [hsk] at hst2
                         rw [slA_zero, Nat.sub_zero] at hs
                         exact Z.again (x.sn, k, k, k) (by refine ⟨?_, ?_, ?_, ?_, ?_, trivial⟩ <;> (first | rfl | (refine Z.lookv rfl ?_; simp; done) | (refine Z.lookv rfl ?_; simp; omega))) ⟨⟨by simp only; omega, Nat.le_refl _, hst2⟩, hs⟩ (by simp only; omega))
                      )
                · first
                    | (exfalso; simp at hc9 <;> omega)
                    | (
                      (try simp at hc9)
                      refine Z.skip ?_
                      refine Z.nthen ?_
                      refine Z.drawK (fun j => j != 12) mixed hs ?_
                      clear hs; intro wd10 hs
                      refine Z.t 0 rfl rfl rfl (by rfl) (by kernel_rfl) ⟨_, hs, by first | (simp; done) | exact fun e he => List.mem_append_right _ he⟩ (Z.Yd.fieldA (m := 1) rfl (by kernel_rfl)) ?_
                      refine Z.t 1 rfl rfl rfl (by rfl) (by kernel_rfl) ⟨_, hs, by first | (simp; done) | exact fun e he => List.mem_append_right _ he⟩ (by first | exact Z.Yd.load rfl Try.isAgg22 (fun _ => Z.cellB (by first | ((repeat (first | exact List.mem_cons_self | refine List.mem_cons_of_mem _ ?_ | refine List.mem_append_right _ ?_)); done) | fail) rfl) | exact Z.Yd.load rfl Try.isAgg22 (fun _ => Z.cellO (by assumption) (by simp) (by assumption)) | fail "load 10.1") ?_
                      refine Z.tb [2] (by kernel_rfl) rfl ⟨_, hs, by first | (simp; done) | exact fun e he => List.mem_append_right _ he⟩ rfl ?_
                      refine Z.t 3 rfl rfl rfl (by rfl) (by kernel_rfl) ⟨_, hs, by first | (simp; done) | exact fun e he => List.mem_append_right _ he⟩ (Z.Yd.elem rfl rfl Try.underlying22 Try.sizeOf45 (fun hG => ⟨(by first | omega | (have hG' := Z.gh rfl hG; simp at hG'; omega)), (by first | omega | (have hG' := Z.gh rfl hG; simp at hG'; omega))⟩)) ?_
                      refine Z.t 4 rfl rfl rfl (by rfl) (by kernel_rfl) ⟨_, hs, by first | (simp; done) | exact fun e he => List.mem_append_right _ he⟩ (Z.Yd.fieldA (m := 0) rfl (by kernel_rfl)) ?_
                      refine Z.t 5 rfl rfl rfl (by rfl) (by kernel_rfl) ⟨_, hs, by first | (simp; done) | exact fun e he => List.mem_append_right _ he⟩ (Z.Yd.load rfl Try.isAgg3 (fun _ => Z.cellXf hx2 nk_len hxk rfl)) ?_
                      refine Z.t 6 rfl rfl rfl (by rfl) (by kernel_rfl) ⟨_, hs, by first | (simp; done) | exact fun e he => List.mem_append_right _ he⟩ (Z.Yd.fieldA (m := 1) rfl (by kernel_rfl)) ?_
                      refine Z.t 7 rfl rfl rfl (by rfl) (by kernel_rfl) ⟨_, hs, by first | (simp; done) | exact fun e he => List.mem_append_right _ he⟩ (by first | exact Z.Yd.load rfl Try.isAgg22 (fun _ => Z.cellB (by first | ((repeat (first | exact List.mem_cons_self | refine List.mem_cons_of_mem _ ?_ | refine List.mem_append_right _ ?_)); done) | fail) rfl) | exact Z.Yd.load rfl Try.isAgg22 (fun _ => Z.cellO (by assumption) (by simp) (by assumption)) | fail "load 10.7") ?_
                      refine Z.tb [8, 9] (by kernel_rfl) rfl ⟨_, hs, by first | (simp; done) | exact fun e he => List.mem_append_right _ he⟩ rfl ?_
                      refine Z.t 10 rfl rfl rfl (by rfl) (by kernel_rfl) ⟨_, hs, by first | (simp; done) | exact fun e he => List.mem_append_right _ he⟩ (Z.Yd.cut3 0 k k rfl rfl rfl rfl Try.underlying22 Try.sizeOf45 (fun hG => ⟨(by first | omega | (have hG' := Z.gh rfl hG; simp at hG'; omega)), (by first | omega | (have hG' := Z.gh rfl hG; simp at hG'; omega)), (by first | omega | (have hG' := Z.gh rfl hG; simp at hG'; omega)), (by first | omega | (have hG' := Z.gh rfl hG; simp at hG'; omega)), (by first | omega | (have hG' := Z.gh rfl hG; simp at hG'; omega))⟩)) ?_
                      refine Z.t 11 rfl rfl rfl (by rfl) (by kernel_rfl) ⟨_, hs, by first | (simp; done) | exact fun e he => List.mem_append_right _ he⟩ (Z.Yd.buildL [(0, 1), (1, 1)] [.int .i64 0, .slice none 0 0] rfl rfl (by intro w; kernel_rfl)) ?_
                      refine Z.tn 12 rfl rfl (by kernel_rfl) rfl trivial ?_
                      first | refine Z.ZO.storeA rfl rfl hs rfl rfl (by kernel_rfl) (by first | (simp [Value.oneCell']; done) | (refine Z.all_one ?_; assumption)) (by first | exact SX.at0 | exact SX.at1 | exact SX.at2 | exact SX.at3 | exact SX.at4 | exact SX.at5 | exact Z.at6 | exact Z.at7 | exact Z.at8 | exact Z.at9 | exact Z.at10 | exact Z.at11 | exact Z.at12) (by rfl) ?_ | refine Z.ZO.storeP rfl rfl hs rfl rfl (by kernel_rfl) (by first | (simp [Value.oneCell']; done) | (refine Z.all_one ?_; assumption)) (by first | exact SX.at0 | exact SX.at1 | exact SX.at2 | exact SX.at3 | exact SX.at4 | exact SX.at5 | exact Z.at6 | exact Z.at7 | exact Z.at8 | exact Z.at9 | exact Z.at10 | exact Z.at11 | exact Z.at12) (by first | decide | (simp; done) | (simp; omega)) ?_ | refine Z.ZO.storePR rfl rfl hs rfl rfl (by kernel_rfl) (by first | (simp [Value.oneCell']; done) | (refine Z.all_one ?_; assumption)) (by first | exact SX.at0 | exact SX.at1 | exact SX.at2 | exact SX.at3 | exact SX.at4 | exact SX.at5 | exact Z.at6 | exact Z.at7 | exact Z.at8 | exact Z.at9 | exact Z.at10 | exact Z.at11 | exact Z.at12) (by first | decide | (simp; done) | (simp; omega)) ?_
                      clear hs; intro ws hs
                      simp only [Nat.zero_add, Nat.add_zero, Nat.reduceAdd, Int.reduceToNat, Nat.reduceMul, List.set_cons_zero, List.set_cons_succ, List.setIfInBounds_toArray] at hs
                      try simp only [Z.putL, Nat.zero_add] at hs
                      refine Z.tk (Dn := fun j => j != 12) (i := 12) (fun h => absurd h (by decide)) ?_
                      refine Z.td (by rfl) (by kernel_rfl) ?_
                      refine Z.only [1, 2, 4, 6, 7] rfl ?_
                      refine Z.nblock ?_
                      refine Z.nthen ?_
                      refine Z.region ?_
                      refine Z.lb 1 rfl ?_
                      refine Z.l rfl rfl (by rfl) (Z.keepS hs) (Z.Yd.sub rfl rfl (fun hG => Z.wi64 (by first | omega | (have hG' := Z.gh rfl hG; simp at hG'; omega)))) ?_
                      refine Z.lb 1 rfl ?_
                      refine Z.lnil ?_
                      refine Z.only [1, 2, 4, 6, 7] rfl ?_
                      refine Z.nthen ?_
                      first
                      | (have hst1 := fitStep1 (l := l) (n := n) (k := k) (by omega) (by rw [hsk, hsp]; assumption)
                         exact Z.again (a1, j, cj, k) (by refine ⟨?_, ?_, ?_, ?_, ?_, trivial⟩ <;> (first | rfl | (refine Z.lookv rfl ?_; simp; done) | (refine Z.lookv rfl ?_; simp; omega))) ⟨⟨hj, hjc, .inr ⟨hbig, by simp only; omega, by simp only; omega, hst1.trans hfr⟩⟩, hs⟩ (by simp only; omega))
                      | (have hne : k = 0 ∨ snK l k ≠ snK l (k - 1) := by
                           first
                           | exact .inr (by rw [hsk, hsp]; assumption)
                           | exact .inl (by omega)
                         have hst2 : (szK l k ≤ n ∧ (snK l k, k) = R) ∨ (¬ szK l k ≤ n ∧ 1 ≤ k ∧ k ≤ k ∧ fitR l n (k - 1) = R) := by
                           rcases fitStep2 (l := l) (n := n) (k := k) hn hne with ⟨h1, h2⟩ | ⟨h1, h2, h3⟩
                           · exact .inl ⟨h1, h2.trans hfr⟩
                           · exact .inr ⟨h1, h2, by omega, h3.trans hfr⟩
                         rw [hsk] at hst2
                         rw [slA_zero, Nat.sub_zero] at hs
                         exact Z.again (x.sn, k, k, k) (by refine ⟨?_, ?_, ?_, ?_, ?_, trivial⟩ <;> (first | rfl | (refine Z.lookv rfl ?_; simp; done) | (refine Z.lookv rfl ?_; simp; omega))) ⟨⟨by simp only; omega, Nat.le_refl _, hst2⟩, hs⟩ (by simp only; omega))
                      )
                )
          )
    · first
        | (exfalso; simp at hc7 <;> omega)
        | (
          (try simp at hc7)
          refine Z.exit ?_
          refine Z.xthen ?_
          refine Z.xthen ?_
          refine Z.xblock ?_
          refine Z.nthen ?_
          refine Z.seq ?_
          refine Z.region ?_
          have hsm : szK l j ≤ n := by rw [hsz]; omega
          obtain ⟨-, rfl⟩ := hJ.resolve_right fun h => h.1 hsm
          refine Z.l rfl rfl (by rfl) (Z.keepS hs) (by first | exact Z.Yd.loadA _ rfl Try.isAgg24 (fun _ => Z.cellsB (by first | ((repeat (first | exact List.mem_cons_self | refine List.mem_cons_of_mem _ ?_ | refine List.mem_append_right _ ?_)); done) | fail)) (by exact Try.sizeOf24) | fail "load 11.0") ?_
          refine Z.le rfl trivial ?_
          first | refine Z.ZO.storeA rfl rfl hs rfl rfl (by kernel_rfl) (by first | (simp [Value.oneCell']; done) | (refine Z.all_one ?_; assumption)) (by first | exact SX.at0 | exact SX.at1 | exact SX.at2 | exact SX.at3 | exact SX.at4 | exact SX.at5 | exact Z.at6 | exact Z.at7 | exact Z.at8 | exact Z.at9 | exact Z.at10 | exact Z.at11 | exact Z.at12) (by rfl) ?_ | refine Z.ZO.storeP rfl rfl hs rfl rfl (by kernel_rfl) (by first | (simp [Value.oneCell']; done) | (refine Z.all_one ?_; assumption)) (by first | exact SX.at0 | exact SX.at1 | exact SX.at2 | exact SX.at3 | exact SX.at4 | exact SX.at5 | exact Z.at6 | exact Z.at7 | exact Z.at8 | exact Z.at9 | exact Z.at10 | exact Z.at11 | exact Z.at12) (by first | decide | (simp; done) | (simp; omega)) ?_ | refine Z.ZO.storePR rfl rfl hs rfl rfl (by kernel_rfl) (by first | (simp [Value.oneCell']; done) | (refine Z.all_one ?_; assumption)) (by first | exact SX.at0 | exact SX.at1 | exact SX.at2 | exact SX.at3 | exact SX.at4 | exact SX.at5 | exact Z.at6 | exact Z.at7 | exact Z.at8 | exact Z.at9 | exact Z.at10 | exact Z.at11 | exact Z.at12) (by first | decide | (simp; done) | (simp; omega)) ?_
          clear hs; intro ws hs
          simp only [Nat.zero_add, Nat.add_zero, Nat.reduceAdd, Int.reduceToNat, Nat.reduceMul, List.set_cons_zero, List.set_cons_succ, List.setIfInBounds_toArray] at hs
          try simp only [Z.putL, Nat.zero_add] at hs
          refine Z.lb 1 rfl ?_
          refine Z.lnil ?_
          refine Z.only [4, 5] rfl ?_
          refine Z.nthen ?_
          refine Z.ret ?_
          -- ret#0
          refine Z.out2 (by exact ⟨⟨_, rfl, Z.rvcA hs Try.isAgg24 (by first | ((repeat (first | exact List.mem_cons_self | refine List.mem_cons_of_mem _ ?_ | refine List.mem_append_right _ ?_)); done) | fail) (by exact Try.sizeOf24)⟩, rfl, trivial⟩) ?_
          exact ⟨_, rfl, B, cb, cj, rfl, hjc, hs.sel [1] (by decide)⟩
          )
end Go.Proofs.Ytcieclifabbkjaa

/- Status reports: Fit's errors, the document's Fit, reports compared. -/
namespace Go.Proofs.Ytcieclifabbkjaa
open Go.RowKit
set_option linter.unusedSimpArgs false
set_option linter.unusedVariables false
--newlaws

theorem fit_arg (ack n : Int) (A : Option Addr) (m c : Nat) (l : List NkV) (w : World) (hx : Sl w A (l.flatMap NkV.cells)) (hl : l.length = m) (hm : m ≤ 9223372036854775807) (h : ¬ (vldB ack l = true ∧ 0 ≤ n)) :
    Calls Try.prog 20 #[.agg #[.int .i64 ack, .slice A m c], .int .i64 n] w (SX.Ret fun v w' => v = .tuple #[.agg #[.int .i64 0, .slice none 0 0], .int .i64 2] ∧ SX.St w [] w' []) := by
  have hs := SX.St.start w
  by_cases hv : vldB ack l = true
  · have hn : n < 0 := by rcases Int.lt_or_le n 0 with h0 | h0; · exact h0
                          · exact absurd ⟨hv, h0⟩ h
    refine Z.enter Try.func20 rfl Try.ntmps20 rfl rfl ?_
    refine Z.seq ?_
    refine Z.region ?_
    refine Z.le rfl trivial ?_
    refine Z.ZO.box rfl rfl (by rfl) rfl rfl hs ?_
    clear hs; intro g2 w2 hs
    refine Z.le rfl trivial ?_
    refine Z.ZO.alloc rfl rfl (by rfl) Try.zeroValue24 rfl hs ?_
    clear hs; intro g4 w4 hs
    refine Z.lb 1 rfl ?_
    refine Z.lnil ?_
    refine Z.only [1, 2, 4] rfl ?_
    refine Z.nthen ?_
    refine Z.seq ?_
    refine Z.block ?_
    refine Z.seq ?_
    refine Z.region ?_
    refine Z.l rfl rfl (by rfl) (Z.keepS hs) (by first | exact Z.Yd.loadA _ rfl Try.isAgg24 (fun _ => Z.cellsB (by first | ((repeat (first | exact List.mem_cons_self | refine List.mem_cons_of_mem _ ?_ | refine List.mem_append_right _ ?_)); done) | fail)) (by exact Try.sizeOf24) | fail "load 1.0") ?_
    refine Z.le rfl trivial ?_
    refine Z.ZO.call rfl rfl (by rfl) rfl rfl Try.call14 rfl (svalid_any ack A m c l _ (hx.st (hs.sub (List.nil_sublist _))) hl (by omega)) ?_
    rintro v1_1 w1_1 ⟨rfl, hy⟩
    replace hs := hs.call hy
    clear hy
    try simp only [List.cons_append, List.nil_append, List.append_nil] at hs
    refine Z.lb 2 rfl ?_
    refine Z.yes (s := 12) (b := false) rfl ((by simp [hv])) rfl ?_
    refine Z.lb 2 rfl ?_
    refine Z.yes (s := 12) (b := false) rfl rfl rfl ?_
    refine Z.l rfl rfl (by rfl) (Z.keepS hs) (Z.Yd.pickF rfl rfl) ?_
    refine Z.lb 1 rfl ?_
    refine Z.lnil ?_
    refine Z.only [1, 2, 4, 8] rfl ?_
    refine Z.nthen ?_
    refine Z.cond rfl (fun hc1 => ?_) (fun h => absurd h (by simp; omega))
    refine Z.seq ?_
    refine Z.region ?_
    refine Z.l rfl rfl (by rfl) (Z.keepS hs) (Z.Yd.buildL [(0, 1), (1, 1)] [.int .i64 0, .slice none 0 0] rfl rfl (by intro w; kernel_rfl)) ?_
    refine Z.le rfl trivial ?_
    first | refine Z.ZO.storeA rfl rfl hs rfl rfl (by kernel_rfl) (by first | (simp [Value.oneCell']; done) | (refine Z.all_one ?_; assumption)) (by first | exact SX.at0 | exact SX.at1 | exact SX.at2 | exact SX.at3 | exact SX.at4 | exact SX.at5 | exact Z.at6 | exact Z.at7 | exact Z.at8 | exact Z.at9 | exact Z.at10 | exact Z.at11 | exact Z.at12) (by rfl) ?_ | refine Z.ZO.storeP rfl rfl hs rfl rfl (by kernel_rfl) (by first | (simp [Value.oneCell']; done) | (refine Z.all_one ?_; assumption)) (by first | exact SX.at0 | exact SX.at1 | exact SX.at2 | exact SX.at3 | exact SX.at4 | exact SX.at5 | exact Z.at6 | exact Z.at7 | exact Z.at8 | exact Z.at9 | exact Z.at10 | exact Z.at11 | exact Z.at12) (by first | decide | (simp; done) | (simp; omega)) ?_ | refine Z.ZO.storePR rfl rfl hs rfl rfl (by kernel_rfl) (by first | (simp [Value.oneCell']; done) | (refine Z.all_one ?_; assumption)) (by first | exact SX.at0 | exact SX.at1 | exact SX.at2 | exact SX.at3 | exact SX.at4 | exact SX.at5 | exact Z.at6 | exact Z.at7 | exact Z.at8 | exact Z.at9 | exact Z.at10 | exact Z.at11 | exact Z.at12) (by first | decide | (simp; done) | (simp; omega)) ?_
    clear hs; intro ws hs
    simp only [Nat.zero_add, Nat.add_zero, Nat.reduceAdd, Int.reduceToNat, Nat.reduceMul, List.set_cons_zero, List.set_cons_succ, List.setIfInBounds_toArray] at hs
    try simp only [Z.putL, Nat.zero_add] at hs
    refine Z.lb 1 rfl ?_
    refine Z.lnil ?_
    refine Z.only [4, 5] rfl ?_
    refine Z.nthen ?_
    refine Z.ret ?_
    repeat (first | refine Z.rthen ?_ | refine Z.rblock ?_ | refine Z.rscope ?_)
    -- ret#0
    refine Z.out2 (by exact ⟨⟨_, rfl, Z.rvcA hs Try.isAgg24 (by first | ((repeat (first | exact List.mem_cons_self | refine List.mem_cons_of_mem _ ?_ | refine List.mem_append_right _ ?_)); done) | fail) (by exact Try.sizeOf24)⟩, rfl, trivial⟩) ?_
    exact ⟨_, rfl, rfl, hs.sub (List.nil_sublist _)⟩
  · skip
    refine Z.enter Try.func20 rfl Try.ntmps20 rfl rfl ?_
    refine Z.seq ?_
    refine Z.region ?_
    refine Z.le rfl trivial ?_
    refine Z.ZO.box rfl rfl (by rfl) rfl rfl hs ?_
    clear hs; intro g2 w2 hs
    refine Z.le rfl trivial ?_
    refine Z.ZO.alloc rfl rfl (by rfl) Try.zeroValue24 rfl hs ?_
    clear hs; intro g4 w4 hs
    refine Z.lb 1 rfl ?_
    refine Z.lnil ?_
    refine Z.only [1, 2, 4] rfl ?_
    refine Z.nthen ?_
    refine Z.seq ?_
    refine Z.block ?_
    refine Z.seq ?_
    refine Z.region ?_
    refine Z.l rfl rfl (by rfl) (Z.keepS hs) (by first | exact Z.Yd.loadA _ rfl Try.isAgg24 (fun _ => Z.cellsB (by first | ((repeat (first | exact List.mem_cons_self | refine List.mem_cons_of_mem _ ?_ | refine List.mem_append_right _ ?_)); done) | fail)) (by exact Try.sizeOf24) | fail "load 1.0") ?_
    refine Z.le rfl trivial ?_
    refine Z.ZO.call rfl rfl (by rfl) rfl rfl Try.call14 rfl (svalid_any ack A m c l _ (hx.st (hs.sub (List.nil_sublist _))) hl (by omega)) ?_
    rintro v1_1 w1_1 ⟨rfl, hy⟩
    replace hs := hs.call hy
    clear hy
    try simp only [List.cons_append, List.nil_append, List.append_nil] at hs
    refine Z.lb 2 rfl ?_
    refine Z.yes (s := 12) (b := true) rfl ((by simp [hv])) rfl ?_
    refine Z.ls rfl rfl rfl (by rfl) ?_
    refine Z.ls rfl rfl rfl (by rfl) ?_
    refine Z.l rfl rfl (by rfl) (Z.keepS hs) (Z.Yd.pickT rfl rfl) ?_
    refine Z.lb 1 rfl ?_
    refine Z.lnil ?_
    refine Z.only [1, 2, 4, 8] rfl ?_
    refine Z.nthen ?_
    refine Z.cond rfl (fun hc1 => ?_) (fun h => absurd h (by simp [hv]))
    refine Z.seq ?_
    refine Z.region ?_
    refine Z.l rfl rfl (by rfl) (Z.keepS hs) (Z.Yd.buildL [(0, 1), (1, 1)] [.int .i64 0, .slice none 0 0] rfl rfl (by intro w; kernel_rfl)) ?_
    refine Z.le rfl trivial ?_
    first | refine Z.ZO.storeA rfl rfl hs rfl rfl (by kernel_rfl) (by first | (simp [Value.oneCell']; done) | (refine Z.all_one ?_; assumption)) (by first | exact SX.at0 | exact SX.at1 | exact SX.at2 | exact SX.at3 | exact SX.at4 | exact SX.at5 | exact Z.at6 | exact Z.at7 | exact Z.at8 | exact Z.at9 | exact Z.at10 | exact Z.at11 | exact Z.at12) (by rfl) ?_ | refine Z.ZO.storeP rfl rfl hs rfl rfl (by kernel_rfl) (by first | (simp [Value.oneCell']; done) | (refine Z.all_one ?_; assumption)) (by first | exact SX.at0 | exact SX.at1 | exact SX.at2 | exact SX.at3 | exact SX.at4 | exact SX.at5 | exact Z.at6 | exact Z.at7 | exact Z.at8 | exact Z.at9 | exact Z.at10 | exact Z.at11 | exact Z.at12) (by first | decide | (simp; done) | (simp; omega)) ?_ | refine Z.ZO.storePR rfl rfl hs rfl rfl (by kernel_rfl) (by first | (simp [Value.oneCell']; done) | (refine Z.all_one ?_; assumption)) (by first | exact SX.at0 | exact SX.at1 | exact SX.at2 | exact SX.at3 | exact SX.at4 | exact SX.at5 | exact Z.at6 | exact Z.at7 | exact Z.at8 | exact Z.at9 | exact Z.at10 | exact Z.at11 | exact Z.at12) (by first | decide | (simp; done) | (simp; omega)) ?_
    clear hs; intro ws hs
    simp only [Nat.zero_add, Nat.add_zero, Nat.reduceAdd, Int.reduceToNat, Nat.reduceMul, List.set_cons_zero, List.set_cons_succ, List.setIfInBounds_toArray] at hs
    try simp only [Z.putL, Nat.zero_add] at hs
    refine Z.lb 1 rfl ?_
    refine Z.lnil ?_
    refine Z.only [4, 5] rfl ?_
    refine Z.nthen ?_
    refine Z.ret ?_
    repeat (first | refine Z.rthen ?_ | refine Z.rblock ?_ | refine Z.rscope ?_)
    -- ret#0
    refine Z.out2 (by exact ⟨⟨_, rfl, Z.rvcA hs Try.isAgg24 (by first | ((repeat (first | exact List.mem_cons_self | refine List.mem_cons_of_mem _ ?_ | refine List.mem_append_right _ ?_)); done) | fail) (by exact Try.sizeOf24)⟩, rfl, trivial⟩) ?_
    exact ⟨_, rfl, rfl, hs.sub (List.nil_sublist _)⟩
theorem fit_short (ack n : Int) (A : Option Addr) (m c : Nat) (l : List NkV) (w : World) (hx : Sl w A (l.flatMap NkV.cells)) (hl : l.length = m) (hm : m ≤ 9223372036854775807) (hv : vldB ack l = true) (hn : 0 ≤ n ∧ n < 2) :
    Calls Try.prog 20 #[.agg #[.int .i64 ack, .slice A m c], .int .i64 n] w (SX.Ret fun v w' => v = .tuple #[.agg #[.int .i64 0, .slice none 0 0], .int .i64 5] ∧ SX.St w [] w' []) := by
  have hs := SX.St.start w
  refine Z.enter Try.func20 rfl Try.ntmps20 rfl rfl ?_
  refine Z.seq ?_
  refine Z.region ?_
  refine Z.le rfl trivial ?_
  refine Z.ZO.box rfl rfl (by rfl) rfl rfl hs ?_
  clear hs; intro g2 w2 hs
  refine Z.le rfl trivial ?_
  refine Z.ZO.alloc rfl rfl (by rfl) Try.zeroValue24 rfl hs ?_
  clear hs; intro g4 w4 hs
  refine Z.lb 1 rfl ?_
  refine Z.lnil ?_
  refine Z.only [1, 2, 4] rfl ?_
  refine Z.nthen ?_
  refine Z.seq ?_
  refine Z.block ?_
  refine Z.seq ?_
  refine Z.region ?_
  refine Z.l rfl rfl (by rfl) (Z.keepS hs) (by first | exact Z.Yd.loadA _ rfl Try.isAgg24 (fun _ => Z.cellsB (by first | ((repeat (first | exact List.mem_cons_self | refine List.mem_cons_of_mem _ ?_ | refine List.mem_append_right _ ?_)); done) | fail)) (by exact Try.sizeOf24) | fail "load 1.0") ?_
  refine Z.le rfl trivial ?_
  refine Z.ZO.call rfl rfl (by rfl) rfl rfl Try.call14 rfl (svalid_any ack A m c l _ (hx.st (hs.sub (List.nil_sublist _))) hl (by omega)) ?_
  rintro v1_1 w1_1 ⟨rfl, hy⟩
  replace hs := hs.call hy
  clear hy
  try simp only [List.cons_append, List.nil_append, List.append_nil] at hs
  refine Z.lb 2 rfl ?_
  refine Z.yes (s := 12) (b := false) rfl ((by simp [hv])) rfl ?_
  refine Z.lb 2 rfl ?_
  refine Z.yes (s := 12) (b := false) rfl rfl rfl ?_
  refine Z.l rfl rfl (by rfl) (Z.keepS hs) (Z.Yd.pickF rfl rfl) ?_
  refine Z.lb 1 rfl ?_
  refine Z.lnil ?_
  refine Z.only [1, 2, 4, 8] rfl ?_
  refine Z.nthen ?_
  refine Z.cond rfl (fun h => absurd h (by simp; omega)) (fun hc1 => ?_)
  refine Z.seq ?_
  refine Z.region ?_
  refine Z.lb 3 rfl ?_
  refine Z.lnil ?_
  refine Z.only [1, 2, 4, 17] rfl ?_
  refine Z.nthen ?_
  refine Z.cond rfl (fun hc3 => ?_) (fun h => absurd h (by simp; omega))
  refine Z.seq ?_
  refine Z.region ?_
  refine Z.l rfl rfl (by rfl) (Z.keepS hs) (Z.Yd.buildL [(0, 1), (1, 1)] [.int .i64 0, .slice none 0 0] rfl rfl (by intro w; kernel_rfl)) ?_
  refine Z.le rfl trivial ?_
  first | refine Z.ZO.storeA rfl rfl hs rfl rfl (by kernel_rfl) (by first | (simp [Value.oneCell']; done) | (refine Z.all_one ?_; assumption)) (by first | exact SX.at0 | exact SX.at1 | exact SX.at2 | exact SX.at3 | exact SX.at4 | exact SX.at5 | exact Z.at6 | exact Z.at7 | exact Z.at8 | exact Z.at9 | exact Z.at10 | exact Z.at11 | exact Z.at12) (by rfl) ?_ | refine Z.ZO.storeP rfl rfl hs rfl rfl (by kernel_rfl) (by first | (simp [Value.oneCell']; done) | (refine Z.all_one ?_; assumption)) (by first | exact SX.at0 | exact SX.at1 | exact SX.at2 | exact SX.at3 | exact SX.at4 | exact SX.at5 | exact Z.at6 | exact Z.at7 | exact Z.at8 | exact Z.at9 | exact Z.at10 | exact Z.at11 | exact Z.at12) (by first | decide | (simp; done) | (simp; omega)) ?_ | refine Z.ZO.storePR rfl rfl hs rfl rfl (by kernel_rfl) (by first | (simp [Value.oneCell']; done) | (refine Z.all_one ?_; assumption)) (by first | exact SX.at0 | exact SX.at1 | exact SX.at2 | exact SX.at3 | exact SX.at4 | exact SX.at5 | exact Z.at6 | exact Z.at7 | exact Z.at8 | exact Z.at9 | exact Z.at10 | exact Z.at11 | exact Z.at12) (by first | decide | (simp; done) | (simp; omega)) ?_
  clear hs; intro ws hs
  simp only [Nat.zero_add, Nat.add_zero, Nat.reduceAdd, Int.reduceToNat, Nat.reduceMul, List.set_cons_zero, List.set_cons_succ, List.setIfInBounds_toArray] at hs
  try simp only [Z.putL, Nat.zero_add] at hs
  refine Z.lb 1 rfl ?_
  refine Z.lnil ?_
  refine Z.only [4, 5] rfl ?_
  refine Z.nthen ?_
  refine Z.ret ?_
  repeat (first | refine Z.rthen ?_ | refine Z.rblock ?_ | refine Z.rscope ?_)
  -- ret#0
  refine Z.out2 (by exact ⟨⟨_, rfl, Z.rvcA hs Try.isAgg24 (by first | ((repeat (first | exact List.mem_cons_self | refine List.mem_cons_of_mem _ ?_ | refine List.mem_append_right _ ?_)); done) | fail) (by exact Try.sizeOf24)⟩, rfl, trivial⟩) ?_
  exact ⟨_, rfl, rfl, hs.sub (List.nil_sublist _)⟩
end Go.Proofs.Ytcieclifabbkjaa

/- Status reports compared; the examples. -/
namespace Go.Proofs.Ytcieclifabbkjaa
open Go.RowKit
set_option linter.unusedSimpArgs false
set_option linter.unusedVariables false
--newlaws

theorem nk_ext {x y : NkV} (h1 : x.sn = y.sn) (h2 : x.part = y.part) (h3 : x.lo = y.lo) (h4 : x.hi = y.hi) : x = y := by cases x; cases y; simp_all
theorem take_ne {α : Type} {l k : List α} {i : Nat} {x y : α} (hx : l[i]? = some x) (hy : k[i]? = some y) (h : x ≠ y) : l ≠ k := fun e => by
  subst e
  rw [hx] at hy
  exact h (Option.some.inj hy)
set_option maxRecDepth 100000 in
theorem rsame34 (a1 a2 : Int) (A B : Option Addr) (n c m d : Nat) (l k : List NkV) (w : World) (hx : Sl w A (l.flatMap NkV.cells)) (hy : Sl w B (k.flatMap NkV.cells)) (hl : l.length = n) (hk : k.length = m) (hn : n ≤ 9223372036854775807) :
    Calls Try.prog 19 #[.agg #[.int .i64 a1, .slice A n c], .agg #[.int .i64 a2, .slice B m d]] w (SX.Ret fun v w' => v = .bool (decide (a1 = a2 ∧ l = k)) ∧ SX.St w [] w' []) := by
  have hs := SX.St.start w
  refine Z.enter Try.func19 rfl Try.ntmps19 rfl rfl ?_
  refine Z.seq ?_
  refine Z.region ?_
  refine Z.le rfl trivial ?_
  refine Z.ZO.box rfl rfl (by rfl) rfl rfl hs ?_
  clear hs; intro g2 w2 hs
  refine Z.le rfl trivial ?_
  refine Z.ZO.box rfl rfl (by rfl) rfl rfl hs ?_
  clear hs; intro g3 w3 hs
  refine Z.lb 1 rfl ?_
  refine Z.lnil ?_
  refine Z.only [2, 3] rfl ?_
  refine Z.nthen ?_
  refine Z.seq ?_
  refine Z.seq ?_
  refine Z.region ?_
  refine Z.l rfl rfl (by rfl) (Z.keepS hs) (Z.Yd.fieldA (m := 0) rfl (by kernel_rfl)) ?_
  refine Z.l rfl rfl (by rfl) (Z.keepS hs) (by first | exact Z.Yd.load rfl Try.isAgg3 (fun _ => Z.cellB (by first | ((repeat (first | exact List.mem_cons_self | refine List.mem_cons_of_mem _ ?_ | refine List.mem_append_right _ ?_)); done) | fail) rfl) | exact Z.Yd.load rfl Try.isAgg3 (fun _ => Z.cellO (by assumption) (by simp) (by assumption)) | fail "load 1.1") ?_
  refine Z.l rfl rfl (by rfl) (Z.keepS hs) (Z.Yd.fieldA (m := 0) rfl (by kernel_rfl)) ?_
  refine Z.l rfl rfl (by rfl) (Z.keepS hs) (by first | exact Z.Yd.load rfl Try.isAgg3 (fun _ => Z.cellB (by first | ((repeat (first | exact List.mem_cons_self | refine List.mem_cons_of_mem _ ?_ | refine List.mem_append_right _ ?_)); done) | fail) rfl) | exact Z.Yd.load rfl Try.isAgg3 (fun _ => Z.cellO (by assumption) (by simp) (by assumption)) | fail "load 1.3") ?_
  refine Z.lb 2 rfl ?_
  refine Z.split (s := 11) rfl (fun hsp11 => ?_) (fun hsp11 => ?_)
  · first
      | (exfalso; simp at hsp11 <;> omega)
      | (
        refine Z.yes (s := 11) (b := true) rfl hsp11 rfl ?_
        (try simp at hsp11)
        refine Z.ls rfl rfl rfl (by rfl) ?_
        refine Z.ls rfl rfl rfl (by rfl) ?_
        refine Z.ls rfl rfl rfl (by rfl) ?_
        refine Z.ls rfl rfl rfl (by rfl) ?_
        refine Z.ls rfl rfl rfl (by rfl) ?_
        refine Z.ls rfl rfl rfl (by rfl) ?_
        refine Z.ls rfl rfl rfl (by rfl) ?_
        refine Z.l rfl rfl (by rfl) (Z.keepS hs) (Z.Yd.pickT rfl rfl) ?_
        refine Z.lnil ?_
        refine Z.only [2, 3, 19] rfl ?_
        refine Z.nthen ?_
        refine Z.cond rfl (fun hc1 => ?_) (fun hc1 => ?_)
        · first
            | (exfalso; simp at hc1 <;> omega)
            | (
              (try simp at hc1)
              refine Z.seq ?_
              refine Z.region ?_
              refine Z.lb 1 rfl ?_
              refine Z.lnil ?_
              refine Z.only [4] rfl ?_
              refine Z.nthen ?_
              refine Z.ret ?_
              repeat (first | refine Z.rthen ?_ | refine Z.rblock ?_ | refine Z.rscope ?_)
              -- ret#0
              refine Z.out1 (by exact ⟨rfl, trivial⟩) ?_
              refine ⟨_, rfl, ?_, hs.sub (List.nil_sublist _)⟩
              first
              | exact congrArg Value.bool (decide_eq_false (fun h => take_ne hxi hyi (fun e => by subst e; simp_all) h.2)).symm
              | exact congrArg Value.bool (decide_eq_true ⟨ha, ht⟩).symm
              | exact congrArg Value.bool (decide_eq_false (fun h => by have hlk := congrArg List.length h.2; simp_all)).symm
              )
        · first
            | (exfalso; simp at hc1 <;> omega)
            | (
              (try simp at hc1)
              refine Z.skip ?_
              refine Z.nthen ?_
              refine Z.seq ?_
              refine Z.seq ?_
              refine Z.region ?_
              refine Z.lb 1 rfl ?_
              refine Z.lnil ?_
              refine Z.only [2, 3, 5] rfl ?_
              refine Z.nthen ?_
              refine Z.block ?_
              refine Z.loopk (ι := Nat) [2, 3] rfl (fun i => [(5, [], .int .i64 (i : Int))]) (fun i wr => (i ≤ n ∧ n = m ∧ a1 = a2 ∧ l.take i = k.take i) ∧ SX.St w [] wr [SX.Ent.blk g3 24 #[.int .i64 a2, .slice B m d], SX.Ent.blk g2 24 #[.int .i64 a1, .slice A n c]]) (fun i => n - i) 0 (by refine ⟨?_, trivial⟩ <;> (first | rfl | (refine Z.lookv rfl ?_; simp; done) | (refine Z.lookv rfl ?_; simp; omega))) ⟨⟨by omega, by first | omega | simp_all, by first | omega | simp_all, rfl⟩, hs⟩ ?_
              clear hs
              rintro i w4 ⟨⟨hi, hnm, ha, ht⟩, hs⟩
              refine Z.only [2, 3, 5] rfl ?_
              refine Z.seq ?_
              refine Z.seq ?_
              refine Z.region ?_
              refine Z.lb 1 rfl ?_
              refine Z.l rfl rfl (by rfl) (Z.keepS hs) (Z.Yd.fieldA (m := 1) rfl (by kernel_rfl)) ?_
              refine Z.l rfl rfl (by rfl) (Z.keepS hs) (by first | exact Z.Yd.load rfl Try.isAgg22 (fun _ => Z.cellB (by first | ((repeat (first | exact List.mem_cons_self | refine List.mem_cons_of_mem _ ?_ | refine List.mem_append_right _ ?_)); done) | fail) rfl) | exact Z.Yd.load rfl Try.isAgg22 (fun _ => Z.cellO (by assumption) (by simp) (by assumption)) | fail "load 4.2") ?_
              refine Z.l rfl rfl (by rfl) (Z.keepS hs) (Z.Yd.lenS rfl Try.underlying22) ?_
              refine Z.lb 1 rfl ?_
              refine Z.lnil ?_
              refine Z.only [2, 3, 5, 24] rfl ?_
              refine Z.nthen ?_
              refine Z.cond rfl (fun hc4 => ?_) (fun hc4 => ?_)
              · first
                  | (exfalso; simp at hc4 <;> omega)
                  | (
                    (try simp at hc4)
                    have hfl := nk_flat l
                    have hfk := nk_flat k
                    obtain ⟨b, off, rfl, hx2⟩ := hx.sx.some (by omega)
                    obtain ⟨b', off', rfl, hy2⟩ := hy.sx.some (by omega)
                    obtain ⟨x, hxi⟩ : ∃ f, l[i]? = some f := ⟨_, List.getElem?_eq_getElem (by omega)⟩
                    obtain ⟨y, hyi⟩ : ∃ f, k[i]? = some f := ⟨_, List.getElem?_eq_getElem (by omega)⟩
                    refine Z.skip ?_
                    refine Z.nthen ?_
                    refine Z.seq ?_
                    refine Z.block ?_
                    refine Z.seq ?_
                    refine Z.drawK (fun _ => true) mixed hs ?_
                    clear hs; intro wd6 hs
                    refine Z.t 0 rfl rfl rfl (by rfl) (by kernel_rfl) ⟨_, hs, by first | (simp; done) | exact fun e he => List.mem_append_right _ he⟩ (Z.Yd.fieldA (m := 1) rfl (by kernel_rfl)) ?_
                    refine Z.t 1 rfl rfl rfl (by rfl) (by kernel_rfl) ⟨_, hs, by first | (simp; done) | exact fun e he => List.mem_append_right _ he⟩ (by first | exact Z.Yd.load rfl Try.isAgg22 (fun _ => Z.cellB (by first | ((repeat (first | exact List.mem_cons_self | refine List.mem_cons_of_mem _ ?_ | refine List.mem_append_right _ ?_)); done) | fail) rfl) | exact Z.Yd.load rfl Try.isAgg22 (fun _ => Z.cellO (by assumption) (by simp) (by assumption)) | fail "load 6.1") ?_
                    refine Z.tb [2] (by kernel_rfl) rfl ⟨_, hs, by first | (simp; done) | exact fun e he => List.mem_append_right _ he⟩ rfl ?_
                    refine Z.t 3 rfl rfl rfl (by rfl) (by kernel_rfl) ⟨_, hs, by first | (simp; done) | exact fun e he => List.mem_append_right _ he⟩ (Z.Yd.elem rfl rfl Try.underlying22 Try.sizeOf45 (fun hG => ⟨(by first | omega | (have hG' := Z.gh rfl hG; simp at hG'; omega)), (by first | omega | (have hG' := Z.gh rfl hG; simp at hG'; omega))⟩)) ?_
                    refine Z.t 4 rfl rfl rfl (by rfl) (by kernel_rfl) ⟨_, hs, by first | (simp; done) | exact fun e he => List.mem_append_right _ he⟩ (Z.Yd.loadA _ rfl Try.isAgg45 (fun _ => Z.cellsX x.cells hx2 nk_len hxi rfl) (by exact Try.sizeOf45)) ?_
                    refine Z.t 5 rfl rfl rfl (by rfl) (by kernel_rfl) ⟨_, hs, by first | (simp; done) | exact fun e he => List.mem_append_right _ he⟩ (Z.Yd.fieldA (m := 1) rfl (by kernel_rfl)) ?_
                    refine Z.t 6 rfl rfl rfl (by rfl) (by kernel_rfl) ⟨_, hs, by first | (simp; done) | exact fun e he => List.mem_append_right _ he⟩ (by first | exact Z.Yd.load rfl Try.isAgg22 (fun _ => Z.cellB (by first | ((repeat (first | exact List.mem_cons_self | refine List.mem_cons_of_mem _ ?_ | refine List.mem_append_right _ ?_)); done) | fail) rfl) | exact Z.Yd.load rfl Try.isAgg22 (fun _ => Z.cellO (by assumption) (by simp) (by assumption)) | fail "load 6.6") ?_
                    refine Z.tb [7] (by kernel_rfl) rfl ⟨_, hs, by first | (simp; done) | exact fun e he => List.mem_append_right _ he⟩ rfl ?_
                    refine Z.t 8 rfl rfl rfl (by rfl) (by kernel_rfl) ⟨_, hs, by first | (simp; done) | exact fun e he => List.mem_append_right _ he⟩ (Z.Yd.elem rfl rfl Try.underlying22 Try.sizeOf45 (fun hG => ⟨(by first | omega | (have hG' := Z.gh rfl hG; simp at hG'; omega)), (by first | omega | (have hG' := Z.gh rfl hG; simp at hG'; omega))⟩)) ?_
                    refine Z.t 9 rfl rfl rfl (by rfl) (by kernel_rfl) ⟨_, hs, by first | (simp; done) | exact fun e he => List.mem_append_right _ he⟩ (Z.Yd.loadA _ rfl Try.isAgg45 (fun _ => Z.cellsX y.cells hy2 nk_len hyi rfl) (by exact Try.sizeOf45)) ?_
                    refine Z.t 10 rfl rfl rfl (by rfl) (by kernel_rfl) ⟨_, hs, by first | (simp; done) | exact fun e he => List.mem_append_right _ he⟩ (Z.Yd.neA (.st (.fc 0 1 (.i) (.fc 1 1 (.b) (.fc 2 1 (.i) (.fc 3 1 (.i) (.fn)))))) rfl rfl rfl rfl (by kernel_rfl) (by kernel_rfl) rfl) ?_
                    refine Z.td (by rfl) (by kernel_rfl) ?_
                    refine Z.only [2, 3, 5, 37] rfl ?_
                    refine Z.nthen ?_
                    refine Z.cond rfl (fun hc6 => ?_) (fun hc6 => ?_)
                    · first
                        | (exfalso; simp at hc6 <;> omega)
                        | (
                          (try simp at hc6)
                          refine Z.seq ?_
                          refine Z.region ?_
                          refine Z.lb 1 rfl ?_
                          refine Z.lnil ?_
                          refine Z.only [4] rfl ?_
                          refine Z.nthen ?_
                          refine Z.ret ?_
                          repeat (first | refine Z.rthen ?_ | refine Z.rblock ?_ | refine Z.rscope ?_)
                          -- ret#1
                          refine Z.out1 (by exact ⟨rfl, trivial⟩) ?_
                          refine ⟨_, rfl, ?_, hs.sub (List.nil_sublist _)⟩
                          first
                          | exact congrArg Value.bool (decide_eq_false (fun h => take_ne hxi hyi (fun e => by subst e; simp_all) h.2)).symm
                          | exact congrArg Value.bool (decide_eq_true ⟨ha, ht⟩).symm
                          | exact congrArg Value.bool (decide_eq_false (fun h => by have hlk := congrArg List.length h.2; simp_all)).symm
                          )
                    · first
                        | (exfalso; simp at hc6 <;> omega)
                        | (
                          (try simp at hc6)
                          refine Z.skip ?_
                          refine Z.nblock ?_
                          refine Z.nthen ?_
                          refine Z.region ?_
                          refine Z.lb 1 rfl ?_
                          refine Z.l rfl rfl (by rfl) (Z.keepS hs) (Z.Yd.add rfl rfl (fun hG => Z.wi64 (by first | omega | (have hG' := Z.gh rfl hG; simp at hG'; omega)))) ?_
                          refine Z.lb 1 rfl ?_
                          refine Z.lnil ?_
                          refine Z.only [2, 3, 5] rfl ?_
                          refine Z.nthen ?_
                          have hxy : x = y := by apply nk_ext <;> simp_all
                          subst hxy
                          exact Z.again (i + 1) (by refine ⟨?_, ?_, ?_, trivial⟩ <;> (first | rfl | (refine Z.lookv rfl ?_; simp; done) | (refine Z.lookv rfl ?_; simp; omega))) ⟨⟨by omega, hnm, ha, by rw [← take_snoc hxi, ← take_snoc hyi, ht]⟩, hs⟩ (by omega)
                          )
                    )
              · first
                  | (exfalso; simp at hc4 <;> omega)
                  | (
                    (try simp at hc4)
                    refine Z.exit ?_
                    refine Z.xthen ?_
                    refine Z.xthen ?_
                    refine Z.xblock ?_
                    refine Z.nthen ?_
                    refine Z.seq ?_
                    refine Z.region ?_
                    obtain rfl : i = n := by omega
                    rw [List.take_of_length_le (by omega), List.take_of_length_le (by omega)] at ht
                    refine Z.l rfl rfl (by rfl) (Z.keepS hs) (Z.Yd.pure rfl) ?_
                    refine Z.lnil ?_
                    refine Z.only [4] rfl ?_
                    refine Z.nthen ?_
                    refine Z.ret ?_
                    -- ret#2
                    refine Z.out1 (by exact ⟨rfl, trivial⟩) ?_
                    refine ⟨_, rfl, ?_, hs.sub (List.nil_sublist _)⟩
                    first
                    | exact congrArg Value.bool (decide_eq_false (fun h => take_ne hxi hyi (fun e => by subst e; simp_all) h.2)).symm
                    | exact congrArg Value.bool (decide_eq_true ⟨ha, ht⟩).symm
                    | exact congrArg Value.bool (decide_eq_false (fun h => by have hlk := congrArg List.length h.2; simp_all)).symm
                    )
              )
        )
  · first
      | (exfalso; simp at hsp11 <;> omega)
      | (
        refine Z.yes (s := 11) (b := false) rfl hsp11 rfl ?_
        (try simp at hsp11)
        refine Z.l rfl rfl (by rfl) (Z.keepS hs) (Z.Yd.fieldA (m := 1) rfl (by kernel_rfl)) ?_
        refine Z.l rfl rfl (by rfl) (Z.keepS hs) (by first | exact Z.Yd.load rfl Try.isAgg22 (fun _ => Z.cellB (by first | ((repeat (first | exact List.mem_cons_self | refine List.mem_cons_of_mem _ ?_ | refine List.mem_append_right _ ?_)); done) | fail) rfl) | exact Z.Yd.load rfl Try.isAgg22 (fun _ => Z.cellO (by assumption) (by simp) (by assumption)) | fail "load 1.7") ?_
        refine Z.l rfl rfl (by rfl) (Z.keepS hs) (Z.Yd.lenS rfl Try.underlying22) ?_
        refine Z.l rfl rfl (by rfl) (Z.keepS hs) (Z.Yd.fieldA (m := 1) rfl (by kernel_rfl)) ?_
        refine Z.l rfl rfl (by rfl) (Z.keepS hs) (by first | exact Z.Yd.load rfl Try.isAgg22 (fun _ => Z.cellB (by first | ((repeat (first | exact List.mem_cons_self | refine List.mem_cons_of_mem _ ?_ | refine List.mem_append_right _ ?_)); done) | fail) rfl) | exact Z.Yd.load rfl Try.isAgg22 (fun _ => Z.cellO (by assumption) (by simp) (by assumption)) | fail "load 1.10") ?_
        refine Z.l rfl rfl (by rfl) (Z.keepS hs) (Z.Yd.lenS rfl Try.underlying22) ?_
        refine Z.lb 1 rfl ?_
        refine Z.yes (s := 11) (b := false) rfl rfl rfl ?_
        refine Z.l rfl rfl (by rfl) (Z.keepS hs) (Z.Yd.pickF rfl rfl) ?_
        refine Z.lnil ?_
        refine Z.only [2, 3, 19] rfl ?_
        refine Z.nthen ?_
        refine Z.cond rfl (fun hc1 => ?_) (fun hc1 => ?_)
        · first
            | (exfalso; simp at hc1 <;> omega)
            | (
              (try simp at hc1)
              refine Z.seq ?_
              refine Z.region ?_
              refine Z.lb 1 rfl ?_
              refine Z.lnil ?_
              refine Z.only [4] rfl ?_
              refine Z.nthen ?_
              refine Z.ret ?_
              repeat (first | refine Z.rthen ?_ | refine Z.rblock ?_ | refine Z.rscope ?_)
              -- ret#3
              refine Z.out1 (by exact ⟨rfl, trivial⟩) ?_
              refine ⟨_, rfl, ?_, hs.sub (List.nil_sublist _)⟩
              first
              | exact congrArg Value.bool (decide_eq_false (fun h => take_ne hxi hyi (fun e => by subst e; simp_all) h.2)).symm
              | exact congrArg Value.bool (decide_eq_true ⟨ha, ht⟩).symm
              | exact congrArg Value.bool (decide_eq_false (fun h => by have hlk := congrArg List.length h.2; simp_all)).symm
              )
        · first
            | (exfalso; simp at hc1 <;> omega)
            | (
              (try simp at hc1)
              refine Z.skip ?_
              refine Z.nthen ?_
              refine Z.seq ?_
              refine Z.seq ?_
              refine Z.region ?_
              refine Z.lb 1 rfl ?_
              refine Z.lnil ?_
              refine Z.only [2, 3, 5] rfl ?_
              refine Z.nthen ?_
              refine Z.block ?_
              refine Z.loopk (ι := Nat) [2, 3] rfl (fun i => [(5, [], .int .i64 (i : Int))]) (fun i wr => (i ≤ n ∧ n = m ∧ a1 = a2 ∧ l.take i = k.take i) ∧ SX.St w [] wr [SX.Ent.blk g3 24 #[.int .i64 a2, .slice B m d], SX.Ent.blk g2 24 #[.int .i64 a1, .slice A n c]]) (fun i => n - i) 0 (by refine ⟨?_, trivial⟩ <;> (first | rfl | (refine Z.lookv rfl ?_; simp; done) | (refine Z.lookv rfl ?_; simp; omega))) ⟨⟨by omega, by first | omega | simp_all, by first | omega | simp_all, rfl⟩, hs⟩ ?_
              clear hs
              rintro i w4 ⟨⟨hi, hnm, ha, ht⟩, hs⟩
              refine Z.only [2, 3, 5] rfl ?_
              refine Z.seq ?_
              refine Z.seq ?_
              refine Z.region ?_
              refine Z.lb 1 rfl ?_
              refine Z.l rfl rfl (by rfl) (Z.keepS hs) (Z.Yd.fieldA (m := 1) rfl (by kernel_rfl)) ?_
              refine Z.l rfl rfl (by rfl) (Z.keepS hs) (by first | exact Z.Yd.load rfl Try.isAgg22 (fun _ => Z.cellB (by first | ((repeat (first | exact List.mem_cons_self | refine List.mem_cons_of_mem _ ?_ | refine List.mem_append_right _ ?_)); done) | fail) rfl) | exact Z.Yd.load rfl Try.isAgg22 (fun _ => Z.cellO (by assumption) (by simp) (by assumption)) | fail "load 4.2") ?_
              refine Z.l rfl rfl (by rfl) (Z.keepS hs) (Z.Yd.lenS rfl Try.underlying22) ?_
              refine Z.lb 1 rfl ?_
              refine Z.lnil ?_
              refine Z.only [2, 3, 5, 24] rfl ?_
              refine Z.nthen ?_
              refine Z.cond rfl (fun hc4 => ?_) (fun hc4 => ?_)
              · first
                  | (exfalso; simp at hc4 <;> omega)
                  | (
                    (try simp at hc4)
                    have hfl := nk_flat l
                    have hfk := nk_flat k
                    obtain ⟨b, off, rfl, hx2⟩ := hx.sx.some (by omega)
                    obtain ⟨b', off', rfl, hy2⟩ := hy.sx.some (by omega)
                    obtain ⟨x, hxi⟩ : ∃ f, l[i]? = some f := ⟨_, List.getElem?_eq_getElem (by omega)⟩
                    obtain ⟨y, hyi⟩ : ∃ f, k[i]? = some f := ⟨_, List.getElem?_eq_getElem (by omega)⟩
                    refine Z.skip ?_
                    refine Z.nthen ?_
                    refine Z.seq ?_
                    refine Z.block ?_
                    refine Z.seq ?_
                    refine Z.drawK (fun _ => true) mixed hs ?_
                    clear hs; intro wd6 hs
                    refine Z.t 0 rfl rfl rfl (by rfl) (by kernel_rfl) ⟨_, hs, by first | (simp; done) | exact fun e he => List.mem_append_right _ he⟩ (Z.Yd.fieldA (m := 1) rfl (by kernel_rfl)) ?_
                    refine Z.t 1 rfl rfl rfl (by rfl) (by kernel_rfl) ⟨_, hs, by first | (simp; done) | exact fun e he => List.mem_append_right _ he⟩ (by first | exact Z.Yd.load rfl Try.isAgg22 (fun _ => Z.cellB (by first | ((repeat (first | exact List.mem_cons_self | refine List.mem_cons_of_mem _ ?_ | refine List.mem_append_right _ ?_)); done) | fail) rfl) | exact Z.Yd.load rfl Try.isAgg22 (fun _ => Z.cellO (by assumption) (by simp) (by assumption)) | fail "load 6.1") ?_
                    refine Z.tb [2] (by kernel_rfl) rfl ⟨_, hs, by first | (simp; done) | exact fun e he => List.mem_append_right _ he⟩ rfl ?_
                    refine Z.t 3 rfl rfl rfl (by rfl) (by kernel_rfl) ⟨_, hs, by first | (simp; done) | exact fun e he => List.mem_append_right _ he⟩ (Z.Yd.elem rfl rfl Try.underlying22 Try.sizeOf45 (fun hG => ⟨(by first | omega | (have hG' := Z.gh rfl hG; simp at hG'; omega)), (by first | omega | (have hG' := Z.gh rfl hG; simp at hG'; omega))⟩)) ?_
                    refine Z.t 4 rfl rfl rfl (by rfl) (by kernel_rfl) ⟨_, hs, by first | (simp; done) | exact fun e he => List.mem_append_right _ he⟩ (Z.Yd.loadA _ rfl Try.isAgg45 (fun _ => Z.cellsX x.cells hx2 nk_len hxi rfl) (by exact Try.sizeOf45)) ?_
                    refine Z.t 5 rfl rfl rfl (by rfl) (by kernel_rfl) ⟨_, hs, by first | (simp; done) | exact fun e he => List.mem_append_right _ he⟩ (Z.Yd.fieldA (m := 1) rfl (by kernel_rfl)) ?_
                    refine Z.t 6 rfl rfl rfl (by rfl) (by kernel_rfl) ⟨_, hs, by first | (simp; done) | exact fun e he => List.mem_append_right _ he⟩ (by first | exact Z.Yd.load rfl Try.isAgg22 (fun _ => Z.cellB (by first | ((repeat (first | exact List.mem_cons_self | refine List.mem_cons_of_mem _ ?_ | refine List.mem_append_right _ ?_)); done) | fail) rfl) | exact Z.Yd.load rfl Try.isAgg22 (fun _ => Z.cellO (by assumption) (by simp) (by assumption)) | fail "load 6.6") ?_
                    refine Z.tb [7] (by kernel_rfl) rfl ⟨_, hs, by first | (simp; done) | exact fun e he => List.mem_append_right _ he⟩ rfl ?_
                    refine Z.t 8 rfl rfl rfl (by rfl) (by kernel_rfl) ⟨_, hs, by first | (simp; done) | exact fun e he => List.mem_append_right _ he⟩ (Z.Yd.elem rfl rfl Try.underlying22 Try.sizeOf45 (fun hG => ⟨(by first | omega | (have hG' := Z.gh rfl hG; simp at hG'; omega)), (by first | omega | (have hG' := Z.gh rfl hG; simp at hG'; omega))⟩)) ?_
                    refine Z.t 9 rfl rfl rfl (by rfl) (by kernel_rfl) ⟨_, hs, by first | (simp; done) | exact fun e he => List.mem_append_right _ he⟩ (Z.Yd.loadA _ rfl Try.isAgg45 (fun _ => Z.cellsX y.cells hy2 nk_len hyi rfl) (by exact Try.sizeOf45)) ?_
                    refine Z.t 10 rfl rfl rfl (by rfl) (by kernel_rfl) ⟨_, hs, by first | (simp; done) | exact fun e he => List.mem_append_right _ he⟩ (Z.Yd.neA (.st (.fc 0 1 (.i) (.fc 1 1 (.b) (.fc 2 1 (.i) (.fc 3 1 (.i) (.fn)))))) rfl rfl rfl rfl (by kernel_rfl) (by kernel_rfl) rfl) ?_
                    refine Z.td (by rfl) (by kernel_rfl) ?_
                    refine Z.only [2, 3, 5, 37] rfl ?_
                    refine Z.nthen ?_
                    refine Z.cond rfl (fun hc6 => ?_) (fun hc6 => ?_)
                    · first
                        | (exfalso; simp at hc6 <;> omega)
                        | (
                          (try simp at hc6)
                          refine Z.seq ?_
                          refine Z.region ?_
                          refine Z.lb 1 rfl ?_
                          refine Z.lnil ?_
                          refine Z.only [4] rfl ?_
                          refine Z.nthen ?_
                          refine Z.ret ?_
                          repeat (first | refine Z.rthen ?_ | refine Z.rblock ?_ | refine Z.rscope ?_)
                          -- ret#4
                          refine Z.out1 (by exact ⟨rfl, trivial⟩) ?_
                          refine ⟨_, rfl, ?_, hs.sub (List.nil_sublist _)⟩
                          first
                          | exact congrArg Value.bool (decide_eq_false (fun h => take_ne hxi hyi (fun e => by subst e; simp_all) h.2)).symm
                          | exact congrArg Value.bool (decide_eq_true ⟨ha, ht⟩).symm
                          | exact congrArg Value.bool (decide_eq_false (fun h => by have hlk := congrArg List.length h.2; simp_all)).symm
                          )
                    · first
                        | (exfalso; simp at hc6 <;> omega)
                        | (
                          (try simp at hc6)
                          refine Z.skip ?_
                          refine Z.nblock ?_
                          refine Z.nthen ?_
                          refine Z.region ?_
                          refine Z.lb 1 rfl ?_
                          refine Z.l rfl rfl (by rfl) (Z.keepS hs) (Z.Yd.add rfl rfl (fun hG => Z.wi64 (by first | omega | (have hG' := Z.gh rfl hG; simp at hG'; omega)))) ?_
                          refine Z.lb 1 rfl ?_
                          refine Z.lnil ?_
                          refine Z.only [2, 3, 5] rfl ?_
                          refine Z.nthen ?_
                          have hxy : x = y := by apply nk_ext <;> simp_all
                          subst hxy
                          exact Z.again (i + 1) (by refine ⟨?_, ?_, ?_, trivial⟩ <;> (first | rfl | (refine Z.lookv rfl ?_; simp; done) | (refine Z.lookv rfl ?_; simp; omega))) ⟨⟨by omega, hnm, ha, by rw [← take_snoc hxi, ← take_snoc hyi, ht]⟩, hs⟩ (by omega)
                          )
                    )
              · first
                  | (exfalso; simp at hc4 <;> omega)
                  | (
                    (try simp at hc4)
                    refine Z.exit ?_
                    refine Z.xthen ?_
                    refine Z.xthen ?_
                    refine Z.xblock ?_
                    refine Z.nthen ?_
                    refine Z.seq ?_
                    refine Z.region ?_
                    obtain rfl : i = n := by omega
                    rw [List.take_of_length_le (by omega), List.take_of_length_le (by omega)] at ht
                    refine Z.l rfl rfl (by rfl) (Z.keepS hs) (Z.Yd.pure rfl) ?_
                    refine Z.lnil ?_
                    refine Z.only [4] rfl ?_
                    refine Z.nthen ?_
                    refine Z.ret ?_
                    -- ret#5
                    refine Z.out1 (by exact ⟨rfl, trivial⟩) ?_
                    refine ⟨_, rfl, ?_, hs.sub (List.nil_sublist _)⟩
                    first
                    | exact congrArg Value.bool (decide_eq_false (fun h => take_ne hxi hyi (fun e => by subst e; simp_all) h.2)).symm
                    | exact congrArg Value.bool (decide_eq_true ⟨ha, ht⟩).symm
                    | exact congrArg Value.bool (decide_eq_false (fun h => by have hlk := congrArg List.length h.2; simp_all)).symm
                    )
              )
        )
theorem num34 (e : Int) (w : World) : Calls Try.prog 13 #[.int .i64 e] w (SX.Ret fun v w' => v = .int .i64 e ∧ SX.St w [] w' []) := by
  have hs := SX.St.start w
  refine Z.enter Try.func13 rfl Try.ntmps13 rfl rfl ?_
  refine Z.seq ?_
  refine Z.region ?_
  refine Z.lb 1 rfl ?_
  refine Z.lnil ?_
  refine Z.only [0] rfl ?_
  refine Z.nthen ?_
  refine Z.seq ?_
  refine Z.region ?_
  refine Z.lb 2 rfl ?_
  refine Z.lnil ?_
  refine Z.only [2] rfl ?_
  refine Z.nthen ?_
  refine Z.ret ?_
  -- ret#0
  refine Z.out1 (by exact ⟨rfl, trivial⟩) ?_
  first | exact ⟨_, rfl, rfl, hs⟩ | exact ⟨_, rfl, rfl, hs.sub (List.nil_sublist _)⟩
theorem same34 (A B : Option Addr) (n c m d : Nat) (l k : List Int) (w : World) (hx : Sl w A (ints .u8 l)) (hy : Sl w B (ints .u8 k)) (hl : l.length = n) (hk : k.length = m) (hb : ∀ x ∈ l, 0 ≤ x ∧ x < 256) (hc : ∀ x ∈ k, 0 ≤ x ∧ x < 256) :
    Calls Try.prog 12 #[.slice A n c, .slice B m d] w (SX.Ret fun v w' => v = .bool (decide (l = k)) ∧ SX.St w [] w' []) := by
  have hs := SX.St.start w
  have he := Z.str_eq hb hc
  refine Z.enter Try.func12 rfl Try.ntmps12 rfl rfl ?_
  refine Z.seq ?_
  refine Z.region ?_
  refine Z.lb 1 rfl ?_
  refine Z.lnil ?_
  refine Z.only [0, 1] rfl ?_
  refine Z.nthen ?_
  refine Z.seq ?_
  refine Z.region ?_
  refine Z.lb 1 rfl ?_
  refine Z.l rfl rfl (by rfl) (Z.keepS hs) (Z.Yd.b2s rfl Try.underlying26 Try.underlying5 Try.underlying9 hl (fun W hW => by obtain ⟨R, hR, _⟩ := hW; exact hx.st hR)) ?_
  refine Z.lb 1 rfl ?_
  refine Z.l rfl rfl (by rfl) (Z.keepS hs) (Z.Yd.b2s rfl Try.underlying26 Try.underlying5 Try.underlying9 hk (fun W hW => by obtain ⟨R, hR, _⟩ := hW; exact hy.st hR)) ?_
  refine Z.l rfl rfl (by rfl) (Z.keepS hs) (Z.Yd.strEq rfl rfl) ?_
  refine Z.lb 1 rfl ?_
  refine Z.lnil ?_
  refine Z.only [4] rfl ?_
  refine Z.nthen ?_
  refine Z.ret ?_
  -- ret#0
  refine Z.out1 (by exact ⟨rfl, trivial⟩) ?_
  exact ⟨_, rfl, by simp_all, hs.sub (List.nil_sublist _)⟩
theorem fails34 (e : Int) (A : Option Addr) (m c : Nat) (l : List Int) (w : World) (hx : Sl w A (ints .u8 l)) (hl : l.length = m) (hm : m ≤ 1000000) (hb : ∀ x ∈ l, 0 ≤ x ∧ x < 256) (hd : decE l = e) (he : e ≠ 0) :
    Calls Try.prog 26 #[.int .i64 e, .slice A m c] w (SX.Ret fun v w' => v = .bool true ∧ SX.St w [] w' []) := by
  have hs := SX.St.start w
  have hA : decA l = 0 := by unfold decA; rw [if_neg (by omega)]
  have hL : decL l = [] := by unfold decL; rw [if_neg (by omega)]
  refine Z.enter Try.func26 rfl Try.ntmps26 rfl rfl ?_
  refine Z.seq ?_
  refine Z.region ?_
  refine Z.lb 1 rfl ?_
  refine Z.lnil ?_
  refine Z.only [0, 1] rfl ?_
  refine Z.nthen ?_
  refine Z.seq ?_
  refine Z.region ?_
  refine Z.lb 1 rfl ?_
  refine Z.le rfl trivial ?_
  refine Z.ZO.call rfl rfl (by rfl) rfl rfl Try.call17 rfl (decode_any A m c l _ (hx.st (hs.sub (List.nil_sublist _))) hl hm hb) ?_
  rintro v1_1 w1_1 ⟨B, c2, co, rfl, hy⟩
  replace hs := hs.call hy
  clear hy
  try simp only [List.cons_append, List.nil_append, List.append_nil] at hs
  rw [hd, hA, hL]
  refine Z.lb 3 rfl ?_
  refine Z.le rfl trivial ?_
  refine Z.ZO.alloc rfl rfl (by rfl) Try.zeroValue24 rfl hs ?_
  clear hs; intro g5 w5 hs
  refine Z.le rfl trivial ?_
  first | refine Z.ZO.storeA rfl rfl hs rfl rfl (by kernel_rfl) (by first | (simp [Value.oneCell']; done) | (refine Z.all_one ?_; assumption)) (by first | exact SX.at0 | exact SX.at1 | exact SX.at2 | exact SX.at3 | exact SX.at4 | exact SX.at5 | exact Z.at6 | exact Z.at7 | exact Z.at8 | exact Z.at9 | exact Z.at10 | exact Z.at11 | exact Z.at12) (by rfl) ?_ | refine Z.ZO.storeP rfl rfl hs rfl rfl (by kernel_rfl) (by first | (simp [Value.oneCell']; done) | (refine Z.all_one ?_; assumption)) (by first | exact SX.at0 | exact SX.at1 | exact SX.at2 | exact SX.at3 | exact SX.at4 | exact SX.at5 | exact Z.at6 | exact Z.at7 | exact Z.at8 | exact Z.at9 | exact Z.at10 | exact Z.at11 | exact Z.at12) (by first | decide | (simp; done) | (simp; omega)) ?_ | refine Z.ZO.storePR rfl rfl hs rfl rfl (by kernel_rfl) (by first | (simp [Value.oneCell']; done) | (refine Z.all_one ?_; assumption)) (by first | exact SX.at0 | exact SX.at1 | exact SX.at2 | exact SX.at3 | exact SX.at4 | exact SX.at5 | exact Z.at6 | exact Z.at7 | exact Z.at8 | exact Z.at9 | exact Z.at10 | exact Z.at11 | exact Z.at12) (by first | decide | (simp; done) | (simp; omega)) ?_
  clear hs; intro ws hs
  simp only [Nat.zero_add, Nat.add_zero, Nat.reduceAdd, Int.reduceToNat, Nat.reduceMul, List.set_cons_zero, List.set_cons_succ, List.setIfInBounds_toArray] at hs
  try simp only [Z.putL, Nat.zero_add] at hs
  refine Z.lb 1 rfl ?_
  refine Z.lnil ?_
  refine Z.only [0, 5, 6] rfl ?_
  refine Z.nthen ?_
  refine Z.seq ?_
  refine Z.region ?_
  refine Z.lb 4 rfl ?_
  refine Z.yes (s := 15) (b := true) rfl ((by simp)) rfl ?_
  refine Z.l rfl rfl (by rfl) (Z.keepS hs) (Z.Yd.fieldA (m := 0) rfl (by kernel_rfl)) ?_
  refine Z.l rfl rfl (by rfl) (Z.keepS hs) (by first | exact Z.Yd.load rfl Try.isAgg3 (fun _ => Z.cellB (by first | ((repeat (first | exact List.mem_cons_self | refine List.mem_cons_of_mem _ ?_ | refine List.mem_append_right _ ?_)); done) | fail) rfl) | exact Z.Yd.load rfl Try.isAgg3 (fun _ => Z.cellO (by assumption) (by simp) (by assumption)) | fail "load 2.5") ?_
  refine Z.lb 1 rfl ?_
  refine Z.yes (s := 15) (b := true) rfl rfl rfl ?_
  refine Z.l rfl rfl (by rfl) (Z.keepS hs) (Z.Yd.pickT rfl rfl) ?_
  refine Z.lb 1 rfl ?_
  refine Z.yes (s := 20) (b := true) rfl ((by simp)) rfl ?_
  refine Z.l rfl rfl (by rfl) (Z.keepS hs) (Z.Yd.fieldA (m := 1) rfl (by kernel_rfl)) ?_
  refine Z.l rfl rfl (by rfl) (Z.keepS hs) (by first | exact Z.Yd.load rfl Try.isAgg22 (fun _ => Z.cellB (by first | ((repeat (first | exact List.mem_cons_self | refine List.mem_cons_of_mem _ ?_ | refine List.mem_append_right _ ?_)); done) | fail) rfl) | exact Z.Yd.load rfl Try.isAgg22 (fun _ => Z.cellO (by assumption) (by simp) (by assumption)) | fail "load 2.10") ?_
  refine Z.l rfl rfl (by rfl) (Z.keepS hs) (Z.Yd.lenS rfl Try.underlying22) ?_
  refine Z.lb 1 rfl ?_
  refine Z.yes (s := 20) (b := true) rfl rfl rfl ?_
  refine Z.l rfl rfl (by rfl) (Z.keepS hs) (Z.Yd.pickT rfl rfl) ?_
  refine Z.lb 1 rfl ?_
  refine Z.lnil ?_
  refine Z.only [4] rfl ?_
  refine Z.nthen ?_
  refine Z.ret ?_
  -- ret#0
  refine Z.out1 (by exact ⟨rfl, trivial⟩) ?_
  first | exact ⟨_, rfl, rfl, hs⟩ | exact ⟨_, rfl, rfl, hs.sub (List.nil_sublist _)⟩
end Go.Proofs.Ytcieclifabbkjaa
