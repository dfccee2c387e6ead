/- Control elements: encoding. -/
import Derived.Test.YteabcdmgklhijaaCd
namespace Go.Proofs.Yteabcdmgklhijaa
open Go.RowKit
set_option linter.unusedSimpArgs false
set_option linter.unusedVariables false
--newlaws

theorem blkLater {w0 w W : World} {M : List Nat} {L L' : List SX.Ent} {g T j : Nat} {cs : Array Value} (hs : SX.St w0 M w L) (hj : L[j]? = some (SX.Ent.blk g T cs)) (hW : SX.St w [] W L') : g < W.heap.size ∧ ∀ i u, cs[i]? = some u → W.cell? ⟨g, i, none⟩ = some u := by
  have hr : w.heap[g]? = some (.cells cs T (0, 0)) := hs.get hj
  have hlt := SX.lt_of_some hr
  exact ⟨Nat.lt_of_lt_of_le hlt hW.size, fun i u hu => (hW.oldcell (p := ⟨g, i, none⟩) hlt (by simp)).trans ((SX.cell_blk hr i).trans hu)⟩
theorem IsPart.of {lc : Int} {l l' : List Int} {v : Value} {w w' : World} (h : IsPart lc l v w w') (e : l = l') : IsPart lc l' v w w' := e ▸ h

/-- the bytes of a headroom -/
theorem pow_bytes (h : Int) (h0 : 0 ≤ h) (h1 : h ≤ 63) : pk ([((0 : Int), (2 : Int)), (h, 6)].flatMap fldF) = [h] := by
  obtain ⟨n, rfl⟩ := Int.eq_ofNat_of_zero_le h0
  have hl : ([((0 : Int), (2 : Int)), ((n : Int), 6)].flatMap fldF).length = 8 := by simp [fldF, fld_length]
  have hp : (pk ([((0 : Int), (2 : Int)), ((n : Int), 6)].flatMap fldF)).length = 1 := by rw [pk_length, hl]
  have hn := pk_num (bs := [((0 : Int), (2 : Int)), ((n : Int), 6)].flatMap fldF) (by rw [hl])
  obtain ⟨x, hx⟩ := list1 hp
  rw [hx] at hn ⊢
  simp only [flat_val, num, List.foldl_cons, List.foldl_nil] at hn
  simp [fldF, fld_length, val] at hn
  simp only [List.cons.injEq, and_true]
  omega
set_option maxRecDepth 100000 in
theorem encpow1_ok (g : Nat) (h : Int) (w : World) (hg : g < w.heap.size) (hc : w.cell? ⟨g, 0, none⟩ = some (.int .i64 h)) (hh : 0 ≤ h ∧ h ≤ 63) :
    Calls Try.prog 39 #[.pointer (some ⟨g, 0, none⟩)] w (SX.Ret fun v w' => IsPart 26 [h] v w w') := by
  have hs := SX.St.start w
  refine Z.enter Try.func39 rfl Try.ntmps39 rfl rfl ?_
  refine Z.seq ?_
  refine Z.region ?_
  refine Z.le rfl trivial ?_
  refine Z.ZO.alloc rfl rfl (by rfl) Try.zeroValue31 rfl hs ?_
  clear hs; intro g1 w1 hs
  refine Z.lnil ?_
  refine Z.only [0, 1] rfl ?_
  refine Z.nthen ?_
  refine Z.seq ?_
  refine Z.drawK (fun j => j != 5) mixed hs ?_
  clear hs; intro wd1 hs
  refine Z.t 1 rfl rfl rfl (by rfl) (by kernel_rfl) ⟨_, hs, by first | (simp; done) | exact fun e he => List.mem_append_right _ he⟩ (Z.Yd.load rfl Try.isAgg3 (fun _ => Z.cellO hg (by simp) hc)) ?_
  refine Z.tn 0 rfl rfl (by kernel_rfl) rfl trivial ?_
  refine Z.ZO.call rfl rfl (by rfl) rfl rfl Try.call34 rfl (group_ok 0 _ (by omega)) ?_
  rintro v1_0 w1_0 ⟨rfl, hy⟩
  replace hs := hs.call hy
  clear hy
  try simp only [List.cons_append, List.nil_append, List.append_nil] at hs
  refine Z.tk (Dn := fun j => j != 5) (i := 0) (fun _ => ⟨_, hs, by first | (simp; done) | exact fun e he => List.mem_append_right _ he⟩) ?_
  refine Z.tn 2 rfl rfl (by kernel_rfl) rfl trivial ?_
  refine Z.ZO.call rfl rfl (by rfl) rfl rfl Try.call37 rfl (level_ok h _ hh) ?_
  rintro v1_2 w1_2 ⟨rfl, hy⟩
  replace hs := hs.call hy
  clear hy
  try simp only [List.cons_append, List.nil_append, List.append_nil] at hs
  refine Z.tk (Dn := fun j => j != 5) (i := 2) (fun _ => ⟨_, hs, by first | (simp; done) | exact fun e he => List.mem_append_right _ he⟩) ?_
  refine Z.tn 3 rfl rfl (by kernel_rfl) rfl trivial ?_
  refine Z.ZO.litL (T' := 68) [(0, 2), (2, 2)] [.int .u64 0, .int .i64 0, .int .u64 0, .int .i64 0] rfl rfl (by rfl) rfl rfl (by intro W; kernel_rfl) hs ?_
  clear hs; intro g5 w5 hs
  refine Z.tk (Dn := fun j => j != 5) (i := 3) (fun _ => ⟨_, hs, by first | (simp; done) | exact fun e he => List.mem_append_right _ he⟩) ?_
  have hsx := Z.blk_lentj (L1 := []) hs (j := 0) rfl
  refine Z.tn 4 rfl rfl (by kernel_rfl) rfl trivial ?_
  refine Z.ZO.call rfl rfl (by rfl) rfl rfl Try.call36 rfl (built_ok 26 _ 2 2 [(0, 2), (h, 6)] _ hsx rfl (by omega) (by simp [GoodF]; omega) (by simp [chkA, chkF, quoF]; omega)) ?_
  rintro v1_4 w1_4 ⟨B, co, rfl, hy⟩
  replace hs := hs.call hy
  clear hy
  try simp only [List.cons_append, List.nil_append, List.append_nil] at hs
  rw [pow_bytes h hh.1 hh.2] at hs ⊢
  refine Z.tk (Dn := fun j => j != 5) (i := 4) (fun _ => ⟨_, hs, by first | (simp; done) | exact fun e he => List.mem_append_right _ he⟩) ?_
  refine Z.tn 5 rfl rfl (by kernel_rfl) rfl trivial ?_
  refine Z.ZO.storeA rfl rfl hs rfl rfl (by kernel_rfl) (by simp [Value.oneCell']) (by first | exact SX.at0 | exact SX.at1 | exact SX.at2 | exact SX.at3 | exact SX.at4 | exact SX.at5 | exact Z.at6 | exact Z.at7 | exact Z.at8 | exact Z.at9 | exact Z.at10 | exact Z.at11 | exact Z.at12) (by rfl) ?_
  clear hs; intro ws hs
  simp only [Nat.zero_add, Nat.add_zero, Nat.reduceAdd, Int.reduceToNat, Nat.reduceMul, List.set_cons_zero, List.set_cons_succ, List.setIfInBounds_toArray] at hs
  refine Z.tk (Dn := fun j => j != 5) (i := 5) (fun h => absurd h (by decide)) ?_
  refine Z.td (by rfl) (by kernel_rfl) ?_
  refine Z.only [1] rfl ?_
  refine Z.nthen ?_
  refine Z.ret ?_
  -- ret#0
  refine Z.out1 (by exact ⟨⟨_, rfl, Z.rvcA hs Try.isAgg31 (by first | ((repeat (first | exact List.mem_cons_self | refine List.mem_cons_of_mem _ ?_ | refine List.mem_append_right _ ?_)); done) | fail) (by exact Try.sizeOf31)⟩, trivial⟩) ?_
  exact ⟨_, rfl, B, co, rfl, hs.sel [0] (by decide)⟩
set_option maxRecDepth 100000 in
theorem encpow1_bad (g : Nat) (h : Int) (w : World) (hg : g < w.heap.size) (hc : w.cell? ⟨g, 0, none⟩ = some (.int .i64 h)) (hh : ¬ (0 ≤ h ∧ h ≤ 63)) :
    Calls Try.prog 39 #[.pointer (some ⟨g, 0, none⟩)] w (PanE 2 fun w' => SX.St w [] w' []) := by
  have hs := SX.St.start w
  refine Z.enter Try.func39 rfl Try.ntmps39 rfl rfl ?_
  refine Z.seq ?_
  refine Z.region ?_
  refine Z.le rfl trivial ?_
  refine Z.ZO.alloc rfl rfl (by rfl) Try.zeroValue31 rfl hs ?_
  clear hs; intro g1 w1 hs
  refine Z.lnil ?_
  refine Z.only [0, 1] rfl ?_
  refine Z.nthen ?_
  refine Z.seq ?_
  refine Z.drawPK (fun j => j != 5) mixed hs ?_
  clear hs; intro wd1 hs
  refine Z.tXP 1 [1, 2, 3, 4, 5] (fun _ _ _ _ _ h => h) rfl rfl rfl (by rfl) (by kernel_rfl) ⟨_, hs, by first | (simp; done) | exact fun e he => List.mem_append_right _ he⟩ (Z.Yd.load rfl Try.isAgg3 (fun _ => Z.cellO hg (by simp) hc)) ?_
  refine Z.tnP 0 rfl rfl (by kernel_rfl) rfl trivial ?_
  refine Z.ZO.call rfl rfl (by rfl) rfl rfl Try.call34 rfl (group_ok 0 _ (by omega)) ?_
  rintro v1_0 w1_0 ⟨rfl, hy⟩
  replace hs := hs.call hy
  clear hy
  try simp only [List.cons_append, List.nil_append, List.append_nil] at hs
  refine Z.tkP (Dn := fun j => j != 5) (i := 0) (fun _ => ⟨_, hs, by first | (simp; done) | exact fun e he => List.mem_append_right _ he⟩) ?_
  refine Z.tnP 2 rfl rfl (by kernel_rfl) rfl trivial ?_
  refine Z.ZO.callP rfl rfl rfl Try.call37 rfl (level_bad h _ hh) ?_
  rintro c1_2 w1_2 ⟨rfl, hy⟩
  replace hs := hs.call hy
  clear hy
  try simp only [List.cons_append, List.nil_append, List.append_nil] at hs
  repeat (first | refine Z.pthen ?_ | refine Z.pblock ?_ | refine Z.pscope ?_)
  -- ret#0
  refine Z.outp ?_
  exact ⟨_, rfl, rfl, hs.sub (List.nil_sublist _)⟩

/-- n bytes of a number, the great one first -/
def be : Nat → Int → List Int
  | 0, _ => []
  | n + 1, v => be n (v / 256) ++ [v % 256]
@[simp] theorem be_length : ∀ (n : Nat) (v : Int), (be n v).length = n
  | 0, _ => rfl
  | n + 1, v => by simp [be, be_length n]
theorem be_num {l : List Int} (hb : Byts l) : be l.length (num l) = l := by
  refine snoc_ind (p := fun l => Byts l → be l.length (num l) = l) (fun _ => rfl) (fun l x ih hb => ?_) l hb
  have hx := hb x (by simp)
  rw [List.length_append, List.length_singleton, num_snoc]
  show be l.length ((256 * num l + x) / 256) ++ [(256 * num l + x) % 256] = _
  rw [show (256 * num l + x) / 256 = num l from by omega, show (256 * num l + x) % 256 = x from by omega, ih fun y hy => hb y (by simp [hy])]
theorem pk_be {bs : List Bool} {n : Nat} (h : bs.length = 8 * n) : pk bs = be n (val bs) := by
  have h1 := be_num (l := pk bs) pk_bytes
  rw [pk_num (by omega), pk_length, show (bs.length + 7) / 8 = n from by omega] at h1
  exact h1.symm
theorem be_bytes : ∀ (n : Nat) (v : Int), Byts (be n v)
  | 0, _ => by intro x hx; cases hx
  | n + 1, v => by
    intro x hx
    rcases List.mem_append.1 hx with hx | hx
    · exact be_bytes n _ x hx
    · obtain rfl : x = v % 256 := by simpa using hx
      omega
theorem num_be : ∀ (n : Nat) (v : Int), 0 ≤ v → num (be n v) = v % ((2 ^ (n * 8) : Nat) : Int)
  | 0, v, h => by simp [num, be]
  | n + 1, v, h => by
    rw [be, num_snoc, num_be n _ (by omega), show (n + 1) * 8 = n * 8 + 8 from by omega, Nat.pow_add]
    obtain ⟨m, hm⟩ : ∃ m, m = 2 ^ (n * 8) := ⟨_, rfl⟩
    rw [← hm, show (2 : Nat) ^ 8 = 256 from by decide]
    obtain ⟨k, rfl⟩ := Int.eq_ofNat_of_zero_le h
    have e1 : ((k : Int) / 256 % (m : Int)) = ((k / 256 % m : Nat) : Int) := rfl
    have e2 : ((k : Int) % ((m * 256 : Nat) : Int)) = ((k % (m * 256) : Nat) : Int) := rfl
    rw [e1, e2, Nat.mul_comm m, Nat.mod_mul]
    omega

set_option maxRecDepth 100000 in
theorem encid1_ok (g g2 : Nat) (lc : Int) (id : Nat) (w : World) (hg : g < w.heap.size) (hc : w.cell? ⟨g, 0, none⟩ = some (.int .i64 lc)) (hg2 : g2 < w.heap.size) (hc2 : w.cell? ⟨g2, 0, none⟩ = some (.int .u64 (id : Int))) (hid : id < 18446744073709551616) (hi : isId lc) (hh : id / 2 ^ (8 * wid lc).toNat = 0) :
    Calls Try.prog 40 #[.pointer (some ⟨g, 0, none⟩), .pointer (some ⟨g2, 0, none⟩)] w (SX.Ret fun v w' => IsPart lc (be (wid lc).toNat (id : Int)) v w w') := by
  have hs := SX.St.start w
  have hw : wid lc = 2 ∨ wid lc = 6 := by unfold wid; split <;> omega
  have hchk : chkF ((id : Int), 8 * wid lc) = 0 := by unfold chkF quoF; rw [if_neg (by simp only; omega), if_pos (by simpa using hh)]
  have hbytes : pk ([((id : Int), 8 * wid lc)].flatMap fldF) = be (wid lc).toNat (id : Int) := by
    rw [pk_be (n := (wid lc).toNat) (by simp [fldF, fld_length]; omega), flat_val]
    simp only [List.flatMap_nil, List.length_nil, Int.toNat_natCast, Nat.pow_zero, Nat.mul_one]
    rw [show val [] = 0 from rfl, Nat.add_zero, Nat.mod_eq_of_lt]
    exact (Nat.div_eq_zero_iff_lt (Nat.pow_pos (by decide))).1 hh
  refine Z.enter Try.func40 rfl Try.ntmps40 rfl rfl ?_
  refine Z.seq ?_
  refine Z.region ?_
  refine Z.le rfl trivial ?_
  refine Z.ZO.alloc rfl rfl (by rfl) Try.zeroValue31 rfl hs ?_
  clear hs; intro g2 w2 hs
  refine Z.lnil ?_
  refine Z.only [0, 1, 2] rfl ?_
  refine Z.nthen ?_
  refine Z.seq ?_
  refine Z.drawK (fun j => j != 8) mixed hs ?_
  clear hs; intro wd1 hs
  refine Z.t 0 rfl rfl rfl (by rfl) (by kernel_rfl) ⟨_, hs, by first | (simp; done) | exact fun e he => List.mem_append_right _ he⟩ (Z.Yd.load rfl Try.isAgg3 (fun _ => Z.cellO hg (by simp) hc)) ?_
  refine Z.t 1 rfl rfl rfl (by rfl) (by kernel_rfl) ⟨_, hs, by first | (simp; done) | exact fun e he => List.mem_append_right _ he⟩ (Z.Yd.load rfl Try.isAgg40 (fun _ => Z.cellO hg2 (by simp) hc2)) ?_
  refine Z.t 2 rfl rfl rfl (by rfl) (by kernel_rfl) ⟨_, hs, by first | (simp; done) | exact fun e he => List.mem_append_right _ he⟩ (Z.Yd.load rfl Try.isAgg3 (fun _ => Z.cellO hg (by simp) hc)) ?_
  refine Z.tn 3 rfl rfl (by kernel_rfl) rfl trivial ?_
  refine Z.ZO.call rfl rfl (by rfl) rfl rfl Try.call41 rfl (width_ok lc _ hi) ?_
  rintro v1_3 w1_3 ⟨rfl, hy⟩
  replace hs := hs.call hy
  clear hy
  try simp only [List.cons_append, List.nil_append, List.append_nil] at hs
  refine Z.tk (Dn := fun j => j != 8) (i := 3) (fun _ => ⟨_, hs, by first | (simp; done) | exact fun e he => List.mem_append_right _ he⟩) ?_
  refine Z.t 4 rfl rfl rfl (by rfl) (by kernel_rfl) ⟨_, hs, by first | (simp; done) | exact fun e he => List.mem_append_right _ he⟩ (Z.Yd.mul rfl rfl (fun hG => Z.wi64 (by first | omega | (have hG' := Z.gh rfl hG; simp at hG'; omega)))) ?_
  refine Z.t 5 rfl rfl rfl (by rfl) (by kernel_rfl) ⟨_, hs, by first | (simp; done) | exact fun e he => List.mem_append_right _ he⟩ (Z.Yd.buildL [(0, 1), (1, 1)] [.int .u64 0, .int .i64 0] rfl rfl (by intro w; kernel_rfl)) ?_
  refine Z.tn 6 rfl rfl (by kernel_rfl) rfl trivial ?_
  refine Z.ZO.litL (T' := 68) [(0, 2)] [.int .u64 0, .int .i64 0] rfl rfl (by rfl) rfl rfl (by intro W; kernel_rfl) hs ?_
  clear hs; intro g9 w9 hs
  refine Z.tk (Dn := fun j => j != 8) (i := 6) (fun _ => ⟨_, hs, by first | (simp; done) | exact fun e he => List.mem_append_right _ he⟩) ?_
  have hsx := Z.blk_lentj (L1 := []) hs (j := 0) rfl
  refine Z.tn 7 rfl rfl (by kernel_rfl) rfl trivial ?_
  refine Z.ZO.call rfl rfl (by rfl) rfl rfl Try.call36 rfl (built_ok lc _ 1 1 [((id : Int), 8 * wid lc)] _ hsx rfl (by omega) (by simp [GoodF]; omega) (by simp [chkA, hchk])) ?_
  rintro v1_7 w1_7 ⟨B, co, rfl, hy⟩
  replace hs := hs.call hy
  clear hy
  try simp only [List.cons_append, List.nil_append, List.append_nil] at hs
  rw [hbytes] at hs ⊢
  refine Z.tk (Dn := fun j => j != 8) (i := 7) (fun _ => ⟨_, hs, by first | (simp; done) | exact fun e he => List.mem_append_right _ he⟩) ?_
  refine Z.tn 8 rfl rfl (by kernel_rfl) rfl trivial ?_
  refine Z.ZO.storeA rfl rfl hs rfl rfl (by kernel_rfl) (by simp [Value.oneCell']) (by first | exact SX.at0 | exact SX.at1 | exact SX.at2 | exact SX.at3 | exact SX.at4 | exact SX.at5 | exact Z.at6 | exact Z.at7 | exact Z.at8 | exact Z.at9 | exact Z.at10 | exact Z.at11 | exact Z.at12) (by rfl) ?_
  clear hs; intro ws hs
  simp only [Nat.zero_add, Nat.add_zero, Nat.reduceAdd, Int.reduceToNat, Nat.reduceMul, List.set_cons_zero, List.set_cons_succ, List.setIfInBounds_toArray] at hs
  refine Z.tk (Dn := fun j => j != 8) (i := 8) (fun h => absurd h (by decide)) ?_
  refine Z.td (by rfl) (by kernel_rfl) ?_
  refine Z.only [2] rfl ?_
  refine Z.nthen ?_
  refine Z.ret ?_
  -- ret#0
  refine Z.out1 (by exact ⟨⟨_, rfl, Z.rvcA hs Try.isAgg31 (by first | ((repeat (first | exact List.mem_cons_self | refine List.mem_cons_of_mem _ ?_ | refine List.mem_append_right _ ?_)); done) | fail) (by exact Try.sizeOf31)⟩, trivial⟩) ?_
  exact ⟨_, rfl, B, co, rfl, hs.sel [0] (by decide)⟩

set_option maxRecDepth 100000 in
theorem encid1_bad (g g2 : Nat) (lc : Int) (id : Nat) (w : World) (hg : g < w.heap.size) (hc : w.cell? ⟨g, 0, none⟩ = some (.int .i64 lc)) (hg2 : g2 < w.heap.size) (hc2 : w.cell? ⟨g2, 0, none⟩ = some (.int .u64 (id : Int))) (hid : id < 18446744073709551616) (hh : ¬ (isId lc ∧ id / 2 ^ (8 * wid lc).toNat = 0)) :
    Calls Try.prog 40 #[.pointer (some ⟨g, 0, none⟩), .pointer (some ⟨g2, 0, none⟩)] w (PanE 2 fun w' => SX.St w [] w' []) := by
  have hs := SX.St.start w
  by_cases hi : isId lc
  · have hw : wid lc = 2 ∨ wid lc = 6 := by unfold wid; split <;> omega
    have hchk : chkF ((id : Int), 8 * wid lc) = 4 := by unfold chkF quoF; rw [if_neg (by simp only; omega), if_neg (by simp only [Int.toNat_natCast]; exact fun e => hh ⟨hi, e⟩)]
    refine Z.enter Try.func40 rfl Try.ntmps40 rfl rfl ?_
    refine Z.seq ?_
    refine Z.region ?_
    refine Z.le rfl trivial ?_
    refine Z.ZO.alloc rfl rfl (by rfl) Try.zeroValue31 rfl hs ?_
    clear hs; intro g2 w2 hs
    refine Z.lnil ?_
    refine Z.only [0, 1, 2] rfl ?_
    refine Z.nthen ?_
    refine Z.seq ?_
    refine Z.drawPK (fun j => j != 8) mixed hs ?_
    clear hs; intro wd1 hs
    refine Z.tXP 0 [0, 7, 8] (fun _ _ _ _ _ h => h) rfl rfl rfl (by rfl) (by kernel_rfl) ⟨_, hs, by first | (simp; done) | exact fun e he => List.mem_append_right _ he⟩ (Z.Yd.load rfl Try.isAgg3 (fun _ => Z.cellO hg (by simp) hc)) ?_
    refine Z.tXP 1 [1, 5, 6, 7, 8] (fun _ _ _ _ _ h => h) rfl rfl rfl (by rfl) (by kernel_rfl) ⟨_, hs, by first | (simp; done) | exact fun e he => List.mem_append_right _ he⟩ (Z.Yd.load rfl Try.isAgg40 (fun _ => Z.cellO hg2 (by simp) hc2)) ?_
    refine Z.tXP 2 [2, 3, 4, 5, 6, 7, 8] (fun _ _ _ _ _ h => h) rfl rfl rfl (by rfl) (by kernel_rfl) ⟨_, hs, by first | (simp; done) | exact fun e he => List.mem_append_right _ he⟩ (Z.Yd.load rfl Try.isAgg3 (fun _ => Z.cellO hg (by simp) hc)) ?_
    refine Z.tnP 3 rfl rfl (by kernel_rfl) rfl trivial ?_
    refine Z.ZO.call rfl rfl (by rfl) rfl rfl Try.call41 rfl (width_ok lc _ hi) ?_
    rintro v1_3 w1_3 ⟨rfl, hy⟩
    replace hs := hs.call hy
    clear hy
    try simp only [List.cons_append, List.nil_append, List.append_nil] at hs
    refine Z.tkP (Dn := fun j => j != 8) (i := 3) (fun _ => ⟨_, hs, by first | (simp; done) | exact fun e he => List.mem_append_right _ he⟩) ?_
    refine Z.tXP 4 [4, 5, 6, 7, 8] (fun _ _ _ _ _ h => h) rfl rfl rfl (by rfl) (by kernel_rfl) ⟨_, hs, by first | (simp; done) | exact fun e he => List.mem_append_right _ he⟩ (Z.Yd.mul rfl rfl (fun hG => Z.wi64 (by first | omega | (have hG' := Z.gh rfl hG; simp at hG'; omega)))) ?_
    refine Z.tXP 5 [5, 6, 7, 8] (fun _ _ _ _ _ h => h) rfl rfl rfl (by rfl) (by kernel_rfl) ⟨_, hs, by first | (simp; done) | exact fun e he => List.mem_append_right _ he⟩ (Z.Yd.buildL [(0, 1), (1, 1)] [.int .u64 0, .int .i64 0] rfl rfl (by intro w; kernel_rfl)) ?_
    refine Z.tnP 6 rfl rfl (by kernel_rfl) rfl trivial ?_
    refine Z.ZO.litL (T' := 68) [(0, 2)] [.int .u64 0, .int .i64 0] rfl rfl (by rfl) rfl rfl (by intro W; kernel_rfl) hs ?_
    clear hs; intro g9 w9 hs
    refine Z.tkP (Dn := fun j => j != 8) (i := 6) (fun _ => ⟨_, hs, by first | (simp; done) | exact fun e he => List.mem_append_right _ he⟩) ?_
    have hsx := Z.blk_lentj (L1 := []) hs (j := 0) rfl
    refine Z.tnP 7 rfl rfl (by kernel_rfl) rfl trivial ?_
    refine Z.ZO.callP rfl rfl rfl Try.call36 rfl (built_bad lc _ 1 1 [((id : Int), 8 * wid lc)] _ hsx rfl (by omega) (by simp [GoodF]; omega) (by simp [chkA, hchk])) ?_
    rintro c1_7 w1_7 ⟨rfl, hy⟩
    replace hs := hs.call hy
    clear hy
    try simp only [List.cons_append, List.nil_append, List.append_nil] at hs
    repeat (first | refine Z.pthen ?_ | refine Z.pblock ?_ | refine Z.pscope ?_)
    -- ret#0
    refine Z.outp ?_
    exact ⟨_, rfl, rfl, hs.sub (List.nil_sublist _)⟩
  · skip
    refine Z.enter Try.func40 rfl Try.ntmps40 rfl rfl ?_
    refine Z.seq ?_
    refine Z.region ?_
    refine Z.le rfl trivial ?_
    refine Z.ZO.alloc rfl rfl (by rfl) Try.zeroValue31 rfl hs ?_
    clear hs; intro g2 w2 hs
    refine Z.lnil ?_
    refine Z.only [0, 1, 2] rfl ?_
    refine Z.nthen ?_
    refine Z.seq ?_
    refine Z.drawPK (fun j => j != 8) mixed hs ?_
    clear hs; intro wd1 hs
    refine Z.tXP 0 [0, 7, 8] (fun _ _ _ _ _ h => h) rfl rfl rfl (by rfl) (by kernel_rfl) ⟨_, hs, by first | (simp; done) | exact fun e he => List.mem_append_right _ he⟩ (Z.Yd.load rfl Try.isAgg3 (fun _ => Z.cellO hg (by simp) hc)) ?_
    refine Z.tXP 1 [1, 5, 6, 7, 8] (fun _ _ _ _ _ h => h) rfl rfl rfl (by rfl) (by kernel_rfl) ⟨_, hs, by first | (simp; done) | exact fun e he => List.mem_append_right _ he⟩ (Z.Yd.load rfl Try.isAgg40 (fun _ => Z.cellO hg2 (by simp) hc2)) ?_
    refine Z.tXP 2 [2, 3, 4, 5, 6, 7, 8] (fun _ _ _ _ _ h => h) rfl rfl rfl (by rfl) (by kernel_rfl) ⟨_, hs, by first | (simp; done) | exact fun e he => List.mem_append_right _ he⟩ (Z.Yd.load rfl Try.isAgg3 (fun _ => Z.cellO hg (by simp) hc)) ?_
    refine Z.tnP 3 rfl rfl (by kernel_rfl) rfl trivial ?_
    refine Z.ZO.callP rfl rfl rfl Try.call41 rfl (width_bad lc _ hi) ?_
    rintro c1_3 w1_3 ⟨rfl, hy⟩
    replace hs := hs.call hy
    clear hy
    try simp only [List.cons_append, List.nil_append, List.append_nil] at hs
    repeat (first | refine Z.pthen ?_ | refine Z.pblock ?_ | refine Z.pscope ?_)
    -- ret#0
    refine Z.outp ?_
    exact ⟨_, rfl, rfl, hs.sub (List.nil_sublist _)⟩

theorem encid_ok (lc : Int) (id : Nat) (w : World) (hid : id < 18446744073709551616) (hi : isId lc) (hh : id / 2 ^ (8 * wid lc).toNat = 0) :
    Calls Try.prog 19 #[.int .i64 lc, .int .u64 (id : Int)] w (SX.Ret fun v w' => ∃ u, v = .tuple #[u, .int .i64 0] ∧ IsPart lc (be (wid lc).toNat (id : Int)) u w w') := by
  have hs := SX.St.start w
  refine Z.enter Try.func19 rfl Try.ntmps19 rfl rfl ?_
  refine Z.seq ?_
  refine Z.region ?_
  refine Z.le rfl trivial ?_
  refine Z.ZO.box rfl rfl (by rfl) rfl rfl hs ?_
  clear hs; intro g2 w2 hs
  refine Z.le rfl trivial ?_
  refine Z.ZO.box rfl rfl (by rfl) rfl rfl hs ?_
  clear hs; intro g3 w3 hs
  refine Z.le rfl trivial ?_
  refine Z.ZO.alloc rfl rfl (by rfl) Try.zeroValue31 rfl hs ?_
  clear hs; intro g4 w4 hs
  refine Z.lb 1 rfl ?_
  refine Z.lnil ?_
  refine Z.only [2, 3, 4] rfl ?_
  refine Z.nthen ?_
  refine Z.seq ?_
  refine Z.region ?_
  refine Z.lb 1 rfl ?_
  have hof : ∀ W L, SX.St w4 [] W L → Calls Try.prog 40 #[.pointer (some ⟨g2, 0, none⟩), .pointer (some ⟨g3, 0, none⟩)] W (SX.Ret fun v w' => IsPart lc (be (wid lc).toNat (id : Int)) v W w') := fun W L hW => by
    obtain ⟨a1, a2⟩ := blkLater hs (j := 2) rfl hW
    obtain ⟨b1, b2⟩ := blkLater hs (j := 1) rfl hW
    exact encid1_ok g2 g3 lc id W a1 (a2 0 _ rfl) b1 (b2 0 _ rfl) hid hi hh
  refine Z.le rfl trivial ?_
  refine Z.ZO.call rfl rfl (by rfl) rfl rfl Try.call32 rfl (element_ok _ _ lc _ _ Try.call40 hof) ?_
  rintro v1_1 w1_1 ⟨u, rfl, B, co, rfl, hy⟩
  replace hs := hs.call hy
  clear hy
  try simp only [List.cons_append, List.nil_append, List.append_nil] at hs
  refine Z.lb 2 rfl ?_
  refine Z.le rfl trivial ?_
  refine Z.ZO.storeA rfl rfl hs rfl rfl (by kernel_rfl) (by simp [Value.oneCell']) (by first | exact SX.at0 | exact SX.at1 | exact SX.at2 | exact SX.at3 | exact SX.at4 | exact SX.at5 | exact Z.at6 | exact Z.at7 | exact Z.at8 | exact Z.at9 | exact Z.at10 | exact Z.at11 | exact Z.at12) (by rfl) ?_
  clear hs; intro ws hs
  simp only [Nat.zero_add, Nat.add_zero, Nat.reduceAdd, Int.reduceToNat, Nat.reduceMul, List.set_cons_zero, List.set_cons_succ, List.setIfInBounds_toArray] at hs
  refine Z.lb 1 rfl ?_
  refine Z.lnil ?_
  refine Z.only [4, 5] rfl ?_
  refine Z.nthen ?_
  refine Z.ret ?_
  -- ret#0
  refine Z.out2 (by exact ⟨⟨_, rfl, Z.rvcA hs Try.isAgg31 (by first | ((repeat (first | exact List.mem_cons_self | refine List.mem_cons_of_mem _ ?_ | refine List.mem_append_right _ ?_)); done) | fail) (by exact Try.sizeOf31)⟩, rfl, trivial⟩) ?_
  exact ⟨_, rfl, _, rfl, B, co, rfl, hs.sel [0] (by decide)⟩
theorem encid_bad (lc : Int) (id : Nat) (w : World) (hid : id < 18446744073709551616) (hh : ¬ (isId lc ∧ id / 2 ^ (8 * wid lc).toNat = 0)) :
    Calls Try.prog 19 #[.int .i64 lc, .int .u64 (id : Int)] w (SX.Ret fun v w' => v = .tuple #[.agg #[.int .i64 0, .slice none 0 0], .int .i64 2] ∧ SX.St w [] w' []) := by
  have hs := SX.St.start w
  refine Z.enter Try.func19 rfl Try.ntmps19 rfl rfl ?_
  refine Z.seq ?_
  refine Z.region ?_
  refine Z.le rfl trivial ?_
  refine Z.ZO.box rfl rfl (by rfl) rfl rfl hs ?_
  clear hs; intro g2 w2 hs
  refine Z.le rfl trivial ?_
  refine Z.ZO.box rfl rfl (by rfl) rfl rfl hs ?_
  clear hs; intro g3 w3 hs
  refine Z.le rfl trivial ?_
  refine Z.ZO.alloc rfl rfl (by rfl) Try.zeroValue31 rfl hs ?_
  clear hs; intro g4 w4 hs
  refine Z.lb 1 rfl ?_
  refine Z.lnil ?_
  refine Z.only [2, 3, 4] rfl ?_
  refine Z.nthen ?_
  refine Z.seq ?_
  refine Z.region ?_
  refine Z.lb 1 rfl ?_
  have hof : ∀ W L, SX.St w4 [] W L → Calls Try.prog 40 #[.pointer (some ⟨g2, 0, none⟩), .pointer (some ⟨g3, 0, none⟩)] W (PanE 2 fun w' => SX.St W [] w' []) := fun W L hW => by
    obtain ⟨a1, a2⟩ := blkLater hs (j := 2) rfl hW
    obtain ⟨b1, b2⟩ := blkLater hs (j := 1) rfl hW
    exact encid1_bad g2 g3 lc id W a1 (a2 0 _ rfl) b1 (b2 0 _ rfl) hid hh
  refine Z.le rfl trivial ?_
  refine Z.ZO.call rfl rfl (by rfl) rfl rfl Try.call32 rfl (element_bad _ _ 2 _ Try.call40 hof) ?_
  rintro v1_1 w1_1 ⟨rfl, hy⟩
  replace hs := hs.call hy
  clear hy
  try simp only [List.cons_append, List.nil_append, List.append_nil] at hs
  refine Z.lb 2 rfl ?_
  refine Z.le rfl trivial ?_
  refine Z.ZO.storeA rfl rfl hs rfl rfl (by kernel_rfl) (by simp [Value.oneCell']) (by first | exact SX.at0 | exact SX.at1 | exact SX.at2 | exact SX.at3 | exact SX.at4 | exact SX.at5 | exact Z.at6 | exact Z.at7 | exact Z.at8 | exact Z.at9 | exact Z.at10 | exact Z.at11 | exact Z.at12) (by rfl) ?_
  clear hs; intro ws hs
  simp only [Nat.zero_add, Nat.add_zero, Nat.reduceAdd, Int.reduceToNat, Nat.reduceMul, List.set_cons_zero, List.set_cons_succ, List.setIfInBounds_toArray] at hs
  refine Z.lb 1 rfl ?_
  refine Z.lnil ?_
  refine Z.only [4, 5] rfl ?_
  refine Z.nthen ?_
  refine Z.ret ?_
  -- ret#0
  refine Z.out2 (by exact ⟨⟨_, rfl, Z.rvcA hs Try.isAgg31 (by first | ((repeat (first | exact List.mem_cons_self | refine List.mem_cons_of_mem _ ?_ | refine List.mem_append_right _ ?_)); done) | fail) (by exact Try.sizeOf31)⟩, rfl, trivial⟩) ?_
  exact ⟨_, rfl, rfl, hs.sub (List.nil_sublist _)⟩
theorem encpow_ok (h : Int) (w : World) (hh : 0 ≤ h ∧ h ≤ 63) :
    Calls Try.prog 18 #[.int .i64 h] w (SX.Ret fun v w' => ∃ u, v = .tuple #[u, .int .i64 0] ∧ IsPart 26 [h] u w w') := by
  have hs := SX.St.start w
  refine Z.enter Try.func18 rfl Try.ntmps18 rfl rfl ?_
  refine Z.seq ?_
  refine Z.region ?_
  refine Z.le rfl trivial ?_
  refine Z.ZO.box rfl rfl (by rfl) rfl rfl hs ?_
  clear hs; intro g1 w1 hs
  refine Z.le rfl trivial ?_
  refine Z.ZO.alloc rfl rfl (by rfl) Try.zeroValue31 rfl hs ?_
  clear hs; intro g2 w2 hs
  refine Z.lb 1 rfl ?_
  refine Z.lnil ?_
  refine Z.only [1, 2] rfl ?_
  refine Z.nthen ?_
  refine Z.seq ?_
  refine Z.region ?_
  refine Z.lb 1 rfl ?_
  have hof : ∀ W L, SX.St w2 [] W L → Calls Try.prog 39 #[.pointer (some ⟨g1, 0, none⟩)] W (SX.Ret fun v w' => IsPart 26 [h] v W w') := fun W L hW => by
    obtain ⟨a1, a2⟩ := blkLater hs (j := 1) rfl hW
    exact encpow1_ok g1 h W a1 (a2 0 _ rfl) hh
  refine Z.le rfl trivial ?_
  refine Z.ZO.call rfl rfl (by rfl) rfl rfl Try.call32 rfl (element_ok _ _ 26 _ _ Try.call39 hof) ?_
  rintro v1_1 w1_1 ⟨u, rfl, B, co, rfl, hy⟩
  replace hs := hs.call hy
  clear hy
  try simp only [List.cons_append, List.nil_append, List.append_nil] at hs
  refine Z.lb 2 rfl ?_
  refine Z.le rfl trivial ?_
  refine Z.ZO.storeA rfl rfl hs rfl rfl (by kernel_rfl) (by simp [Value.oneCell']) (by first | exact SX.at0 | exact SX.at1 | exact SX.at2 | exact SX.at3 | exact SX.at4 | exact SX.at5 | exact Z.at6 | exact Z.at7 | exact Z.at8 | exact Z.at9 | exact Z.at10 | exact Z.at11 | exact Z.at12) (by rfl) ?_
  clear hs; intro ws hs
  simp only [Nat.zero_add, Nat.add_zero, Nat.reduceAdd, Int.reduceToNat, Nat.reduceMul, List.set_cons_zero, List.set_cons_succ, List.setIfInBounds_toArray] at hs
  refine Z.lb 1 rfl ?_
  refine Z.lnil ?_
  refine Z.only [2, 3] rfl ?_
  refine Z.nthen ?_
  refine Z.ret ?_
  -- ret#0
  refine Z.out2 (by exact ⟨⟨_, rfl, Z.rvcA hs Try.isAgg31 (by first | ((repeat (first | exact List.mem_cons_self | refine List.mem_cons_of_mem _ ?_ | refine List.mem_append_right _ ?_)); done) | fail) (by exact Try.sizeOf31)⟩, rfl, trivial⟩) ?_
  exact ⟨_, rfl, _, rfl, B, co, rfl, hs.sel [0] (by decide)⟩
theorem encpow_bad (h : Int) (w : World) (hh : ¬ (0 ≤ h ∧ h ≤ 63)) :
    Calls Try.prog 18 #[.int .i64 h] w (SX.Ret fun v w' => v = .tuple #[.agg #[.int .i64 0, .slice none 0 0], .int .i64 2] ∧ SX.St w [] w' []) := by
  have hs := SX.St.start w
  refine Z.enter Try.func18 rfl Try.ntmps18 rfl rfl ?_
  refine Z.seq ?_
  refine Z.region ?_
  refine Z.le rfl trivial ?_
  refine Z.ZO.box rfl rfl (by rfl) rfl rfl hs ?_
  clear hs; intro g1 w1 hs
  refine Z.le rfl trivial ?_
  refine Z.ZO.alloc rfl rfl (by rfl) Try.zeroValue31 rfl hs ?_
  clear hs; intro g2 w2 hs
  refine Z.lb 1 rfl ?_
  refine Z.lnil ?_
  refine Z.only [1, 2] rfl ?_
  refine Z.nthen ?_
  refine Z.seq ?_
  refine Z.region ?_
  refine Z.lb 1 rfl ?_
  have hof : ∀ W L, SX.St w2 [] W L → Calls Try.prog 39 #[.pointer (some ⟨g1, 0, none⟩)] W (PanE 2 fun w' => SX.St W [] w' []) := fun W L hW => by
    obtain ⟨a1, a2⟩ := blkLater hs (j := 1) rfl hW
    exact encpow1_bad g1 h W a1 (a2 0 _ rfl) hh
  refine Z.le rfl trivial ?_
  refine Z.ZO.call rfl rfl (by rfl) rfl rfl Try.call32 rfl (element_bad _ _ 2 _ Try.call39 hof) ?_
  rintro v1_1 w1_1 ⟨rfl, hy⟩
  replace hs := hs.call hy
  clear hy
  try simp only [List.cons_append, List.nil_append, List.append_nil] at hs
  refine Z.lb 2 rfl ?_
  refine Z.le rfl trivial ?_
  refine Z.ZO.storeA rfl rfl hs rfl rfl (by kernel_rfl) (by simp [Value.oneCell']) (by first | exact SX.at0 | exact SX.at1 | exact SX.at2 | exact SX.at3 | exact SX.at4 | exact SX.at5 | exact Z.at6 | exact Z.at7 | exact Z.at8 | exact Z.at9 | exact Z.at10 | exact Z.at11 | exact Z.at12) (by rfl) ?_
  clear hs; intro ws hs
  simp only [Nat.zero_add, Nat.add_zero, Nat.reduceAdd, Int.reduceToNat, Nat.reduceMul, List.set_cons_zero, List.set_cons_succ, List.setIfInBounds_toArray] at hs
  refine Z.lb 1 rfl ?_
  refine Z.lnil ?_
  refine Z.only [2, 3] rfl ?_
  refine Z.nthen ?_
  refine Z.ret ?_
  -- ret#0
  refine Z.out2 (by exact ⟨⟨_, rfl, Z.rvcA hs Try.isAgg31 (by first | ((repeat (first | exact List.mem_cons_self | refine List.mem_cons_of_mem _ ?_ | refine List.mem_append_right _ ?_)); done) | fail) (by exact Try.sizeOf31)⟩, rfl, trivial⟩) ?_
  exact ⟨_, rfl, rfl, hs.sub (List.nil_sublist _)⟩
end Go.Proofs.Yteabcdmgklhijaa
