/- Part 3 of the proofs that lead to the statement. -/
import Derived.Test.YteabcdmgklhijaaY2
import Derived.Test.YteabcdmgklhijaaRows
/- Control elements: reports encoded. -/
namespace Go.Proofs.Yteabcdmgklhijaa
open Go.RowKit
set_option linter.unusedSimpArgs false
set_option linter.unusedVariables false
--newlaws

def RepV.lv (r : RepV) : Nat → Int
  | 0 => r.a
  | 1 => r.b
  | 2 => r.c
  | _ => r.d
def okL (x : Int) : Prop := 0 ≤ x ∧ x ≤ 63
instance (x : Int) : Decidable (okL x) := inferInstanceAs (Decidable (_ ∧ _))
/-- a report that can be encoded -/
def RepV.ok (r : RepV) : Prop := (0 ≤ r.group ∧ r.group ≤ 3) ∧ (if r.long = true then r.group = 0 ∧ okL r.a ∧ okL r.b ∧ okL r.c ∧ okL r.d else (∀ k : Nat, k < 4 → r.lv k = 0 ∨ (k : Int) = r.group) ∧ okL (r.lv r.group.toNat))
/-- what is at an address, cell by cell -/
def Cel (w : World) (g : Nat) (cs : List Value) : Prop := g < w.heap.size ∧ ∀ i u, cs[i]? = some u → w.cell? ⟨g, i, none⟩ = some u
abbrev RepV.lvs (r : RepV) : List Value := [.int .i64 r.a, .int .i64 r.b, .int .i64 r.c, .int .i64 r.d]
theorem Cel.lvs {w : World} {g : Nat} {r : RepV} (h : Cel w g r.cells) : ∀ (j : Nat) (u : Value), r.lvs[j]? = some u → w.cell? ⟨g, 0 + 2 + j, none⟩ = some u := fun j u hu => by
  refine h.2 _ u ?_
  show (_ :: _ :: r.lvs)[0 + 2 + j]? = some u
  rw [show 0 + 2 + j = j + 1 + 1 from by omega]
  exact hu
theorem lvs_get (r : RepV) (k : Nat) (hk : k < 4) : r.lvs.toArray[k]? = some (.int .i64 (r.lv k)) := by
  have : k = 0 ∨ k = 1 ∨ k = 2 ∨ k = 3 := by omega
  rcases this with rfl | rfl | rfl | rfl <;> rfl
theorem lvs_nth (r : RepV) (k : Nat) (hk : k < 4) : Z.nth r.lvs k = some (.int .i64 (r.lv k)) := by
  have : k = 0 ∨ k = 1 ∨ k = 2 ∨ k = 3 := by omega
  rcases this with rfl | rfl | rfl | rfl <;> rfl
theorem long_bytes (r : RepV) (ha : okL r.a) (hb : okL r.b) (hc : okL r.c) (hd : okL r.d) : pk ([(r.a, (6 : Int)), (r.b, 6), (r.c, 6), (r.d, 6)].flatMap fldF) = be 3 (((r.a * 64 + r.b) * 64 + r.c) * 64 + r.d) := by
  unfold okL at *
  obtain ⟨a, hA⟩ := Int.eq_ofNat_of_zero_le ha.1
  obtain ⟨b, hB⟩ := Int.eq_ofNat_of_zero_le hb.1
  obtain ⟨c, hC⟩ := Int.eq_ofNat_of_zero_le hc.1
  obtain ⟨d, hD⟩ := Int.eq_ofNat_of_zero_le hd.1
  rw [pk_be (n := 3) (by simp [fldF, fld_length]), hA, hB, hC, hD]
  congr 1
  simp only [flat_val]
  simp [fldF, fld_length, val]
  omega
theorem short_bytes (g v : Int) (hg : 0 ≤ g ∧ g ≤ 3) (hv : okL v) : pk ([(g, (2 : Int)), (v, 6)].flatMap fldF) = [64 * g + v] := by
  unfold okL at *
  obtain ⟨a, rfl⟩ := Int.eq_ofNat_of_zero_le hg.1
  obtain ⟨b, rfl⟩ := Int.eq_ofNat_of_zero_le hv.1
  rw [pk_be (n := 1) (by simp [fldF, fld_length])]
  simp only [flat_val, be, List.nil_append]
  simp [fldF, fld_length, val]
  omega
theorem okF {v wd : Int} (hv : 0 ≤ v) (hw : 0 ≤ wd ∧ wd ≤ 8) (h : v < 2 ^ wd.toNat) : GoodF (v, wd) ∧ chkF (v, wd) = 0 := by
  obtain ⟨n, rfl⟩ := Int.eq_ofNat_of_zero_le hv
  have h1 : n < 2 ^ wd.toNat := by
    have : ((2 : Int) ^ wd.toNat) = ((2 ^ wd.toNat : Nat) : Int) := by rw [Int.natCast_pow]; rfl
    omega
  have h2 : 2 ^ wd.toNat ≤ 2 ^ 8 := Nat.pow_le_pow_right (by decide) (by omega)
  have h3 : (2 : Nat) ^ 8 = 256 := by decide
  refine ⟨by unfold GoodF; simp only; omega, ?_⟩
  unfold chkF quoF
  rw [if_neg (by simp only; omega), if_pos (by simpa using Nat.div_eq_of_lt h1)]

def encL (r : RepV) : List Int := if r.long = true then be 3 (((r.a * 64 + r.b) * 64 + r.c) * 64 + r.d) else [64 * r.group + r.lv r.group.toNat]
def encLc (r : RepV) : Int := if r.long = true then 30 else 29
set_option maxRecDepth 100000 in
theorem encrep1_long (g : Nat) (r : RepV) (w : World) (hc : Cel w g r.cells) (hr : r.ok) (hl : r.long = true) :
    Calls Try.prog 33 #[.pointer (some ⟨g, 0, none⟩)] w (SX.Ret fun v w' => IsPart 30 (be 3 (((r.a * 64 + r.b) * 64 + r.c) * 64 + r.d)) v w w') := by
  have hs := SX.St.start w
  obtain ⟨hg, hr⟩ := hr
  rw [if_pos hl] at hr
  obtain ⟨h0, ha, hb, hcc, hd⟩ := hr
  have fa := okF (v := r.a) (wd := 6) ha.1 (by omega) (by have := ha.2; simp; omega)
  have fb := okF (v := r.b) (wd := 6) hb.1 (by omega) (by have := hb.2; simp; omega)
  have fc := okF (v := r.c) (wd := 6) hcc.1 (by omega) (by have := hcc.2; simp; omega)
  have fd := okF (v := r.d) (wd := 6) hd.1 (by omega) (by have := hd.2; simp; omega)
  refine Z.enter Try.func33 rfl Try.ntmps33 rfl rfl ?_
  refine Z.seq ?_
  refine Z.region ?_
  refine Z.le rfl trivial ?_
  refine Z.ZO.alloc rfl rfl (by rfl) Try.zeroValue31 rfl hs ?_
  clear hs; intro g1 w1 hs
  refine Z.lnil ?_
  refine Z.only [0, 1] rfl ?_
  refine Z.nthen ?_
  refine Z.seq ?_
  refine Z.cutt (ι := Nat × Nat) [0, 1] rfl (fun x => [(2, [], .pointer (some ⟨x.1, 0, none⟩)), (3, [], .pointer (some ⟨x.2, 0, none⟩))]) (fun x wr => SX.St w [] wr [SX.Ent.blk x.2 26 r.lvs.toArray, SX.Ent.blk x.1 68 #[.int .u64 r.group, .int .i64 2], SX.Ent.blk g1 31 #[.int .i64 0, .slice none 0 0]]) ?_ ?_
  · skip
    refine Z.drawK (fun _ => true) mixed hs ?_
    clear hs; intro wd1 hs
    refine Z.t 0 rfl rfl rfl (by rfl) (by kernel_rfl) ⟨_, hs, by first | (simp; done) | exact fun e he => List.mem_append_right _ he⟩ (Z.Yd.fieldA (m := 1) rfl (by kernel_rfl)) ?_
    refine Z.t 1 rfl rfl rfl (by rfl) (by kernel_rfl) ⟨_, hs, by first | (simp; done) | exact fun e he => List.mem_append_right _ he⟩ (Z.Yd.load rfl Try.isAgg3 (fun _ => Z.cellO hc.1 (by simp) (hc.2 1 _ rfl))) ?_
    refine Z.t 3 rfl rfl rfl (by rfl) (by kernel_rfl) ⟨_, hs, by first | (simp; done) | exact fun e he => List.mem_append_right _ he⟩ (Z.Yd.fieldA (m := 2) rfl (by kernel_rfl)) ?_
    refine Z.t 4 rfl rfl rfl (by rfl) (by kernel_rfl) ⟨_, hs, by first | (simp; done) | exact fun e he => List.mem_append_right _ he⟩ (Z.Yd.loadA _ rfl Try.isAgg26 (fun _ w' hk j u hu => Z.cellO hc.1 (by simp) (Cel.lvs hc j u hu) w' hk) (by exact Try.sizeOf26)) ?_
    refine Z.forkD [2, 5, 6] rfl (by kernel_rfl) rfl ⟨⟨_, _, rfl, rfl, trivial, ?_⟩, ⟨_, _, rfl, rfl, trivial, ?_⟩, ⟨_, _, rfl, rfl, trivial, ?_⟩, trivial⟩
    · skip
      refine Z.ZO.call rfl rfl (by rfl) rfl rfl Try.call34 rfl (group_ok r.group _ hg) ?_
      rintro v1_2 w1_2 ⟨rfl, hy⟩
      replace hs := hs.call hy
      clear hy
      try simp only [List.cons_append, List.nil_append, List.append_nil] at hs
      refine Z.tk (Dn := fun _ => true) (i := 2) (fun _ => ⟨_, hs, by first | (simp; done) | exact fun e he => List.mem_append_right _ he⟩) ?_
      refine Z.fork2 5 6 rfl rfl rfl (by kernel_rfl) rfl rfl trivial trivial ?_ ?_
      · skip
        refine Z.ZO.alloc rfl rfl (by rfl) Try.zeroValue68 rfl hs ?_
        clear hs; intro g2 w2 hs
        refine Z.tk (Dn := fun _ => true) (i := 5) (fun _ => ⟨_, hs, by first | (simp; done) | exact fun e he => List.mem_append_right _ he⟩) ?_
        refine Z.tn 6 rfl rfl (by kernel_rfl) rfl trivial ?_
        refine Z.ZO.alloc rfl rfl (by rfl) Try.zeroValue26 rfl hs ?_
        clear hs; intro g3 w3 hs
        refine Z.tk (Dn := fun _ => true) (i := 6) (fun _ => ⟨_, hs, by first | (simp; done) | exact fun e he => List.mem_append_right _ he⟩) ?_
        refine Z.tn 7 rfl rfl (by kernel_rfl) rfl trivial ?_
        refine Z.ZO.storeA rfl rfl hs rfl rfl (by kernel_rfl) (by simp [Value.oneCell']) (by first | exact SX.at0 | exact SX.at1 | exact SX.at2 | exact SX.at3 | exact SX.at4 | exact SX.at5 | exact Z.at6 | exact Z.at7 | exact Z.at8 | exact Z.at9 | exact Z.at10 | exact Z.at11 | exact Z.at12) (by rfl) ?_
        clear hs; intro ws hs
        simp only [Nat.zero_add, Nat.add_zero, Nat.reduceAdd, Int.reduceToNat, Nat.reduceMul, List.set_cons_zero, List.set_cons_succ, List.setIfInBounds_toArray] at hs
        refine Z.tk (Dn := fun _ => true) (i := 7) (fun _ => ⟨_, hs, by first | (simp; done) | exact fun e he => List.mem_append_right _ he⟩) ?_
        refine Z.tn 8 rfl rfl (by kernel_rfl) rfl trivial ?_
        refine Z.ZO.storeA rfl rfl hs rfl rfl (by kernel_rfl) (by simp [Value.oneCell']) (by first | exact SX.at0 | exact SX.at1 | exact SX.at2 | exact SX.at3 | exact SX.at4 | exact SX.at5 | exact Z.at6 | exact Z.at7 | exact Z.at8 | exact Z.at9 | exact Z.at10 | exact Z.at11 | exact Z.at12) (by rfl) ?_
        clear hs; intro ws hs
        simp only [Nat.zero_add, Nat.add_zero, Nat.reduceAdd, Int.reduceToNat, Nat.reduceMul, List.set_cons_zero, List.set_cons_succ, List.setIfInBounds_toArray] at hs
        refine Z.tk (Dn := fun _ => true) (i := 8) (fun _ => ⟨_, hs, by first | (simp; done) | exact fun e he => List.mem_append_right _ he⟩) ?_
        refine Z.td (by rfl) (by kernel_rfl) ?_
        refine Z.only [0, 1, 2, 3] rfl ?_
        refine Z.nthen ?_
        exact Z.meet (g2, g3) (by refine ⟨?_, ?_, ?_, ?_, trivial⟩ <;> (first | rfl | (refine Z.lookv rfl ?_; simp; done) | (refine Z.lookv rfl ?_; simp; omega))) (by first | exact hs | exact hs.sel [1, 0, 2] (by decide))
      · skip
        refine Z.ZO.alloc rfl rfl (by rfl) Try.zeroValue26 rfl hs ?_
        clear hs; intro g3 w3 hs
        refine Z.tk (Dn := fun _ => true) (i := 6) (fun _ => ⟨_, hs, by first | (simp; done) | exact fun e he => List.mem_append_right _ he⟩) ?_
        refine Z.tn 5 rfl rfl (by kernel_rfl) rfl trivial ?_
        refine Z.ZO.alloc rfl rfl (by rfl) Try.zeroValue68 rfl hs ?_
        clear hs; intro g2 w2 hs
        refine Z.tk (Dn := fun _ => true) (i := 5) (fun _ => ⟨_, hs, by first | (simp; done) | exact fun e he => List.mem_append_right _ he⟩) ?_
        refine Z.tn 7 rfl rfl (by kernel_rfl) rfl trivial ?_
        refine Z.ZO.storeA rfl rfl hs rfl rfl (by kernel_rfl) (by simp [Value.oneCell']) (by first | exact SX.at0 | exact SX.at1 | exact SX.at2 | exact SX.at3 | exact SX.at4 | exact SX.at5 | exact Z.at6 | exact Z.at7 | exact Z.at8 | exact Z.at9 | exact Z.at10 | exact Z.at11 | exact Z.at12) (by rfl) ?_
        clear hs; intro ws hs
        simp only [Nat.zero_add, Nat.add_zero, Nat.reduceAdd, Int.reduceToNat, Nat.reduceMul, List.set_cons_zero, List.set_cons_succ, List.setIfInBounds_toArray] at hs
        refine Z.tk (Dn := fun _ => true) (i := 7) (fun _ => ⟨_, hs, by first | (simp; done) | exact fun e he => List.mem_append_right _ he⟩) ?_
        refine Z.tn 8 rfl rfl (by kernel_rfl) rfl trivial ?_
        refine Z.ZO.storeA rfl rfl hs rfl rfl (by kernel_rfl) (by simp [Value.oneCell']) (by first | exact SX.at0 | exact SX.at1 | exact SX.at2 | exact SX.at3 | exact SX.at4 | exact SX.at5 | exact Z.at6 | exact Z.at7 | exact Z.at8 | exact Z.at9 | exact Z.at10 | exact Z.at11 | exact Z.at12) (by rfl) ?_
        clear hs; intro ws hs
        simp only [Nat.zero_add, Nat.add_zero, Nat.reduceAdd, Int.reduceToNat, Nat.reduceMul, List.set_cons_zero, List.set_cons_succ, List.setIfInBounds_toArray] at hs
        refine Z.tk (Dn := fun _ => true) (i := 8) (fun _ => ⟨_, hs, by first | (simp; done) | exact fun e he => List.mem_append_right _ he⟩) ?_
        refine Z.td (by rfl) (by kernel_rfl) ?_
        refine Z.only [0, 1, 2, 3] rfl ?_
        refine Z.nthen ?_
        exact Z.meet (g2, g3) (by refine ⟨?_, ?_, ?_, ?_, trivial⟩ <;> (first | rfl | (refine Z.lookv rfl ?_; simp; done) | (refine Z.lookv rfl ?_; simp; omega))) (by first | exact hs | exact hs.sel [1, 0, 2] (by decide))
    · skip
      refine Z.ZO.alloc rfl rfl (by rfl) Try.zeroValue68 rfl hs ?_
      clear hs; intro g2 w2 hs
      refine Z.tk (Dn := fun _ => true) (i := 5) (fun _ => ⟨_, hs, by first | (simp; done) | exact fun e he => List.mem_append_right _ he⟩) ?_
      refine Z.fork2 2 6 rfl rfl rfl (by kernel_rfl) rfl rfl trivial trivial ?_ ?_
      · skip
        refine Z.ZO.call rfl rfl (by rfl) rfl rfl Try.call34 rfl (group_ok r.group _ hg) ?_
        rintro v1_2 w1_2 ⟨rfl, hy⟩
        replace hs := hs.call hy
        clear hy
        try simp only [List.cons_append, List.nil_append, List.append_nil] at hs
        refine Z.tk (Dn := fun _ => true) (i := 2) (fun _ => ⟨_, hs, by first | (simp; done) | exact fun e he => List.mem_append_right _ he⟩) ?_
        refine Z.tn 6 rfl rfl (by kernel_rfl) rfl trivial ?_
        refine Z.ZO.alloc rfl rfl (by rfl) Try.zeroValue26 rfl hs ?_
        clear hs; intro g3 w3 hs
        refine Z.tk (Dn := fun _ => true) (i := 6) (fun _ => ⟨_, hs, by first | (simp; done) | exact fun e he => List.mem_append_right _ he⟩) ?_
        refine Z.tn 7 rfl rfl (by kernel_rfl) rfl trivial ?_
        refine Z.ZO.storeA rfl rfl hs rfl rfl (by kernel_rfl) (by simp [Value.oneCell']) (by first | exact SX.at0 | exact SX.at1 | exact SX.at2 | exact SX.at3 | exact SX.at4 | exact SX.at5 | exact Z.at6 | exact Z.at7 | exact Z.at8 | exact Z.at9 | exact Z.at10 | exact Z.at11 | exact Z.at12) (by rfl) ?_
        clear hs; intro ws hs
        simp only [Nat.zero_add, Nat.add_zero, Nat.reduceAdd, Int.reduceToNat, Nat.reduceMul, List.set_cons_zero, List.set_cons_succ, List.setIfInBounds_toArray] at hs
        refine Z.tk (Dn := fun _ => true) (i := 7) (fun _ => ⟨_, hs, by first | (simp; done) | exact fun e he => List.mem_append_right _ he⟩) ?_
        refine Z.tn 8 rfl rfl (by kernel_rfl) rfl trivial ?_
        refine Z.ZO.storeA rfl rfl hs rfl rfl (by kernel_rfl) (by simp [Value.oneCell']) (by first | exact SX.at0 | exact SX.at1 | exact SX.at2 | exact SX.at3 | exact SX.at4 | exact SX.at5 | exact Z.at6 | exact Z.at7 | exact Z.at8 | exact Z.at9 | exact Z.at10 | exact Z.at11 | exact Z.at12) (by rfl) ?_
        clear hs; intro ws hs
        simp only [Nat.zero_add, Nat.add_zero, Nat.reduceAdd, Int.reduceToNat, Nat.reduceMul, List.set_cons_zero, List.set_cons_succ, List.setIfInBounds_toArray] at hs
        refine Z.tk (Dn := fun _ => true) (i := 8) (fun _ => ⟨_, hs, by first | (simp; done) | exact fun e he => List.mem_append_right _ he⟩) ?_
        refine Z.td (by rfl) (by kernel_rfl) ?_
        refine Z.only [0, 1, 2, 3] rfl ?_
        refine Z.nthen ?_
        exact Z.meet (g2, g3) (by refine ⟨?_, ?_, ?_, ?_, trivial⟩ <;> (first | rfl | (refine Z.lookv rfl ?_; simp; done) | (refine Z.lookv rfl ?_; simp; omega))) (by first | exact hs | exact hs.sel [1, 0, 2] (by decide))
      · skip
        refine Z.ZO.alloc rfl rfl (by rfl) Try.zeroValue26 rfl hs ?_
        clear hs; intro g3 w3 hs
        refine Z.tk (Dn := fun _ => true) (i := 6) (fun _ => ⟨_, hs, by first | (simp; done) | exact fun e he => List.mem_append_right _ he⟩) ?_
        refine Z.tn 2 rfl rfl (by kernel_rfl) rfl trivial ?_
        refine Z.ZO.call rfl rfl (by rfl) rfl rfl Try.call34 rfl (group_ok r.group _ hg) ?_
        rintro v1_2 w1_2 ⟨rfl, hy⟩
        replace hs := hs.call hy
        clear hy
        try simp only [List.cons_append, List.nil_append, List.append_nil] at hs
        refine Z.tk (Dn := fun _ => true) (i := 2) (fun _ => ⟨_, hs, by first | (simp; done) | exact fun e he => List.mem_append_right _ he⟩) ?_
        refine Z.tn 7 rfl rfl (by kernel_rfl) rfl trivial ?_
        refine Z.ZO.storeA rfl rfl hs rfl rfl (by kernel_rfl) (by simp [Value.oneCell']) (by first | exact SX.at0 | exact SX.at1 | exact SX.at2 | exact SX.at3 | exact SX.at4 | exact SX.at5 | exact Z.at6 | exact Z.at7 | exact Z.at8 | exact Z.at9 | exact Z.at10 | exact Z.at11 | exact Z.at12) (by rfl) ?_
        clear hs; intro ws hs
        simp only [Nat.zero_add, Nat.add_zero, Nat.reduceAdd, Int.reduceToNat, Nat.reduceMul, List.set_cons_zero, List.set_cons_succ, List.setIfInBounds_toArray] at hs
        refine Z.tk (Dn := fun _ => true) (i := 7) (fun _ => ⟨_, hs, by first | (simp; done) | exact fun e he => List.mem_append_right _ he⟩) ?_
        refine Z.tn 8 rfl rfl (by kernel_rfl) rfl trivial ?_
        refine Z.ZO.storeA rfl rfl hs rfl rfl (by kernel_rfl) (by simp [Value.oneCell']) (by first | exact SX.at0 | exact SX.at1 | exact SX.at2 | exact SX.at3 | exact SX.at4 | exact SX.at5 | exact Z.at6 | exact Z.at7 | exact Z.at8 | exact Z.at9 | exact Z.at10 | exact Z.at11 | exact Z.at12) (by rfl) ?_
        clear hs; intro ws hs
        simp only [Nat.zero_add, Nat.add_zero, Nat.reduceAdd, Int.reduceToNat, Nat.reduceMul, List.set_cons_zero, List.set_cons_succ, List.setIfInBounds_toArray] at hs
        refine Z.tk (Dn := fun _ => true) (i := 8) (fun _ => ⟨_, hs, by first | (simp; done) | exact fun e he => List.mem_append_right _ he⟩) ?_
        refine Z.td (by rfl) (by kernel_rfl) ?_
        refine Z.only [0, 1, 2, 3] rfl ?_
        refine Z.nthen ?_
        exact Z.meet (g2, g3) (by refine ⟨?_, ?_, ?_, ?_, trivial⟩ <;> (first | rfl | (refine Z.lookv rfl ?_; simp; done) | (refine Z.lookv rfl ?_; simp; omega))) (by first | exact hs | exact hs.sel [1, 0, 2] (by decide))
    · skip
      refine Z.ZO.alloc rfl rfl (by rfl) Try.zeroValue26 rfl hs ?_
      clear hs; intro g3 w3 hs
      refine Z.tk (Dn := fun _ => true) (i := 6) (fun _ => ⟨_, hs, by first | (simp; done) | exact fun e he => List.mem_append_right _ he⟩) ?_
      refine Z.fork2 2 5 rfl rfl rfl (by kernel_rfl) rfl rfl trivial trivial ?_ ?_
      · skip
        refine Z.ZO.call rfl rfl (by rfl) rfl rfl Try.call34 rfl (group_ok r.group _ hg) ?_
        rintro v1_2 w1_2 ⟨rfl, hy⟩
        replace hs := hs.call hy
        clear hy
        try simp only [List.cons_append, List.nil_append, List.append_nil] at hs
        refine Z.tk (Dn := fun _ => true) (i := 2) (fun _ => ⟨_, hs, by first | (simp; done) | exact fun e he => List.mem_append_right _ he⟩) ?_
        refine Z.tn 5 rfl rfl (by kernel_rfl) rfl trivial ?_
        refine Z.ZO.alloc rfl rfl (by rfl) Try.zeroValue68 rfl hs ?_
        clear hs; intro g2 w2 hs
        refine Z.tk (Dn := fun _ => true) (i := 5) (fun _ => ⟨_, hs, by first | (simp; done) | exact fun e he => List.mem_append_right _ he⟩) ?_
        refine Z.tn 7 rfl rfl (by kernel_rfl) rfl trivial ?_
        refine Z.ZO.storeA rfl rfl hs rfl rfl (by kernel_rfl) (by simp [Value.oneCell']) (by first | exact SX.at0 | exact SX.at1 | exact SX.at2 | exact SX.at3 | exact SX.at4 | exact SX.at5 | exact Z.at6 | exact Z.at7 | exact Z.at8 | exact Z.at9 | exact Z.at10 | exact Z.at11 | exact Z.at12) (by rfl) ?_
        clear hs; intro ws hs
        simp only [Nat.zero_add, Nat.add_zero, Nat.reduceAdd, Int.reduceToNat, Nat.reduceMul, List.set_cons_zero, List.set_cons_succ, List.setIfInBounds_toArray] at hs
        refine Z.tk (Dn := fun _ => true) (i := 7) (fun _ => ⟨_, hs, by first | (simp; done) | exact fun e he => List.mem_append_right _ he⟩) ?_
        refine Z.tn 8 rfl rfl (by kernel_rfl) rfl trivial ?_
        refine Z.ZO.storeA rfl rfl hs rfl rfl (by kernel_rfl) (by simp [Value.oneCell']) (by first | exact SX.at0 | exact SX.at1 | exact SX.at2 | exact SX.at3 | exact SX.at4 | exact SX.at5 | exact Z.at6 | exact Z.at7 | exact Z.at8 | exact Z.at9 | exact Z.at10 | exact Z.at11 | exact Z.at12) (by rfl) ?_
        clear hs; intro ws hs
        simp only [Nat.zero_add, Nat.add_zero, Nat.reduceAdd, Int.reduceToNat, Nat.reduceMul, List.set_cons_zero, List.set_cons_succ, List.setIfInBounds_toArray] at hs
        refine Z.tk (Dn := fun _ => true) (i := 8) (fun _ => ⟨_, hs, by first | (simp; done) | exact fun e he => List.mem_append_right _ he⟩) ?_
        refine Z.td (by rfl) (by kernel_rfl) ?_
        refine Z.only [0, 1, 2, 3] rfl ?_
        refine Z.nthen ?_
        exact Z.meet (g2, g3) (by refine ⟨?_, ?_, ?_, ?_, trivial⟩ <;> (first | rfl | (refine Z.lookv rfl ?_; simp; done) | (refine Z.lookv rfl ?_; simp; omega))) (by first | exact hs | exact hs.sel [1, 0, 2] (by decide))
      · skip
        refine Z.ZO.alloc rfl rfl (by rfl) Try.zeroValue68 rfl hs ?_
        clear hs; intro g2 w2 hs
        refine Z.tk (Dn := fun _ => true) (i := 5) (fun _ => ⟨_, hs, by first | (simp; done) | exact fun e he => List.mem_append_right _ he⟩) ?_
        refine Z.tn 2 rfl rfl (by kernel_rfl) rfl trivial ?_
        refine Z.ZO.call rfl rfl (by rfl) rfl rfl Try.call34 rfl (group_ok r.group _ hg) ?_
        rintro v1_2 w1_2 ⟨rfl, hy⟩
        replace hs := hs.call hy
        clear hy
        try simp only [List.cons_append, List.nil_append, List.append_nil] at hs
        refine Z.tk (Dn := fun _ => true) (i := 2) (fun _ => ⟨_, hs, by first | (simp; done) | exact fun e he => List.mem_append_right _ he⟩) ?_
        refine Z.tn 7 rfl rfl (by kernel_rfl) rfl trivial ?_
        refine Z.ZO.storeA rfl rfl hs rfl rfl (by kernel_rfl) (by simp [Value.oneCell']) (by first | exact SX.at0 | exact SX.at1 | exact SX.at2 | exact SX.at3 | exact SX.at4 | exact SX.at5 | exact Z.at6 | exact Z.at7 | exact Z.at8 | exact Z.at9 | exact Z.at10 | exact Z.at11 | exact Z.at12) (by rfl) ?_
        clear hs; intro ws hs
        simp only [Nat.zero_add, Nat.add_zero, Nat.reduceAdd, Int.reduceToNat, Nat.reduceMul, List.set_cons_zero, List.set_cons_succ, List.setIfInBounds_toArray] at hs
        refine Z.tk (Dn := fun _ => true) (i := 7) (fun _ => ⟨_, hs, by first | (simp; done) | exact fun e he => List.mem_append_right _ he⟩) ?_
        refine Z.tn 8 rfl rfl (by kernel_rfl) rfl trivial ?_
        refine Z.ZO.storeA rfl rfl hs rfl rfl (by kernel_rfl) (by simp [Value.oneCell']) (by first | exact SX.at0 | exact SX.at1 | exact SX.at2 | exact SX.at3 | exact SX.at4 | exact SX.at5 | exact Z.at6 | exact Z.at7 | exact Z.at8 | exact Z.at9 | exact Z.at10 | exact Z.at11 | exact Z.at12) (by rfl) ?_
        clear hs; intro ws hs
        simp only [Nat.zero_add, Nat.add_zero, Nat.reduceAdd, Int.reduceToNat, Nat.reduceMul, List.set_cons_zero, List.set_cons_succ, List.setIfInBounds_toArray] at hs
        refine Z.tk (Dn := fun _ => true) (i := 8) (fun _ => ⟨_, hs, by first | (simp; done) | exact fun e he => List.mem_append_right _ he⟩) ?_
        refine Z.td (by rfl) (by kernel_rfl) ?_
        refine Z.only [0, 1, 2, 3] rfl ?_
        refine Z.nthen ?_
        exact Z.meet (g2, g3) (by refine ⟨?_, ?_, ?_, ?_, trivial⟩ <;> (first | rfl | (refine Z.lookv rfl ?_; simp; done) | (refine Z.lookv rfl ?_; simp; omega))) (by first | exact hs | exact hs.sel [1, 0, 2] (by decide))
  · clear hs
    rintro ⟨g2, g3⟩ w2 hs
    refine Z.only [0, 1, 2, 3] rfl ?_
    (try dsimp only at hs)
    refine Z.seq ?_
    refine Z.seq ?_
    refine Z.region ?_
    refine Z.l rfl rfl (by rfl) (Z.keepS hs) (Z.Yd.fieldA (m := 0) rfl (by kernel_rfl)) ?_
    refine Z.l rfl rfl (by rfl) (Z.keepS hs) (Z.Yd.load rfl Try.isAgg4 (fun _ => Z.cellO hc.1 (by simp) (hc.2 0 _ rfl))) ?_
    refine Z.lnil ?_
    refine Z.only [0, 1, 2, 3, 12] rfl ?_
    refine Z.nthen ?_
    refine Z.cond rfl (fun hc2 => ?_) (fun h => absurd h (by simpa using hl))
    refine Z.seq ?_
    refine Z.region ?_
    refine Z.l rfl rfl (by rfl) (Z.keepS hs) (Z.Yd.fieldA (m := 1) rfl (by kernel_rfl)) ?_
    refine Z.l rfl rfl (by rfl) (Z.keepS hs) (Z.Yd.load rfl Try.isAgg3 (fun _ => Z.cellO hc.1 (by simp) (hc.2 1 _ rfl))) ?_
    refine Z.lb 1 rfl ?_
    refine Z.le rfl trivial ?_
    refine Z.ZO.call rfl rfl (by rfl) rfl rfl Try.call35 rfl (must_ok _ 2 _ (by simpa using h0)) ?_
    rintro v3_3 w3_3 ⟨rfl, hy⟩
    replace hs := hs.call hy
    clear hy
    try simp only [List.cons_append, List.nil_append, List.append_nil] at hs
    refine Z.lnil ?_
    refine Z.only [1, 3] rfl ?_
    refine Z.nthen ?_
    refine Z.seq ?_
    refine Z.drawK (fun j => j != 14) mixed hs ?_
    clear hs; intro wd4 hs
    refine Z.t 0 rfl rfl rfl (by rfl) (by kernel_rfl) ⟨_, hs, by first | (simp; done) | exact fun e he => List.mem_append_right _ he⟩ (Z.Yd.elemA rfl rfl Try.underlying26 Try.sizeOf3 (fun hG => ⟨(by first | omega | (have hG' := Z.gh rfl hG; simp at hG'; omega)), (by first | omega | (have hG' := Z.gh rfl hG; simp at hG'; omega))⟩)) ?_
    refine Z.t 1 rfl rfl rfl (by rfl) (by kernel_rfl) ⟨_, hs, by first | (simp; done) | exact fun e he => List.mem_append_right _ he⟩ (by first | exact Z.Yd.load rfl Try.isAgg3 (fun _ => Z.cellB (by first | ((repeat (first | exact List.mem_cons_self | refine List.mem_cons_of_mem _ ?_ | refine List.mem_append_right _ ?_)); done) | fail) rfl) | exact Z.Yd.load rfl Try.isAgg3 (fun hG => Z.cellR (by first | ((repeat (first | exact List.mem_cons_self | refine List.mem_cons_of_mem _ ?_ | refine List.mem_append_right _ ?_)); done) | fail) (Z.ints_at (by first | omega | (have hG' := Z.gh rfl hG; simp at hG'; omega)) (by first | omega | (have hG' := Z.gh rfl hG; simp at hG'; omega)))) | exact Z.Yd.load rfl Try.isAgg3 (fun hG => Z.cellXi (by assumption) (by first | omega | (have hG' := Z.gh rfl hG; simp at hG'; omega)) (by first | omega | (have hG' := Z.gh rfl hG; simp at hG'; omega))) | exact Z.Yd.load rfl Try.isAgg3 (fun hG => Z.cellS (by assumption) rfl (by first | omega | (have hG' := Z.gh rfl hG; simp at hG'; omega)) (by first | omega | (have hG' := Z.gh rfl hG; simp at hG'; omega))) | fail "load 4.1") ?_
    refine Z.t 3 rfl rfl rfl (by rfl) (by kernel_rfl) ⟨_, hs, by first | (simp; done) | exact fun e he => List.mem_append_right _ he⟩ (Z.Yd.elemA rfl rfl Try.underlying26 Try.sizeOf3 (fun hG => ⟨(by first | omega | (have hG' := Z.gh rfl hG; simp at hG'; omega)), (by first | omega | (have hG' := Z.gh rfl hG; simp at hG'; omega))⟩)) ?_
    refine Z.t 4 rfl rfl rfl (by rfl) (by kernel_rfl) ⟨_, hs, by first | (simp; done) | exact fun e he => List.mem_append_right _ he⟩ (by first | exact Z.Yd.load rfl Try.isAgg3 (fun _ => Z.cellB (by first | ((repeat (first | exact List.mem_cons_self | refine List.mem_cons_of_mem _ ?_ | refine List.mem_append_right _ ?_)); done) | fail) rfl) | exact Z.Yd.load rfl Try.isAgg3 (fun hG => Z.cellR (by first | ((repeat (first | exact List.mem_cons_self | refine List.mem_cons_of_mem _ ?_ | refine List.mem_append_right _ ?_)); done) | fail) (Z.ints_at (by first | omega | (have hG' := Z.gh rfl hG; simp at hG'; omega)) (by first | omega | (have hG' := Z.gh rfl hG; simp at hG'; omega)))) | exact Z.Yd.load rfl Try.isAgg3 (fun hG => Z.cellXi (by assumption) (by first | omega | (have hG' := Z.gh rfl hG; simp at hG'; omega)) (by first | omega | (have hG' := Z.gh rfl hG; simp at hG'; omega))) | exact Z.Yd.load rfl Try.isAgg3 (fun hG => Z.cellS (by assumption) rfl (by first | omega | (have hG' := Z.gh rfl hG; simp at hG'; omega)) (by first | omega | (have hG' := Z.gh rfl hG; simp at hG'; omega))) | fail "load 4.4") ?_
    refine Z.t 6 rfl rfl rfl (by rfl) (by kernel_rfl) ⟨_, hs, by first | (simp; done) | exact fun e he => List.mem_append_right _ he⟩ (Z.Yd.elemA rfl rfl Try.underlying26 Try.sizeOf3 (fun hG => ⟨(by first | omega | (have hG' := Z.gh rfl hG; simp at hG'; omega)), (by first | omega | (have hG' := Z.gh rfl hG; simp at hG'; omega))⟩)) ?_
    refine Z.t 7 rfl rfl rfl (by rfl) (by kernel_rfl) ⟨_, hs, by first | (simp; done) | exact fun e he => List.mem_append_right _ he⟩ (by first | exact Z.Yd.load rfl Try.isAgg3 (fun _ => Z.cellB (by first | ((repeat (first | exact List.mem_cons_self | refine List.mem_cons_of_mem _ ?_ | refine List.mem_append_right _ ?_)); done) | fail) rfl) | exact Z.Yd.load rfl Try.isAgg3 (fun hG => Z.cellR (by first | ((repeat (first | exact List.mem_cons_self | refine List.mem_cons_of_mem _ ?_ | refine List.mem_append_right _ ?_)); done) | fail) (Z.ints_at (by first | omega | (have hG' := Z.gh rfl hG; simp at hG'; omega)) (by first | omega | (have hG' := Z.gh rfl hG; simp at hG'; omega)))) | exact Z.Yd.load rfl Try.isAgg3 (fun hG => Z.cellXi (by assumption) (by first | omega | (have hG' := Z.gh rfl hG; simp at hG'; omega)) (by first | omega | (have hG' := Z.gh rfl hG; simp at hG'; omega))) | exact Z.Yd.load rfl Try.isAgg3 (fun hG => Z.cellS (by assumption) rfl (by first | omega | (have hG' := Z.gh rfl hG; simp at hG'; omega)) (by first | omega | (have hG' := Z.gh rfl hG; simp at hG'; omega))) | fail "load 4.7") ?_
    refine Z.t 9 rfl rfl rfl (by rfl) (by kernel_rfl) ⟨_, hs, by first | (simp; done) | exact fun e he => List.mem_append_right _ he⟩ (Z.Yd.elemA rfl rfl Try.underlying26 Try.sizeOf3 (fun hG => ⟨(by first | omega | (have hG' := Z.gh rfl hG; simp at hG'; omega)), (by first | omega | (have hG' := Z.gh rfl hG; simp at hG'; omega))⟩)) ?_
    refine Z.t 10 rfl rfl rfl (by rfl) (by kernel_rfl) ⟨_, hs, by first | (simp; done) | exact fun e he => List.mem_append_right _ he⟩ (by first | exact Z.Yd.load rfl Try.isAgg3 (fun _ => Z.cellB (by first | ((repeat (first | exact List.mem_cons_self | refine List.mem_cons_of_mem _ ?_ | refine List.mem_append_right _ ?_)); done) | fail) rfl) | exact Z.Yd.load rfl Try.isAgg3 (fun hG => Z.cellR (by first | ((repeat (first | exact List.mem_cons_self | refine List.mem_cons_of_mem _ ?_ | refine List.mem_append_right _ ?_)); done) | fail) (Z.ints_at (by first | omega | (have hG' := Z.gh rfl hG; simp at hG'; omega)) (by first | omega | (have hG' := Z.gh rfl hG; simp at hG'; omega)))) | exact Z.Yd.load rfl Try.isAgg3 (fun hG => Z.cellXi (by assumption) (by first | omega | (have hG' := Z.gh rfl hG; simp at hG'; omega)) (by first | omega | (have hG' := Z.gh rfl hG; simp at hG'; omega))) | exact Z.Yd.load rfl Try.isAgg3 (fun hG => Z.cellS (by assumption) rfl (by first | omega | (have hG' := Z.gh rfl hG; simp at hG'; omega)) (by first | omega | (have hG' := Z.gh rfl hG; simp at hG'; omega))) | fail "load 4.10") ?_
    refine Z.tn 2 rfl rfl (by kernel_rfl) rfl trivial ?_
    refine Z.ZO.call rfl rfl (by rfl) rfl rfl Try.call37 rfl (level_ok _ _ ha) ?_
    rintro v4_2 w4_2 ⟨rfl, hy⟩
    replace hs := hs.call hy
    clear hy
    try simp only [List.cons_append, List.nil_append, List.append_nil] at hs
    refine Z.tk (Dn := fun j => j != 14) (i := 2) (fun _ => ⟨_, hs, by first | (simp; done) | exact fun e he => List.mem_append_right _ he⟩) ?_
    refine Z.tn 5 rfl rfl (by kernel_rfl) rfl trivial ?_
    refine Z.ZO.call rfl rfl (by rfl) rfl rfl Try.call37 rfl (level_ok _ _ hb) ?_
    rintro v4_5 w4_5 ⟨rfl, hy⟩
    replace hs := hs.call hy
    clear hy
    try simp only [List.cons_append, List.nil_append, List.append_nil] at hs
    refine Z.tk (Dn := fun j => j != 14) (i := 5) (fun _ => ⟨_, hs, by first | (simp; done) | exact fun e he => List.mem_append_right _ he⟩) ?_
    refine Z.tn 8 rfl rfl (by kernel_rfl) rfl trivial ?_
    refine Z.ZO.call rfl rfl (by rfl) rfl rfl Try.call37 rfl (level_ok _ _ hcc) ?_
    rintro v4_8 w4_8 ⟨rfl, hy⟩
    replace hs := hs.call hy
    clear hy
    try simp only [List.cons_append, List.nil_append, List.append_nil] at hs
    refine Z.tk (Dn := fun j => j != 14) (i := 8) (fun _ => ⟨_, hs, by first | (simp; done) | exact fun e he => List.mem_append_right _ he⟩) ?_
    refine Z.tn 11 rfl rfl (by kernel_rfl) rfl trivial ?_
    refine Z.ZO.call rfl rfl (by rfl) rfl rfl Try.call37 rfl (level_ok _ _ hd) ?_
    rintro v4_11 w4_11 ⟨rfl, hy⟩
    replace hs := hs.call hy
    clear hy
    try simp only [List.cons_append, List.nil_append, List.append_nil] at hs
    refine Z.tk (Dn := fun j => j != 14) (i := 11) (fun _ => ⟨_, hs, by first | (simp; done) | exact fun e he => List.mem_append_right _ he⟩) ?_
    refine Z.tn 12 rfl rfl (by kernel_rfl) rfl trivial ?_
    refine Z.ZO.litL (T' := 68) [(0, 2), (2, 2), (4, 2), (6, 2)] [.int .u64 0, .int .i64 0, .int .u64 0, .int .i64 0, .int .u64 0, .int .i64 0, .int .u64 0, .int .i64 0] rfl rfl (by rfl) rfl rfl (by intro W; kernel_rfl) hs ?_
    clear hs; intro g29 w29 hs
    refine Z.tk (Dn := fun j => j != 14) (i := 12) (fun _ => ⟨_, hs, by first | (simp; done) | exact fun e he => List.mem_append_right _ he⟩) ?_
    have hsx := Z.blk_lentj (L1 := []) hs (j := 0) rfl
    refine Z.tn 13 rfl rfl (by kernel_rfl) rfl trivial ?_
    refine Z.ZO.call rfl rfl (by rfl) rfl rfl Try.call36 rfl (built_ok 30 _ 4 4 [(r.a, 6), (r.b, 6), (r.c, 6), (r.d, 6)] _ hsx rfl (by omega) (by simp [fa.1, fb.1, fc.1, fd.1]) (by simp [chkA, fa.2, fb.2, fc.2, fd.2])) ?_
    rintro v4_13 w4_13 ⟨B, co, rfl, hy⟩
    replace hs := hs.call hy
    clear hy
    try simp only [List.cons_append, List.nil_append, List.append_nil] at hs
    rw [long_bytes r ha hb hcc hd] at hs ⊢
    refine Z.tk (Dn := fun j => j != 14) (i := 13) (fun _ => ⟨_, hs, by first | (simp; done) | exact fun e he => List.mem_append_right _ he⟩) ?_
    refine Z.tn 14 rfl rfl (by kernel_rfl) rfl trivial ?_
    refine Z.ZO.storeA rfl rfl hs rfl rfl (by kernel_rfl) (by simp [Value.oneCell']) (by first | exact SX.at0 | exact SX.at1 | exact SX.at2 | exact SX.at3 | exact SX.at4 | exact SX.at5 | exact Z.at6 | exact Z.at7 | exact Z.at8 | exact Z.at9 | exact Z.at10 | exact Z.at11 | exact Z.at12) (by rfl) ?_
    clear hs; intro ws hs
    simp only [Nat.zero_add, Nat.add_zero, Nat.reduceAdd, Int.reduceToNat, Nat.reduceMul, List.set_cons_zero, List.set_cons_succ, List.setIfInBounds_toArray] at hs
    refine Z.tk (Dn := fun j => j != 14) (i := 14) (fun h => absurd h (by decide)) ?_
    refine Z.td (by rfl) (by kernel_rfl) ?_
    refine Z.only [1] rfl ?_
    refine Z.nthen ?_
    refine Z.ret ?_
    repeat (first | refine Z.rthen ?_ | refine Z.rblock ?_ | refine Z.rscope ?_)
    -- ret#0
    refine Z.out1 (by exact ⟨⟨_, rfl, Z.rvcA hs Try.isAgg31 (by first | ((repeat (first | exact List.mem_cons_self | refine List.mem_cons_of_mem _ ?_ | refine List.mem_append_right _ ?_)); done) | fail) (by exact Try.sizeOf31)⟩, trivial⟩) ?_
    exact ⟨_, rfl, B, co, rfl, hs.sel [0] (by decide)⟩
set_option maxRecDepth 100000 in
theorem encrep1_short (g : Nat) (r : RepV) (w : World) (hc : Cel w g r.cells) (hr : r.ok) (hl : r.long = false) :
    Calls Try.prog 33 #[.pointer (some ⟨g, 0, none⟩)] w (SX.Ret fun v w' => IsPart 29 [64 * r.group + r.lv r.group.toNat] v w w') := by
  have hs := SX.St.start w
  obtain ⟨hg, hr⟩ := hr
  rw [if_neg (by simp [hl])] at hr
  obtain ⟨hz, hv⟩ := hr
  have fg := okF (v := r.group) (wd := 2) hg.1 (by omega) (by have := hg.2; simp; omega)
  have fv := okF (v := r.lv r.group.toNat) (wd := 6) hv.1 (by omega) (by have := hv.2; simp; omega)
  have hget : Z.nth r.lvs (0 + r.group.toNat * 1) = some (.int .i64 (r.lv r.group.toNat)) := by rw [Nat.zero_add, Nat.mul_one]; exact lvs_nth r _ (by omega)
  refine Z.enter Try.func33 rfl Try.ntmps33 rfl rfl ?_
  refine Z.seq ?_
  refine Z.region ?_
  refine Z.le rfl trivial ?_
  refine Z.ZO.alloc rfl rfl (by rfl) Try.zeroValue31 rfl hs ?_
  clear hs; intro g1 w1 hs
  refine Z.lnil ?_
  refine Z.only [0, 1] rfl ?_
  refine Z.nthen ?_
  refine Z.seq ?_
  refine Z.cutt (ι := Nat × Nat) [0, 1] rfl (fun x => [(2, [], .pointer (some ⟨x.1, 0, none⟩)), (3, [], .pointer (some ⟨x.2, 0, none⟩))]) (fun x wr => SX.St w [] wr [SX.Ent.blk x.2 26 r.lvs.toArray, SX.Ent.blk x.1 68 #[.int .u64 r.group, .int .i64 2], SX.Ent.blk g1 31 #[.int .i64 0, .slice none 0 0]]) ?_ ?_
  · skip
    refine Z.drawK (fun _ => true) mixed hs ?_
    clear hs; intro wd1 hs
    refine Z.t 0 rfl rfl rfl (by rfl) (by kernel_rfl) ⟨_, hs, by first | (simp; done) | exact fun e he => List.mem_append_right _ he⟩ (Z.Yd.fieldA (m := 1) rfl (by kernel_rfl)) ?_
    refine Z.t 1 rfl rfl rfl (by rfl) (by kernel_rfl) ⟨_, hs, by first | (simp; done) | exact fun e he => List.mem_append_right _ he⟩ (Z.Yd.load rfl Try.isAgg3 (fun _ => Z.cellO hc.1 (by simp) (hc.2 1 _ rfl))) ?_
    refine Z.t 3 rfl rfl rfl (by rfl) (by kernel_rfl) ⟨_, hs, by first | (simp; done) | exact fun e he => List.mem_append_right _ he⟩ (Z.Yd.fieldA (m := 2) rfl (by kernel_rfl)) ?_
    refine Z.t 4 rfl rfl rfl (by rfl) (by kernel_rfl) ⟨_, hs, by first | (simp; done) | exact fun e he => List.mem_append_right _ he⟩ (Z.Yd.loadA _ rfl Try.isAgg26 (fun _ w' hk j u hu => Z.cellO hc.1 (by simp) (Cel.lvs hc j u hu) w' hk) (by exact Try.sizeOf26)) ?_
    refine Z.forkD [2, 5, 6] rfl (by kernel_rfl) rfl ⟨⟨_, _, rfl, rfl, trivial, ?_⟩, ⟨_, _, rfl, rfl, trivial, ?_⟩, ⟨_, _, rfl, rfl, trivial, ?_⟩, trivial⟩
    · skip
      refine Z.ZO.call rfl rfl (by rfl) rfl rfl Try.call34 rfl (group_ok r.group _ hg) ?_
      rintro v1_2 w1_2 ⟨rfl, hy⟩
      replace hs := hs.call hy
      clear hy
      try simp only [List.cons_append, List.nil_append, List.append_nil] at hs
      refine Z.tk (Dn := fun _ => true) (i := 2) (fun _ => ⟨_, hs, by first | (simp; done) | exact fun e he => List.mem_append_right _ he⟩) ?_
      refine Z.fork2 5 6 rfl rfl rfl (by kernel_rfl) rfl rfl trivial trivial ?_ ?_
      · skip
        refine Z.ZO.alloc rfl rfl (by rfl) Try.zeroValue68 rfl hs ?_
        clear hs; intro g2 w2 hs
        refine Z.tk (Dn := fun _ => true) (i := 5) (fun _ => ⟨_, hs, by first | (simp; done) | exact fun e he => List.mem_append_right _ he⟩) ?_
        refine Z.tn 6 rfl rfl (by kernel_rfl) rfl trivial ?_
        refine Z.ZO.alloc rfl rfl (by rfl) Try.zeroValue26 rfl hs ?_
        clear hs; intro g3 w3 hs
        refine Z.tk (Dn := fun _ => true) (i := 6) (fun _ => ⟨_, hs, by first | (simp; done) | exact fun e he => List.mem_append_right _ he⟩) ?_
        refine Z.tn 7 rfl rfl (by kernel_rfl) rfl trivial ?_
        refine Z.ZO.storeA rfl rfl hs rfl rfl (by kernel_rfl) (by simp [Value.oneCell']) (by first | exact SX.at0 | exact SX.at1 | exact SX.at2 | exact SX.at3 | exact SX.at4 | exact SX.at5 | exact Z.at6 | exact Z.at7 | exact Z.at8 | exact Z.at9 | exact Z.at10 | exact Z.at11 | exact Z.at12) (by rfl) ?_
        clear hs; intro ws hs
        simp only [Nat.zero_add, Nat.add_zero, Nat.reduceAdd, Int.reduceToNat, Nat.reduceMul, List.set_cons_zero, List.set_cons_succ, List.setIfInBounds_toArray] at hs
        refine Z.tk (Dn := fun _ => true) (i := 7) (fun _ => ⟨_, hs, by first | (simp; done) | exact fun e he => List.mem_append_right _ he⟩) ?_
        refine Z.tn 8 rfl rfl (by kernel_rfl) rfl trivial ?_
        refine Z.ZO.storeA rfl rfl hs rfl rfl (by kernel_rfl) (by simp [Value.oneCell']) (by first | exact SX.at0 | exact SX.at1 | exact SX.at2 | exact SX.at3 | exact SX.at4 | exact SX.at5 | exact Z.at6 | exact Z.at7 | exact Z.at8 | exact Z.at9 | exact Z.at10 | exact Z.at11 | exact Z.at12) (by rfl) ?_
        clear hs; intro ws hs
        simp only [Nat.zero_add, Nat.add_zero, Nat.reduceAdd, Int.reduceToNat, Nat.reduceMul, List.set_cons_zero, List.set_cons_succ, List.setIfInBounds_toArray] at hs
        refine Z.tk (Dn := fun _ => true) (i := 8) (fun _ => ⟨_, hs, by first | (simp; done) | exact fun e he => List.mem_append_right _ he⟩) ?_
        refine Z.td (by rfl) (by kernel_rfl) ?_
        refine Z.only [0, 1, 2, 3] rfl ?_
        refine Z.nthen ?_
        exact Z.meet (g2, g3) (by refine ⟨?_, ?_, ?_, ?_, trivial⟩ <;> (first | rfl | (refine Z.lookv rfl ?_; simp; done) | (refine Z.lookv rfl ?_; simp; omega))) (by first | exact hs | exact hs.sel [1, 0, 2] (by decide))
      · skip
        refine Z.ZO.alloc rfl rfl (by rfl) Try.zeroValue26 rfl hs ?_
        clear hs; intro g3 w3 hs
        refine Z.tk (Dn := fun _ => true) (i := 6) (fun _ => ⟨_, hs, by first | (simp; done) | exact fun e he => List.mem_append_right _ he⟩) ?_
        refine Z.tn 5 rfl rfl (by kernel_rfl) rfl trivial ?_
        refine Z.ZO.alloc rfl rfl (by rfl) Try.zeroValue68 rfl hs ?_
        clear hs; intro g2 w2 hs
        refine Z.tk (Dn := fun _ => true) (i := 5) (fun _ => ⟨_, hs, by first | (simp; done) | exact fun e he => List.mem_append_right _ he⟩) ?_
        refine Z.tn 7 rfl rfl (by kernel_rfl) rfl trivial ?_
        refine Z.ZO.storeA rfl rfl hs rfl rfl (by kernel_rfl) (by simp [Value.oneCell']) (by first | exact SX.at0 | exact SX.at1 | exact SX.at2 | exact SX.at3 | exact SX.at4 | exact SX.at5 | exact Z.at6 | exact Z.at7 | exact Z.at8 | exact Z.at9 | exact Z.at10 | exact Z.at11 | exact Z.at12) (by rfl) ?_
        clear hs; intro ws hs
        simp only [Nat.zero_add, Nat.add_zero, Nat.reduceAdd, Int.reduceToNat, Nat.reduceMul, List.set_cons_zero, List.set_cons_succ, List.setIfInBounds_toArray] at hs
        refine Z.tk (Dn := fun _ => true) (i := 7) (fun _ => ⟨_, hs, by first | (simp; done) | exact fun e he => List.mem_append_right _ he⟩) ?_
        refine Z.tn 8 rfl rfl (by kernel_rfl) rfl trivial ?_
        refine Z.ZO.storeA rfl rfl hs rfl rfl (by kernel_rfl) (by simp [Value.oneCell']) (by first | exact SX.at0 | exact SX.at1 | exact SX.at2 | exact SX.at3 | exact SX.at4 | exact SX.at5 | exact Z.at6 | exact Z.at7 | exact Z.at8 | exact Z.at9 | exact Z.at10 | exact Z.at11 | exact Z.at12) (by rfl) ?_
        clear hs; intro ws hs
        simp only [Nat.zero_add, Nat.add_zero, Nat.reduceAdd, Int.reduceToNat, Nat.reduceMul, List.set_cons_zero, List.set_cons_succ, List.setIfInBounds_toArray] at hs
        refine Z.tk (Dn := fun _ => true) (i := 8) (fun _ => ⟨_, hs, by first | (simp; done) | exact fun e he => List.mem_append_right _ he⟩) ?_
        refine Z.td (by rfl) (by kernel_rfl) ?_
        refine Z.only [0, 1, 2, 3] rfl ?_
        refine Z.nthen ?_
        exact Z.meet (g2, g3) (by refine ⟨?_, ?_, ?_, ?_, trivial⟩ <;> (first | rfl | (refine Z.lookv rfl ?_; simp; done) | (refine Z.lookv rfl ?_; simp; omega))) (by first | exact hs | exact hs.sel [1, 0, 2] (by decide))
    · skip
      refine Z.ZO.alloc rfl rfl (by rfl) Try.zeroValue68 rfl hs ?_
      clear hs; intro g2 w2 hs
      refine Z.tk (Dn := fun _ => true) (i := 5) (fun _ => ⟨_, hs, by first | (simp; done) | exact fun e he => List.mem_append_right _ he⟩) ?_
      refine Z.fork2 2 6 rfl rfl rfl (by kernel_rfl) rfl rfl trivial trivial ?_ ?_
      · skip
        refine Z.ZO.call rfl rfl (by rfl) rfl rfl Try.call34 rfl (group_ok r.group _ hg) ?_
        rintro v1_2 w1_2 ⟨rfl, hy⟩
        replace hs := hs.call hy
        clear hy
        try simp only [List.cons_append, List.nil_append, List.append_nil] at hs
        refine Z.tk (Dn := fun _ => true) (i := 2) (fun _ => ⟨_, hs, by first | (simp; done) | exact fun e he => List.mem_append_right _ he⟩) ?_
        refine Z.tn 6 rfl rfl (by kernel_rfl) rfl trivial ?_
        refine Z.ZO.alloc rfl rfl (by rfl) Try.zeroValue26 rfl hs ?_
        clear hs; intro g3 w3 hs
        refine Z.tk (Dn := fun _ => true) (i := 6) (fun _ => ⟨_, hs, by first | (simp; done) | exact fun e he => List.mem_append_right _ he⟩) ?_
        refine Z.tn 7 rfl rfl (by kernel_rfl) rfl trivial ?_
        refine Z.ZO.storeA rfl rfl hs rfl rfl (by kernel_rfl) (by simp [Value.oneCell']) (by first | exact SX.at0 | exact SX.at1 | exact SX.at2 | exact SX.at3 | exact SX.at4 | exact SX.at5 | exact Z.at6 | exact Z.at7 | exact Z.at8 | exact Z.at9 | exact Z.at10 | exact Z.at11 | exact Z.at12) (by rfl) ?_
        clear hs; intro ws hs
        simp only [Nat.zero_add, Nat.add_zero, Nat.reduceAdd, Int.reduceToNat, Nat.reduceMul, List.set_cons_zero, List.set_cons_succ, List.setIfInBounds_toArray] at hs
        refine Z.tk (Dn := fun _ => true) (i := 7) (fun _ => ⟨_, hs, by first | (simp; done) | exact fun e he => List.mem_append_right _ he⟩) ?_
        refine Z.tn 8 rfl rfl (by kernel_rfl) rfl trivial ?_
        refine Z.ZO.storeA rfl rfl hs rfl rfl (by kernel_rfl) (by simp [Value.oneCell']) (by first | exact SX.at0 | exact SX.at1 | exact SX.at2 | exact SX.at3 | exact SX.at4 | exact SX.at5 | exact Z.at6 | exact Z.at7 | exact Z.at8 | exact Z.at9 | exact Z.at10 | exact Z.at11 | exact Z.at12) (by rfl) ?_
        clear hs; intro ws hs
        simp only [Nat.zero_add, Nat.add_zero, Nat.reduceAdd, Int.reduceToNat, Nat.reduceMul, List.set_cons_zero, List.set_cons_succ, List.setIfInBounds_toArray] at hs
        refine Z.tk (Dn := fun _ => true) (i := 8) (fun _ => ⟨_, hs, by first | (simp; done) | exact fun e he => List.mem_append_right _ he⟩) ?_
        refine Z.td (by rfl) (by kernel_rfl) ?_
        refine Z.only [0, 1, 2, 3] rfl ?_
        refine Z.nthen ?_
        exact Z.meet (g2, g3) (by refine ⟨?_, ?_, ?_, ?_, trivial⟩ <;> (first | rfl | (refine Z.lookv rfl ?_; simp; done) | (refine Z.lookv rfl ?_; simp; omega))) (by first | exact hs | exact hs.sel [1, 0, 2] (by decide))
      · skip
        refine Z.ZO.alloc rfl rfl (by rfl) Try.zeroValue26 rfl hs ?_
        clear hs; intro g3 w3 hs
        refine Z.tk (Dn := fun _ => true) (i := 6) (fun _ => ⟨_, hs, by first | (simp; done) | exact fun e he => List.mem_append_right _ he⟩) ?_
        refine Z.tn 2 rfl rfl (by kernel_rfl) rfl trivial ?_
        refine Z.ZO.call rfl rfl (by rfl) rfl rfl Try.call34 rfl (group_ok r.group _ hg) ?_
        rintro v1_2 w1_2 ⟨rfl, hy⟩
        replace hs := hs.call hy
        clear hy
        try simp only [List.cons_append, List.nil_append, List.append_nil] at hs
        refine Z.tk (Dn := fun _ => true) (i := 2) (fun _ => ⟨_, hs, by first | (simp; done) | exact fun e he => List.mem_append_right _ he⟩) ?_
        refine Z.tn 7 rfl rfl (by kernel_rfl) rfl trivial ?_
        refine Z.ZO.storeA rfl rfl hs rfl rfl (by kernel_rfl) (by simp [Value.oneCell']) (by first | exact SX.at0 | exact SX.at1 | exact SX.at2 | exact SX.at3 | exact SX.at4 | exact SX.at5 | exact Z.at6 | exact Z.at7 | exact Z.at8 | exact Z.at9 | exact Z.at10 | exact Z.at11 | exact Z.at12) (by rfl) ?_
        clear hs; intro ws hs
        simp only [Nat.zero_add, Nat.add_zero, Nat.reduceAdd, Int.reduceToNat, Nat.reduceMul, List.set_cons_zero, List.set_cons_succ, List.setIfInBounds_toArray] at hs
        refine Z.tk (Dn := fun _ => true) (i := 7) (fun _ => ⟨_, hs, by first | (simp; done) | exact fun e he => List.mem_append_right _ he⟩) ?_
        refine Z.tn 8 rfl rfl (by kernel_rfl) rfl trivial ?_
        refine Z.ZO.storeA rfl rfl hs rfl rfl (by kernel_rfl) (by simp [Value.oneCell']) (by first | exact SX.at0 | exact SX.at1 | exact SX.at2 | exact SX.at3 | exact SX.at4 | exact SX.at5 | exact Z.at6 | exact Z.at7 | exact Z.at8 | exact Z.at9 | exact Z.at10 | exact Z.at11 | exact Z.at12) (by rfl) ?_
        clear hs; intro ws hs
        simp only [Nat.zero_add, Nat.add_zero, Nat.reduceAdd, Int.reduceToNat, Nat.reduceMul, List.set_cons_zero, List.set_cons_succ, List.setIfInBounds_toArray] at hs
        refine Z.tk (Dn := fun _ => true) (i := 8) (fun _ => ⟨_, hs, by first | (simp; done) | exact fun e he => List.mem_append_right _ he⟩) ?_
        refine Z.td (by rfl) (by kernel_rfl) ?_
        refine Z.only [0, 1, 2, 3] rfl ?_
        refine Z.nthen ?_
        exact Z.meet (g2, g3) (by refine ⟨?_, ?_, ?_, ?_, trivial⟩ <;> (first | rfl | (refine Z.lookv rfl ?_; simp; done) | (refine Z.lookv rfl ?_; simp; omega))) (by first | exact hs | exact hs.sel [1, 0, 2] (by decide))
    · skip
      refine Z.ZO.alloc rfl rfl (by rfl) Try.zeroValue26 rfl hs ?_
      clear hs; intro g3 w3 hs
      refine Z.tk (Dn := fun _ => true) (i := 6) (fun _ => ⟨_, hs, by first | (simp; done) | exact fun e he => List.mem_append_right _ he⟩) ?_
      refine Z.fork2 2 5 rfl rfl rfl (by kernel_rfl) rfl rfl trivial trivial ?_ ?_
      · skip
        refine Z.ZO.call rfl rfl (by rfl) rfl rfl Try.call34 rfl (group_ok r.group _ hg) ?_
        rintro v1_2 w1_2 ⟨rfl, hy⟩
        replace hs := hs.call hy
        clear hy
        try simp only [List.cons_append, List.nil_append, List.append_nil] at hs
        refine Z.tk (Dn := fun _ => true) (i := 2) (fun _ => ⟨_, hs, by first | (simp; done) | exact fun e he => List.mem_append_right _ he⟩) ?_
        refine Z.tn 5 rfl rfl (by kernel_rfl) rfl trivial ?_
        refine Z.ZO.alloc rfl rfl (by rfl) Try.zeroValue68 rfl hs ?_
        clear hs; intro g2 w2 hs
        refine Z.tk (Dn := fun _ => true) (i := 5) (fun _ => ⟨_, hs, by first | (simp; done) | exact fun e he => List.mem_append_right _ he⟩) ?_
        refine Z.tn 7 rfl rfl (by kernel_rfl) rfl trivial ?_
        refine Z.ZO.storeA rfl rfl hs rfl rfl (by kernel_rfl) (by simp [Value.oneCell']) (by first | exact SX.at0 | exact SX.at1 | exact SX.at2 | exact SX.at3 | exact SX.at4 | exact SX.at5 | exact Z.at6 | exact Z.at7 | exact Z.at8 | exact Z.at9 | exact Z.at10 | exact Z.at11 | exact Z.at12) (by rfl) ?_
        clear hs; intro ws hs
        simp only [Nat.zero_add, Nat.add_zero, Nat.reduceAdd, Int.reduceToNat, Nat.reduceMul, List.set_cons_zero, List.set_cons_succ, List.setIfInBounds_toArray] at hs
        refine Z.tk (Dn := fun _ => true) (i := 7) (fun _ => ⟨_, hs, by first | (simp; done) | exact fun e he => List.mem_append_right _ he⟩) ?_
        refine Z.tn 8 rfl rfl (by kernel_rfl) rfl trivial ?_
        refine Z.ZO.storeA rfl rfl hs rfl rfl (by kernel_rfl) (by simp [Value.oneCell']) (by first | exact SX.at0 | exact SX.at1 | exact SX.at2 | exact SX.at3 | exact SX.at4 | exact SX.at5 | exact Z.at6 | exact Z.at7 | exact Z.at8 | exact Z.at9 | exact Z.at10 | exact Z.at11 | exact Z.at12) (by rfl) ?_
        clear hs; intro ws hs
        simp only [Nat.zero_add, Nat.add_zero, Nat.reduceAdd, Int.reduceToNat, Nat.reduceMul, List.set_cons_zero, List.set_cons_succ, List.setIfInBounds_toArray] at hs
        refine Z.tk (Dn := fun _ => true) (i := 8) (fun _ => ⟨_, hs, by first | (simp; done) | exact fun e he => List.mem_append_right _ he⟩) ?_
        refine Z.td (by rfl) (by kernel_rfl) ?_
        refine Z.only [0, 1, 2, 3] rfl ?_
        refine Z.nthen ?_
        exact Z.meet (g2, g3) (by refine ⟨?_, ?_, ?_, ?_, trivial⟩ <;> (first | rfl | (refine Z.lookv rfl ?_; simp; done) | (refine Z.lookv rfl ?_; simp; omega))) (by first | exact hs | exact hs.sel [1, 0, 2] (by decide))
      · skip
        refine Z.ZO.alloc rfl rfl (by rfl) Try.zeroValue68 rfl hs ?_
        clear hs; intro g2 w2 hs
        refine Z.tk (Dn := fun _ => true) (i := 5) (fun _ => ⟨_, hs, by first | (simp; done) | exact fun e he => List.mem_append_right _ he⟩) ?_
        refine Z.tn 2 rfl rfl (by kernel_rfl) rfl trivial ?_
        refine Z.ZO.call rfl rfl (by rfl) rfl rfl Try.call34 rfl (group_ok r.group _ hg) ?_
        rintro v1_2 w1_2 ⟨rfl, hy⟩
        replace hs := hs.call hy
        clear hy
        try simp only [List.cons_append, List.nil_append, List.append_nil] at hs
        refine Z.tk (Dn := fun _ => true) (i := 2) (fun _ => ⟨_, hs, by first | (simp; done) | exact fun e he => List.mem_append_right _ he⟩) ?_
        refine Z.tn 7 rfl rfl (by kernel_rfl) rfl trivial ?_
        refine Z.ZO.storeA rfl rfl hs rfl rfl (by kernel_rfl) (by simp [Value.oneCell']) (by first | exact SX.at0 | exact SX.at1 | exact SX.at2 | exact SX.at3 | exact SX.at4 | exact SX.at5 | exact Z.at6 | exact Z.at7 | exact Z.at8 | exact Z.at9 | exact Z.at10 | exact Z.at11 | exact Z.at12) (by rfl) ?_
        clear hs; intro ws hs
        simp only [Nat.zero_add, Nat.add_zero, Nat.reduceAdd, Int.reduceToNat, Nat.reduceMul, List.set_cons_zero, List.set_cons_succ, List.setIfInBounds_toArray] at hs
        refine Z.tk (Dn := fun _ => true) (i := 7) (fun _ => ⟨_, hs, by first | (simp; done) | exact fun e he => List.mem_append_right _ he⟩) ?_
        refine Z.tn 8 rfl rfl (by kernel_rfl) rfl trivial ?_
        refine Z.ZO.storeA rfl rfl hs rfl rfl (by kernel_rfl) (by simp [Value.oneCell']) (by first | exact SX.at0 | exact SX.at1 | exact SX.at2 | exact SX.at3 | exact SX.at4 | exact SX.at5 | exact Z.at6 | exact Z.at7 | exact Z.at8 | exact Z.at9 | exact Z.at10 | exact Z.at11 | exact Z.at12) (by rfl) ?_
        clear hs; intro ws hs
        simp only [Nat.zero_add, Nat.add_zero, Nat.reduceAdd, Int.reduceToNat, Nat.reduceMul, List.set_cons_zero, List.set_cons_succ, List.setIfInBounds_toArray] at hs
        refine Z.tk (Dn := fun _ => true) (i := 8) (fun _ => ⟨_, hs, by first | (simp; done) | exact fun e he => List.mem_append_right _ he⟩) ?_
        refine Z.td (by rfl) (by kernel_rfl) ?_
        refine Z.only [0, 1, 2, 3] rfl ?_
        refine Z.nthen ?_
        exact Z.meet (g2, g3) (by refine ⟨?_, ?_, ?_, ?_, trivial⟩ <;> (first | rfl | (refine Z.lookv rfl ?_; simp; done) | (refine Z.lookv rfl ?_; simp; omega))) (by first | exact hs | exact hs.sel [1, 0, 2] (by decide))
  · clear hs
    rintro ⟨g2, g3⟩ w2 hs
    refine Z.only [0, 1, 2, 3] rfl ?_
    (try dsimp only at hs)
    refine Z.seq ?_
    refine Z.seq ?_
    refine Z.region ?_
    refine Z.l rfl rfl (by rfl) (Z.keepS hs) (Z.Yd.fieldA (m := 0) rfl (by kernel_rfl)) ?_
    refine Z.l rfl rfl (by rfl) (Z.keepS hs) (Z.Yd.load rfl Try.isAgg4 (fun _ => Z.cellO hc.1 (by simp) (hc.2 0 _ rfl))) ?_
    refine Z.lnil ?_
    refine Z.only [0, 1, 2, 3, 12] rfl ?_
    refine Z.nthen ?_
    refine Z.cond rfl (fun h => absurd h (by simpa using hl)) (fun hc2 => ?_)
    refine Z.skip ?_
    refine Z.nthen ?_
    refine Z.seq ?_
    refine Z.seq ?_
    refine Z.region ?_
    refine Z.l rfl rfl (by rfl) (Z.keepS hs) (by first | exact Z.Yd.loadA _ rfl Try.isAgg26 (fun _ => Z.cellsB (by first | ((repeat (first | exact List.mem_cons_self | refine List.mem_cons_of_mem _ ?_ | refine List.mem_append_right _ ?_)); done) | fail)) (by exact Try.sizeOf26) | fail "load 5.0") ?_
    refine Z.lb 1 rfl ?_
    refine Z.lnil ?_
    refine Z.only [0, 1, 2, 3, 31, 32] rfl ?_
    refine Z.nthen ?_
    refine Z.block ?_
    refine Z.loopk (ι := Nat) [0, 1, 2, 3, 31] rfl (fun k => [(32, [], .int .i64 (k : Int))]) (fun k wr => k ≤ 4 ∧ SX.St w [] wr [SX.Ent.blk g3 26 r.lvs.toArray, SX.Ent.blk g2 68 #[.int .u64 r.group, .int .i64 2], SX.Ent.blk g1 31 #[.int .i64 0, .slice none 0 0]]) (fun k => 4 - k) 0 (by refine ⟨?_, trivial⟩ <;> (first | rfl | (refine Z.lookv rfl ?_; simp; done) | (refine Z.lookv rfl ?_; simp; omega))) ⟨by omega, hs⟩ ?_
    clear hs
    rintro k w3 ⟨hk, hs⟩
    refine Z.only [0, 1, 2, 3, 31, 32] rfl ?_
    refine Z.seq ?_
    refine Z.region ?_
    refine Z.lb 1 rfl ?_
    refine Z.lnil ?_
    refine Z.only [0, 1, 2, 3, 31, 32, 33] rfl ?_
    refine Z.nthen ?_
    refine Z.seq ?_
    refine Z.cond rfl (fun hc6 => ?_) (fun hc6 => ?_)
    · first
        | (exfalso; simp at hc6 <;> omega)
        | (
          (try simp at hc6)
          have hgk := lvs_get r k (by omega)
          have hzk := hz k (by omega)
          refine Z.skip ?_
          refine Z.nthen ?_
          refine Z.seq ?_
          refine Z.block ?_
          refine Z.seq ?_
          refine Z.region ?_
          refine Z.lb 1 rfl ?_
          refine Z.l rfl rfl (by rfl) (Z.keepS hs) (Z.Yd.idx1 rfl rfl Try.underlying26 Try.sizeOf3 Try.isAgg3 (fun _ => ⟨by omega, by omega, hgk⟩)) ?_
          refine Z.lb 2 rfl ?_
          refine Z.lnil ?_
          refine Z.only [0, 1, 2, 3, 4, 5, 31, 32] rfl ?_
          refine Z.nthen ?_
          refine Z.region ?_
          refine Z.lb 4 rfl ?_
          refine Z.l rfl rfl (by rfl) (Z.keepS hs) (Z.Yd.fieldA (m := 1) rfl (by kernel_rfl)) ?_
          refine Z.l rfl rfl (by rfl) (Z.keepS hs) (Z.Yd.load rfl Try.isAgg3 (fun _ => Z.cellO hc.1 (by simp) (hc.2 1 _ rfl))) ?_
          refine Z.lb 2 rfl ?_
          refine Z.le rfl trivial ?_
          refine Z.ZO.call rfl rfl (by rfl) rfl rfl Try.call35 rfl (must_ok _ 2 _ (by simp; omega)) ?_
          rintro v8_8 w8_8 ⟨rfl, hy⟩
          replace hs := hs.call hy
          clear hy
          try simp only [List.cons_append, List.nil_append, List.append_nil] at hs
          refine Z.lnil ?_
          refine Z.only [0, 1, 2, 3, 31, 32] rfl ?_
          refine Z.nblock ?_
          refine Z.nthen ?_
          refine Z.region ?_
          refine Z.l rfl rfl (by rfl) (Z.keepS hs) (Z.Yd.add rfl rfl (fun hG => Z.wi64 (by first | omega | (have hG' := Z.gh rfl hG; simp at hG'; omega)))) ?_
          refine Z.lb 1 rfl ?_
          refine Z.lnil ?_
          refine Z.only [0, 1, 2, 3, 31, 32] rfl ?_
          refine Z.nthen ?_
          exact Z.again (k + 1) (by refine ⟨?_, ?_, ?_, ?_, ?_, ?_, trivial⟩ <;> (first | rfl | (refine Z.lookv rfl ?_; simp; done) | (refine Z.lookv rfl ?_; simp; omega))) ⟨by omega, hs⟩ (by omega)
          )
    · first
        | (exfalso; simp at hc6 <;> omega)
        | (
          (try simp at hc6)
          refine Z.exit ?_
          refine Z.xthen ?_
          refine Z.xthen ?_
          refine Z.xblock ?_
          refine Z.nthen ?_
          refine Z.seq ?_
          refine Z.drawK (fun j => j != 8) mixed hs ?_
          clear hs; intro wd10 hs
          refine Z.t 0 rfl rfl rfl (by rfl) (by kernel_rfl) ⟨_, hs, by first | (simp; done) | exact fun e he => List.mem_append_right _ he⟩ (by first | exact Z.Yd.loadA _ rfl Try.isAgg68 (fun _ => Z.cellsB (by first | ((repeat (first | exact List.mem_cons_self | refine List.mem_cons_of_mem _ ?_ | refine List.mem_append_right _ ?_)); done) | fail)) (by exact Try.sizeOf68) | fail "load 10.0") ?_
          refine Z.t 1 rfl rfl rfl (by rfl) (by kernel_rfl) ⟨_, hs, by first | (simp; done) | exact fun e he => List.mem_append_right _ he⟩ (Z.Yd.fieldA (m := 1) rfl (by kernel_rfl)) ?_
          refine Z.t 2 rfl rfl rfl (by rfl) (by kernel_rfl) ⟨_, hs, by first | (simp; done) | exact fun e he => List.mem_append_right _ he⟩ (Z.Yd.load rfl Try.isAgg3 (fun _ => Z.cellO hc.1 (by simp) (hc.2 1 _ rfl))) ?_
          refine Z.t 3 rfl rfl rfl (by rfl) (by kernel_rfl) ⟨_, hs, by first | (simp; done) | exact fun e he => List.mem_append_right _ he⟩ (Z.Yd.elemA rfl rfl Try.underlying26 Try.sizeOf3 (fun hG => ⟨(by first | omega | (have hG' := Z.gh rfl hG; simp at hG'; omega)), (by first | omega | (have hG' := Z.gh rfl hG; simp at hG'; omega))⟩)) ?_
          refine Z.t 4 rfl rfl rfl (by rfl) (by kernel_rfl) ⟨_, hs, by first | (simp; done) | exact fun e he => List.mem_append_right _ he⟩ (Z.Yd.load rfl Try.isAgg3 (fun _ => Z.cellB (cs := r.lvs.toArray) (by first | ((repeat (first | exact List.mem_cons_self | refine List.mem_cons_of_mem _ ?_ | refine List.mem_append_right _ ?_)); done) | fail) hget)) ?_
          refine Z.tn 5 rfl rfl (by kernel_rfl) rfl trivial ?_
          refine Z.ZO.call rfl rfl (by rfl) rfl rfl Try.call37 rfl (level_ok _ _ hv) ?_
          rintro v10_5 w10_5 ⟨rfl, hy⟩
          replace hs := hs.call hy
          clear hy
          try simp only [List.cons_append, List.nil_append, List.append_nil] at hs
          refine Z.tk (Dn := fun j => j != 8) (i := 5) (fun _ => ⟨_, hs, by first | (simp; done) | exact fun e he => List.mem_append_right _ he⟩) ?_
          refine Z.tn 6 rfl rfl (by kernel_rfl) rfl trivial ?_
          refine Z.ZO.litL (T' := 68) [(0, 2), (2, 2)] [.int .u64 0, .int .i64 0, .int .u64 0, .int .i64 0] rfl rfl (by rfl) rfl rfl (by intro W; kernel_rfl) hs ?_
          clear hs; intro g52 w52 hs
          refine Z.tk (Dn := fun j => j != 8) (i := 6) (fun _ => ⟨_, hs, by first | (simp; done) | exact fun e he => List.mem_append_right _ he⟩) ?_
          have hsx := Z.blk_lentj (L1 := []) hs (j := 0) rfl
          refine Z.tn 7 rfl rfl (by kernel_rfl) rfl trivial ?_
          refine Z.ZO.call rfl rfl (by rfl) rfl rfl Try.call36 rfl (built_ok 29 _ 2 2 [(r.group, 2), (r.lv r.group.toNat, 6)] _ hsx rfl (by omega) (by simp [fg.1, fv.1]) (by simp [chkA, fg.2, fv.2])) ?_
          rintro v10_7 w10_7 ⟨B, co, rfl, hy⟩
          replace hs := hs.call hy
          clear hy
          try simp only [List.cons_append, List.nil_append, List.append_nil] at hs
          rw [short_bytes _ _ hg hv] at hs ⊢
          refine Z.tk (Dn := fun j => j != 8) (i := 7) (fun _ => ⟨_, hs, by first | (simp; done) | exact fun e he => List.mem_append_right _ he⟩) ?_
          refine Z.tn 8 rfl rfl (by kernel_rfl) rfl trivial ?_
          refine Z.ZO.storeA rfl rfl hs rfl rfl (by kernel_rfl) (by simp [Value.oneCell']) (by first | exact SX.at0 | exact SX.at1 | exact SX.at2 | exact SX.at3 | exact SX.at4 | exact SX.at5 | exact Z.at6 | exact Z.at7 | exact Z.at8 | exact Z.at9 | exact Z.at10 | exact Z.at11 | exact Z.at12) (by rfl) ?_
          clear hs; intro ws hs
          simp only [Nat.zero_add, Nat.add_zero, Nat.reduceAdd, Int.reduceToNat, Nat.reduceMul, List.set_cons_zero, List.set_cons_succ, List.setIfInBounds_toArray] at hs
          refine Z.tk (Dn := fun j => j != 8) (i := 8) (fun h => absurd h (by decide)) ?_
          refine Z.td (by rfl) (by kernel_rfl) ?_
          refine Z.only [1] rfl ?_
          refine Z.nthen ?_
          refine Z.ret ?_
          -- ret#0
          refine Z.out1 (by exact ⟨⟨_, rfl, Z.rvcA hs Try.isAgg31 (by first | ((repeat (first | exact List.mem_cons_self | refine List.mem_cons_of_mem _ ?_ | refine List.mem_append_right _ ?_)); done) | fail) (by exact Try.sizeOf31)⟩, trivial⟩) ?_
          exact ⟨_, rfl, B, co, rfl, hs.sel [0] (by decide)⟩
          )

set_option maxRecDepth 100000 in
theorem encrep1_bad (g : Nat) (r : RepV) (w : World) (hc : Cel w g r.cells) (hr : ¬ r.ok) :
    Calls Try.prog 33 #[.pointer (some ⟨g, 0, none⟩)] w (PanE 2 fun w' => SX.St w [] w' []) := by
  have hs := SX.St.start w
  by_cases hg : 0 ≤ r.group ∧ r.group ≤ 3
  · skip
    have hget : Z.nth r.lvs (0 + r.group.toNat * 1) = some (.int .i64 (r.lv r.group.toNat)) := by rw [Nat.zero_add, Nat.mul_one]; exact lvs_nth r _ (by omega)
    refine Z.enter Try.func33 rfl Try.ntmps33 rfl rfl ?_
    refine Z.seq ?_
    refine Z.region ?_
    refine Z.le rfl trivial ?_
    refine Z.ZO.alloc rfl rfl (by rfl) Try.zeroValue31 rfl hs ?_
    clear hs; intro g1 w1 hs
    refine Z.lnil ?_
    refine Z.only [0, 1] rfl ?_
    refine Z.nthen ?_
    refine Z.seq ?_
    refine Z.cutt (ι := Nat × Nat) [0, 1] rfl (fun x => [(2, [], .pointer (some ⟨x.1, 0, none⟩)), (3, [], .pointer (some ⟨x.2, 0, none⟩))]) (fun x wr => SX.St w [] wr [SX.Ent.blk x.2 26 r.lvs.toArray, SX.Ent.blk x.1 68 #[.int .u64 r.group, .int .i64 2], SX.Ent.blk g1 31 #[.int .i64 0, .slice none 0 0]]) ?_ ?_
    · skip
      refine Z.drawK (fun _ => true) mixed hs ?_
      clear hs; intro wd1 hs
      refine Z.t 0 rfl rfl rfl (by rfl) (by kernel_rfl) ⟨_, hs, by first | (simp; done) | exact fun e he => List.mem_append_right _ he⟩ (Z.Yd.fieldA (m := 1) rfl (by kernel_rfl)) ?_
      refine Z.t 1 rfl rfl rfl (by rfl) (by kernel_rfl) ⟨_, hs, by first | (simp; done) | exact fun e he => List.mem_append_right _ he⟩ (Z.Yd.load rfl Try.isAgg3 (fun _ => Z.cellO hc.1 (by simp) (hc.2 1 _ rfl))) ?_
      refine Z.t 3 rfl rfl rfl (by rfl) (by kernel_rfl) ⟨_, hs, by first | (simp; done) | exact fun e he => List.mem_append_right _ he⟩ (Z.Yd.fieldA (m := 2) rfl (by kernel_rfl)) ?_
      refine Z.t 4 rfl rfl rfl (by rfl) (by kernel_rfl) ⟨_, hs, by first | (simp; done) | exact fun e he => List.mem_append_right _ he⟩ (Z.Yd.loadA _ rfl Try.isAgg26 (fun _ w' hk j u hu => Z.cellO hc.1 (by simp) (Cel.lvs hc j u hu) w' hk) (by exact Try.sizeOf26)) ?_
      refine Z.forkD [2, 5, 6] rfl (by kernel_rfl) rfl ⟨⟨_, _, rfl, rfl, trivial, ?_⟩, ⟨_, _, rfl, rfl, trivial, ?_⟩, ⟨_, _, rfl, rfl, trivial, ?_⟩, trivial⟩
      · skip
        refine Z.ZO.call rfl rfl (by rfl) rfl rfl Try.call34 rfl (group_ok r.group _ hg) ?_
        rintro v1_2 w1_2 ⟨rfl, hy⟩
        replace hs := hs.call hy
        clear hy
        try simp only [List.cons_append, List.nil_append, List.append_nil] at hs
        refine Z.tk (Dn := fun _ => true) (i := 2) (fun _ => ⟨_, hs, by first | (simp; done) | exact fun e he => List.mem_append_right _ he⟩) ?_
        refine Z.fork2 5 6 rfl rfl rfl (by kernel_rfl) rfl rfl trivial trivial ?_ ?_
        · skip
          refine Z.ZO.alloc rfl rfl (by rfl) Try.zeroValue68 rfl hs ?_
          clear hs; intro g2 w2 hs
          refine Z.tk (Dn := fun _ => true) (i := 5) (fun _ => ⟨_, hs, by first | (simp; done) | exact fun e he => List.mem_append_right _ he⟩) ?_
          refine Z.tn 6 rfl rfl (by kernel_rfl) rfl trivial ?_
          refine Z.ZO.alloc rfl rfl (by rfl) Try.zeroValue26 rfl hs ?_
          clear hs; intro g3 w3 hs
          refine Z.tk (Dn := fun _ => true) (i := 6) (fun _ => ⟨_, hs, by first | (simp; done) | exact fun e he => List.mem_append_right _ he⟩) ?_
          refine Z.tn 7 rfl rfl (by kernel_rfl) rfl trivial ?_
          refine Z.ZO.storeA rfl rfl hs rfl rfl (by kernel_rfl) (by simp [Value.oneCell']) (by first | exact SX.at0 | exact SX.at1 | exact SX.at2 | exact SX.at3 | exact SX.at4 | exact SX.at5 | exact Z.at6 | exact Z.at7 | exact Z.at8 | exact Z.at9 | exact Z.at10 | exact Z.at11 | exact Z.at12) (by rfl) ?_
          clear hs; intro ws hs
          simp only [Nat.zero_add, Nat.add_zero, Nat.reduceAdd, Int.reduceToNat, Nat.reduceMul, List.set_cons_zero, List.set_cons_succ, List.setIfInBounds_toArray] at hs
          refine Z.tk (Dn := fun _ => true) (i := 7) (fun _ => ⟨_, hs, by first | (simp; done) | exact fun e he => List.mem_append_right _ he⟩) ?_
          refine Z.tn 8 rfl rfl (by kernel_rfl) rfl trivial ?_
          refine Z.ZO.storeA rfl rfl hs rfl rfl (by kernel_rfl) (by simp [Value.oneCell']) (by first | exact SX.at0 | exact SX.at1 | exact SX.at2 | exact SX.at3 | exact SX.at4 | exact SX.at5 | exact Z.at6 | exact Z.at7 | exact Z.at8 | exact Z.at9 | exact Z.at10 | exact Z.at11 | exact Z.at12) (by rfl) ?_
          clear hs; intro ws hs
          simp only [Nat.zero_add, Nat.add_zero, Nat.reduceAdd, Int.reduceToNat, Nat.reduceMul, List.set_cons_zero, List.set_cons_succ, List.setIfInBounds_toArray] at hs
          refine Z.tk (Dn := fun _ => true) (i := 8) (fun _ => ⟨_, hs, by first | (simp; done) | exact fun e he => List.mem_append_right _ he⟩) ?_
          refine Z.td (by rfl) (by kernel_rfl) ?_
          refine Z.only [0, 1, 2, 3] rfl ?_
          refine Z.nthen ?_
          exact Z.meet (g2, g3) (by refine ⟨?_, ?_, ?_, ?_, trivial⟩ <;> (first | rfl | (refine Z.lookv rfl ?_; simp; done) | (refine Z.lookv rfl ?_; simp; omega))) (by first | exact hs | exact hs.sel [1, 0, 2] (by decide))
        · skip
          refine Z.ZO.alloc rfl rfl (by rfl) Try.zeroValue26 rfl hs ?_
          clear hs; intro g3 w3 hs
          refine Z.tk (Dn := fun _ => true) (i := 6) (fun _ => ⟨_, hs, by first | (simp; done) | exact fun e he => List.mem_append_right _ he⟩) ?_
          refine Z.tn 5 rfl rfl (by kernel_rfl) rfl trivial ?_
          refine Z.ZO.alloc rfl rfl (by rfl) Try.zeroValue68 rfl hs ?_
          clear hs; intro g2 w2 hs
          refine Z.tk (Dn := fun _ => true) (i := 5) (fun _ => ⟨_, hs, by first | (simp; done) | exact fun e he => List.mem_append_right _ he⟩) ?_
          refine Z.tn 7 rfl rfl (by kernel_rfl) rfl trivial ?_
          refine Z.ZO.storeA rfl rfl hs rfl rfl (by kernel_rfl) (by simp [Value.oneCell']) (by first | exact SX.at0 | exact SX.at1 | exact SX.at2 | exact SX.at3 | exact SX.at4 | exact SX.at5 | exact Z.at6 | exact Z.at7 | exact Z.at8 | exact Z.at9 | exact Z.at10 | exact Z.at11 | exact Z.at12) (by rfl) ?_
          clear hs; intro ws hs
          simp only [Nat.zero_add, Nat.add_zero, Nat.reduceAdd, Int.reduceToNat, Nat.reduceMul, List.set_cons_zero, List.set_cons_succ, List.setIfInBounds_toArray] at hs
          refine Z.tk (Dn := fun _ => true) (i := 7) (fun _ => ⟨_, hs, by first | (simp; done) | exact fun e he => List.mem_append_right _ he⟩) ?_
          refine Z.tn 8 rfl rfl (by kernel_rfl) rfl trivial ?_
          refine Z.ZO.storeA rfl rfl hs rfl rfl (by kernel_rfl) (by simp [Value.oneCell']) (by first | exact SX.at0 | exact SX.at1 | exact SX.at2 | exact SX.at3 | exact SX.at4 | exact SX.at5 | exact Z.at6 | exact Z.at7 | exact Z.at8 | exact Z.at9 | exact Z.at10 | exact Z.at11 | exact Z.at12) (by rfl) ?_
          clear hs; intro ws hs
          simp only [Nat.zero_add, Nat.add_zero, Nat.reduceAdd, Int.reduceToNat, Nat.reduceMul, List.set_cons_zero, List.set_cons_succ, List.setIfInBounds_toArray] at hs
          refine Z.tk (Dn := fun _ => true) (i := 8) (fun _ => ⟨_, hs, by first | (simp; done) | exact fun e he => List.mem_append_right _ he⟩) ?_
          refine Z.td (by rfl) (by kernel_rfl) ?_
          refine Z.only [0, 1, 2, 3] rfl ?_
          refine Z.nthen ?_
          exact Z.meet (g2, g3) (by refine ⟨?_, ?_, ?_, ?_, trivial⟩ <;> (first | rfl | (refine Z.lookv rfl ?_; simp; done) | (refine Z.lookv rfl ?_; simp; omega))) (by first | exact hs | exact hs.sel [1, 0, 2] (by decide))
      · skip
        refine Z.ZO.alloc rfl rfl (by rfl) Try.zeroValue68 rfl hs ?_
        clear hs; intro g2 w2 hs
        refine Z.tk (Dn := fun _ => true) (i := 5) (fun _ => ⟨_, hs, by first | (simp; done) | exact fun e he => List.mem_append_right _ he⟩) ?_
        refine Z.fork2 2 6 rfl rfl rfl (by kernel_rfl) rfl rfl trivial trivial ?_ ?_
        · skip
          refine Z.ZO.call rfl rfl (by rfl) rfl rfl Try.call34 rfl (group_ok r.group _ hg) ?_
          rintro v1_2 w1_2 ⟨rfl, hy⟩
          replace hs := hs.call hy
          clear hy
          try simp only [List.cons_append, List.nil_append, List.append_nil] at hs
          refine Z.tk (Dn := fun _ => true) (i := 2) (fun _ => ⟨_, hs, by first | (simp; done) | exact fun e he => List.mem_append_right _ he⟩) ?_
          refine Z.tn 6 rfl rfl (by kernel_rfl) rfl trivial ?_
          refine Z.ZO.alloc rfl rfl (by rfl) Try.zeroValue26 rfl hs ?_
          clear hs; intro g3 w3 hs
          refine Z.tk (Dn := fun _ => true) (i := 6) (fun _ => ⟨_, hs, by first | (simp; done) | exact fun e he => List.mem_append_right _ he⟩) ?_
          refine Z.tn 7 rfl rfl (by kernel_rfl) rfl trivial ?_
          refine Z.ZO.storeA rfl rfl hs rfl rfl (by kernel_rfl) (by simp [Value.oneCell']) (by first | exact SX.at0 | exact SX.at1 | exact SX.at2 | exact SX.at3 | exact SX.at4 | exact SX.at5 | exact Z.at6 | exact Z.at7 | exact Z.at8 | exact Z.at9 | exact Z.at10 | exact Z.at11 | exact Z.at12) (by rfl) ?_
          clear hs; intro ws hs
          simp only [Nat.zero_add, Nat.add_zero, Nat.reduceAdd, Int.reduceToNat, Nat.reduceMul, List.set_cons_zero, List.set_cons_succ, List.setIfInBounds_toArray] at hs
          refine Z.tk (Dn := fun _ => true) (i := 7) (fun _ => ⟨_, hs, by first | (simp; done) | exact fun e he => List.mem_append_right _ he⟩) ?_
          refine Z.tn 8 rfl rfl (by kernel_rfl) rfl trivial ?_
          refine Z.ZO.storeA rfl rfl hs rfl rfl (by kernel_rfl) (by simp [Value.oneCell']) (by first | exact SX.at0 | exact SX.at1 | exact SX.at2 | exact SX.at3 | exact SX.at4 | exact SX.at5 | exact Z.at6 | exact Z.at7 | exact Z.at8 | exact Z.at9 | exact Z.at10 | exact Z.at11 | exact Z.at12) (by rfl) ?_
          clear hs; intro ws hs
          simp only [Nat.zero_add, Nat.add_zero, Nat.reduceAdd, Int.reduceToNat, Nat.reduceMul, List.set_cons_zero, List.set_cons_succ, List.setIfInBounds_toArray] at hs
          refine Z.tk (Dn := fun _ => true) (i := 8) (fun _ => ⟨_, hs, by first | (simp; done) | exact fun e he => List.mem_append_right _ he⟩) ?_
          refine Z.td (by rfl) (by kernel_rfl) ?_
          refine Z.only [0, 1, 2, 3] rfl ?_
          refine Z.nthen ?_
          exact Z.meet (g2, g3) (by refine ⟨?_, ?_, ?_, ?_, trivial⟩ <;> (first | rfl | (refine Z.lookv rfl ?_; simp; done) | (refine Z.lookv rfl ?_; simp; omega))) (by first | exact hs | exact hs.sel [1, 0, 2] (by decide))
        · skip
          refine Z.ZO.alloc rfl rfl (by rfl) Try.zeroValue26 rfl hs ?_
          clear hs; intro g3 w3 hs
          refine Z.tk (Dn := fun _ => true) (i := 6) (fun _ => ⟨_, hs, by first | (simp; done) | exact fun e he => List.mem_append_right _ he⟩) ?_
          refine Z.tn 2 rfl rfl (by kernel_rfl) rfl trivial ?_
          refine Z.ZO.call rfl rfl (by rfl) rfl rfl Try.call34 rfl (group_ok r.group _ hg) ?_
          rintro v1_2 w1_2 ⟨rfl, hy⟩
          replace hs := hs.call hy
          clear hy
          try simp only [List.cons_append, List.nil_append, List.append_nil] at hs
          refine Z.tk (Dn := fun _ => true) (i := 2) (fun _ => ⟨_, hs, by first | (simp; done) | exact fun e he => List.mem_append_right _ he⟩) ?_
          refine Z.tn 7 rfl rfl (by kernel_rfl) rfl trivial ?_
          refine Z.ZO.storeA rfl rfl hs rfl rfl (by kernel_rfl) (by simp [Value.oneCell']) (by first | exact SX.at0 | exact SX.at1 | exact SX.at2 | exact SX.at3 | exact SX.at4 | exact SX.at5 | exact Z.at6 | exact Z.at7 | exact Z.at8 | exact Z.at9 | exact Z.at10 | exact Z.at11 | exact Z.at12) (by rfl) ?_
          clear hs; intro ws hs
          simp only [Nat.zero_add, Nat.add_zero, Nat.reduceAdd, Int.reduceToNat, Nat.reduceMul, List.set_cons_zero, List.set_cons_succ, List.setIfInBounds_toArray] at hs
          refine Z.tk (Dn := fun _ => true) (i := 7) (fun _ => ⟨_, hs, by first | (simp; done) | exact fun e he => List.mem_append_right _ he⟩) ?_
          refine Z.tn 8 rfl rfl (by kernel_rfl) rfl trivial ?_
          refine Z.ZO.storeA rfl rfl hs rfl rfl (by kernel_rfl) (by simp [Value.oneCell']) (by first | exact SX.at0 | exact SX.at1 | exact SX.at2 | exact SX.at3 | exact SX.at4 | exact SX.at5 | exact Z.at6 | exact Z.at7 | exact Z.at8 | exact Z.at9 | exact Z.at10 | exact Z.at11 | exact Z.at12) (by rfl) ?_
          clear hs; intro ws hs
          simp only [Nat.zero_add, Nat.add_zero, Nat.reduceAdd, Int.reduceToNat, Nat.reduceMul, List.set_cons_zero, List.set_cons_succ, List.setIfInBounds_toArray] at hs
          refine Z.tk (Dn := fun _ => true) (i := 8) (fun _ => ⟨_, hs, by first | (simp; done) | exact fun e he => List.mem_append_right _ he⟩) ?_
          refine Z.td (by rfl) (by kernel_rfl) ?_
          refine Z.only [0, 1, 2, 3] rfl ?_
          refine Z.nthen ?_
          exact Z.meet (g2, g3) (by refine ⟨?_, ?_, ?_, ?_, trivial⟩ <;> (first | rfl | (refine Z.lookv rfl ?_; simp; done) | (refine Z.lookv rfl ?_; simp; omega))) (by first | exact hs | exact hs.sel [1, 0, 2] (by decide))
      · skip
        refine Z.ZO.alloc rfl rfl (by rfl) Try.zeroValue26 rfl hs ?_
        clear hs; intro g3 w3 hs
        refine Z.tk (Dn := fun _ => true) (i := 6) (fun _ => ⟨_, hs, by first | (simp; done) | exact fun e he => List.mem_append_right _ he⟩) ?_
        refine Z.fork2 2 5 rfl rfl rfl (by kernel_rfl) rfl rfl trivial trivial ?_ ?_
        · skip
          refine Z.ZO.call rfl rfl (by rfl) rfl rfl Try.call34 rfl (group_ok r.group _ hg) ?_
          rintro v1_2 w1_2 ⟨rfl, hy⟩
          replace hs := hs.call hy
          clear hy
          try simp only [List.cons_append, List.nil_append, List.append_nil] at hs
          refine Z.tk (Dn := fun _ => true) (i := 2) (fun _ => ⟨_, hs, by first | (simp; done) | exact fun e he => List.mem_append_right _ he⟩) ?_
          refine Z.tn 5 rfl rfl (by kernel_rfl) rfl trivial ?_
          refine Z.ZO.alloc rfl rfl (by rfl) Try.zeroValue68 rfl hs ?_
          clear hs; intro g2 w2 hs
          refine Z.tk (Dn := fun _ => true) (i := 5) (fun _ => ⟨_, hs, by first | (simp; done) | exact fun e he => List.mem_append_right _ he⟩) ?_
          refine Z.tn 7 rfl rfl (by kernel_rfl) rfl trivial ?_
          refine Z.ZO.storeA rfl rfl hs rfl rfl (by kernel_rfl) (by simp [Value.oneCell']) (by first | exact SX.at0 | exact SX.at1 | exact SX.at2 | exact SX.at3 | exact SX.at4 | exact SX.at5 | exact Z.at6 | exact Z.at7 | exact Z.at8 | exact Z.at9 | exact Z.at10 | exact Z.at11 | exact Z.at12) (by rfl) ?_
          clear hs; intro ws hs
          simp only [Nat.zero_add, Nat.add_zero, Nat.reduceAdd, Int.reduceToNat, Nat.reduceMul, List.set_cons_zero, List.set_cons_succ, List.setIfInBounds_toArray] at hs
          refine Z.tk (Dn := fun _ => true) (i := 7) (fun _ => ⟨_, hs, by first | (simp; done) | exact fun e he => List.mem_append_right _ he⟩) ?_
          refine Z.tn 8 rfl rfl (by kernel_rfl) rfl trivial ?_
          refine Z.ZO.storeA rfl rfl hs rfl rfl (by kernel_rfl) (by simp [Value.oneCell']) (by first | exact SX.at0 | exact SX.at1 | exact SX.at2 | exact SX.at3 | exact SX.at4 | exact SX.at5 | exact Z.at6 | exact Z.at7 | exact Z.at8 | exact Z.at9 | exact Z.at10 | exact Z.at11 | exact Z.at12) (by rfl) ?_
          clear hs; intro ws hs
          simp only [Nat.zero_add, Nat.add_zero, Nat.reduceAdd, Int.reduceToNat, Nat.reduceMul, List.set_cons_zero, List.set_cons_succ, List.setIfInBounds_toArray] at hs
          refine Z.tk (Dn := fun _ => true) (i := 8) (fun _ => ⟨_, hs, by first | (simp; done) | exact fun e he => List.mem_append_right _ he⟩) ?_
          refine Z.td (by rfl) (by kernel_rfl) ?_
          refine Z.only [0, 1, 2, 3] rfl ?_
          refine Z.nthen ?_
          exact Z.meet (g2, g3) (by refine ⟨?_, ?_, ?_, ?_, trivial⟩ <;> (first | rfl | (refine Z.lookv rfl ?_; simp; done) | (refine Z.lookv rfl ?_; simp; omega))) (by first | exact hs | exact hs.sel [1, 0, 2] (by decide))
        · skip
          refine Z.ZO.alloc rfl rfl (by rfl) Try.zeroValue68 rfl hs ?_
          clear hs; intro g2 w2 hs
          refine Z.tk (Dn := fun _ => true) (i := 5) (fun _ => ⟨_, hs, by first | (simp; done) | exact fun e he => List.mem_append_right _ he⟩) ?_
          refine Z.tn 2 rfl rfl (by kernel_rfl) rfl trivial ?_
          refine Z.ZO.call rfl rfl (by rfl) rfl rfl Try.call34 rfl (group_ok r.group _ hg) ?_
          rintro v1_2 w1_2 ⟨rfl, hy⟩
          replace hs := hs.call hy
          clear hy
          try simp only [List.cons_append, List.nil_append, List.append_nil] at hs
          refine Z.tk (Dn := fun _ => true) (i := 2) (fun _ => ⟨_, hs, by first | (simp; done) | exact fun e he => List.mem_append_right _ he⟩) ?_
          refine Z.tn 7 rfl rfl (by kernel_rfl) rfl trivial ?_
          refine Z.ZO.storeA rfl rfl hs rfl rfl (by kernel_rfl) (by simp [Value.oneCell']) (by first | exact SX.at0 | exact SX.at1 | exact SX.at2 | exact SX.at3 | exact SX.at4 | exact SX.at5 | exact Z.at6 | exact Z.at7 | exact Z.at8 | exact Z.at9 | exact Z.at10 | exact Z.at11 | exact Z.at12) (by rfl) ?_
          clear hs; intro ws hs
          simp only [Nat.zero_add, Nat.add_zero, Nat.reduceAdd, Int.reduceToNat, Nat.reduceMul, List.set_cons_zero, List.set_cons_succ, List.setIfInBounds_toArray] at hs
          refine Z.tk (Dn := fun _ => true) (i := 7) (fun _ => ⟨_, hs, by first | (simp; done) | exact fun e he => List.mem_append_right _ he⟩) ?_
          refine Z.tn 8 rfl rfl (by kernel_rfl) rfl trivial ?_
          refine Z.ZO.storeA rfl rfl hs rfl rfl (by kernel_rfl) (by simp [Value.oneCell']) (by first | exact SX.at0 | exact SX.at1 | exact SX.at2 | exact SX.at3 | exact SX.at4 | exact SX.at5 | exact Z.at6 | exact Z.at7 | exact Z.at8 | exact Z.at9 | exact Z.at10 | exact Z.at11 | exact Z.at12) (by rfl) ?_
          clear hs; intro ws hs
          simp only [Nat.zero_add, Nat.add_zero, Nat.reduceAdd, Int.reduceToNat, Nat.reduceMul, List.set_cons_zero, List.set_cons_succ, List.setIfInBounds_toArray] at hs
          refine Z.tk (Dn := fun _ => true) (i := 8) (fun _ => ⟨_, hs, by first | (simp; done) | exact fun e he => List.mem_append_right _ he⟩) ?_
          refine Z.td (by rfl) (by kernel_rfl) ?_
          refine Z.only [0, 1, 2, 3] rfl ?_
          refine Z.nthen ?_
          exact Z.meet (g2, g3) (by refine ⟨?_, ?_, ?_, ?_, trivial⟩ <;> (first | rfl | (refine Z.lookv rfl ?_; simp; done) | (refine Z.lookv rfl ?_; simp; omega))) (by first | exact hs | exact hs.sel [1, 0, 2] (by decide))
    · clear hs
      rintro ⟨g2, g3⟩ w2 hs
      refine Z.only [0, 1, 2, 3] rfl ?_
      (try dsimp only at hs)
      refine Z.seq ?_
      refine Z.seq ?_
      refine Z.region ?_
      refine Z.l rfl rfl (by rfl) (Z.keepS hs) (Z.Yd.fieldA (m := 0) rfl (by kernel_rfl)) ?_
      refine Z.l rfl rfl (by rfl) (Z.keepS hs) (Z.Yd.load rfl Try.isAgg4 (fun _ => Z.cellO hc.1 (by simp) (hc.2 0 _ rfl))) ?_
      refine Z.lnil ?_
      refine Z.only [0, 1, 2, 3, 12] rfl ?_
      refine Z.nthen ?_
      refine Z.cond rfl (fun hc2 => ?_) (fun hc2 => ?_)
      · first
          | (exfalso; simp at hc2 <;> omega)
          | (
            (try simp at hc2)
            refine Z.seq ?_
            refine Z.region ?_
            refine Z.l rfl rfl (by rfl) (Z.keepS hs) (Z.Yd.fieldA (m := 1) rfl (by kernel_rfl)) ?_
            refine Z.l rfl rfl (by rfl) (Z.keepS hs) (Z.Yd.load rfl Try.isAgg3 (fun _ => Z.cellO hc.1 (by simp) (hc.2 1 _ rfl))) ?_
            refine Z.lb 1 rfl ?_
            refine Z.le rfl trivial ?_
            refine Z.ZO.callB rfl rfl (by rfl) rfl rfl Try.call35 rfl (must_any _ 2 _) ?_ ?_
            · skip
              rintro v3_3 w3_3 ⟨hb3, rfl, hy⟩
              replace hs := hs.call hy
              clear hy
              try simp only [List.cons_append, List.nil_append, List.append_nil] at hs
              refine Z.lnil ?_
              refine Z.only [1, 3] rfl ?_
              refine Z.nthen ?_
              refine Z.seq ?_
              refine Z.drawPK (fun j => j != 14) mixed hs ?_
              clear hs; intro wd4 hs
              refine Z.tXP 0 [0, 1, 2, 5, 8, 11, 12, 13, 14] (fun _ _ _ _ _ h => h) rfl rfl rfl (by rfl) (by kernel_rfl) ⟨_, hs, by first | (simp; done) | exact fun e he => List.mem_append_right _ he⟩ (Z.Yd.elemA rfl rfl Try.underlying26 Try.sizeOf3 (fun hG => ⟨(by first | omega | (have hG' := Z.gh rfl hG; simp at hG'; omega)), (by first | omega | (have hG' := Z.gh rfl hG; simp at hG'; omega))⟩)) ?_
              refine Z.tXP 1 [1, 2, 5, 8, 11, 12, 13, 14] (fun _ _ _ _ _ h => h) rfl rfl rfl (by rfl) (by kernel_rfl) ⟨_, hs, by first | (simp; done) | exact fun e he => List.mem_append_right _ he⟩ (by first | exact Z.Yd.load rfl Try.isAgg3 (fun _ => Z.cellB (by first | ((repeat (first | exact List.mem_cons_self | refine List.mem_cons_of_mem _ ?_ | refine List.mem_append_right _ ?_)); done) | fail) rfl) | exact Z.Yd.load rfl Try.isAgg3 (fun hG => Z.cellR (by first | ((repeat (first | exact List.mem_cons_self | refine List.mem_cons_of_mem _ ?_ | refine List.mem_append_right _ ?_)); done) | fail) (Z.ints_at (by first | omega | (have hG' := Z.gh rfl hG; simp at hG'; omega)) (by first | omega | (have hG' := Z.gh rfl hG; simp at hG'; omega)))) | exact Z.Yd.load rfl Try.isAgg3 (fun hG => Z.cellXi (by assumption) (by first | omega | (have hG' := Z.gh rfl hG; simp at hG'; omega)) (by first | omega | (have hG' := Z.gh rfl hG; simp at hG'; omega))) | exact Z.Yd.load rfl Try.isAgg3 (fun hG => Z.cellS (by assumption) rfl (by first | omega | (have hG' := Z.gh rfl hG; simp at hG'; omega)) (by first | omega | (have hG' := Z.gh rfl hG; simp at hG'; omega))) | fail "load 4.1") ?_
              refine Z.tXP 3 [3, 4, 5, 8, 11, 12, 13, 14] (fun _ _ _ _ _ h => h) rfl rfl rfl (by rfl) (by kernel_rfl) ⟨_, hs, by first | (simp; done) | exact fun e he => List.mem_append_right _ he⟩ (Z.Yd.elemA rfl rfl Try.underlying26 Try.sizeOf3 (fun hG => ⟨(by first | omega | (have hG' := Z.gh rfl hG; simp at hG'; omega)), (by first | omega | (have hG' := Z.gh rfl hG; simp at hG'; omega))⟩)) ?_
              refine Z.tXP 4 [4, 5, 8, 11, 12, 13, 14] (fun _ _ _ _ _ h => h) rfl rfl rfl (by rfl) (by kernel_rfl) ⟨_, hs, by first | (simp; done) | exact fun e he => List.mem_append_right _ he⟩ (by first | exact Z.Yd.load rfl Try.isAgg3 (fun _ => Z.cellB (by first | ((repeat (first | exact List.mem_cons_self | refine List.mem_cons_of_mem _ ?_ | refine List.mem_append_right _ ?_)); done) | fail) rfl) | exact Z.Yd.load rfl Try.isAgg3 (fun hG => Z.cellR (by first | ((repeat (first | exact List.mem_cons_self | refine List.mem_cons_of_mem _ ?_ | refine List.mem_append_right _ ?_)); done) | fail) (Z.ints_at (by first | omega | (have hG' := Z.gh rfl hG; simp at hG'; omega)) (by first | omega | (have hG' := Z.gh rfl hG; simp at hG'; omega)))) | exact Z.Yd.load rfl Try.isAgg3 (fun hG => Z.cellXi (by assumption) (by first | omega | (have hG' := Z.gh rfl hG; simp at hG'; omega)) (by first | omega | (have hG' := Z.gh rfl hG; simp at hG'; omega))) | exact Z.Yd.load rfl Try.isAgg3 (fun hG => Z.cellS (by assumption) rfl (by first | omega | (have hG' := Z.gh rfl hG; simp at hG'; omega)) (by first | omega | (have hG' := Z.gh rfl hG; simp at hG'; omega))) | fail "load 4.4") ?_
              refine Z.tXP 6 [6, 7, 8, 11, 12, 13, 14] (fun _ _ _ _ _ h => h) rfl rfl rfl (by rfl) (by kernel_rfl) ⟨_, hs, by first | (simp; done) | exact fun e he => List.mem_append_right _ he⟩ (Z.Yd.elemA rfl rfl Try.underlying26 Try.sizeOf3 (fun hG => ⟨(by first | omega | (have hG' := Z.gh rfl hG; simp at hG'; omega)), (by first | omega | (have hG' := Z.gh rfl hG; simp at hG'; omega))⟩)) ?_
              refine Z.tXP 7 [7, 8, 11, 12, 13, 14] (fun _ _ _ _ _ h => h) rfl rfl rfl (by rfl) (by kernel_rfl) ⟨_, hs, by first | (simp; done) | exact fun e he => List.mem_append_right _ he⟩ (by first | exact Z.Yd.load rfl Try.isAgg3 (fun _ => Z.cellB (by first | ((repeat (first | exact List.mem_cons_self | refine List.mem_cons_of_mem _ ?_ | refine List.mem_append_right _ ?_)); done) | fail) rfl) | exact Z.Yd.load rfl Try.isAgg3 (fun hG => Z.cellR (by first | ((repeat (first | exact List.mem_cons_self | refine List.mem_cons_of_mem _ ?_ | refine List.mem_append_right _ ?_)); done) | fail) (Z.ints_at (by first | omega | (have hG' := Z.gh rfl hG; simp at hG'; omega)) (by first | omega | (have hG' := Z.gh rfl hG; simp at hG'; omega)))) | exact Z.Yd.load rfl Try.isAgg3 (fun hG => Z.cellXi (by assumption) (by first | omega | (have hG' := Z.gh rfl hG; simp at hG'; omega)) (by first | omega | (have hG' := Z.gh rfl hG; simp at hG'; omega))) | exact Z.Yd.load rfl Try.isAgg3 (fun hG => Z.cellS (by assumption) rfl (by first | omega | (have hG' := Z.gh rfl hG; simp at hG'; omega)) (by first | omega | (have hG' := Z.gh rfl hG; simp at hG'; omega))) | fail "load 4.7") ?_
              refine Z.tXP 9 [9, 10, 11, 12, 13, 14] (fun _ _ _ _ _ h => h) rfl rfl rfl (by rfl) (by kernel_rfl) ⟨_, hs, by first | (simp; done) | exact fun e he => List.mem_append_right _ he⟩ (Z.Yd.elemA rfl rfl Try.underlying26 Try.sizeOf3 (fun hG => ⟨(by first | omega | (have hG' := Z.gh rfl hG; simp at hG'; omega)), (by first | omega | (have hG' := Z.gh rfl hG; simp at hG'; omega))⟩)) ?_
              refine Z.tXP 10 [10, 11, 12, 13, 14] (fun _ _ _ _ _ h => h) rfl rfl rfl (by rfl) (by kernel_rfl) ⟨_, hs, by first | (simp; done) | exact fun e he => List.mem_append_right _ he⟩ (by first | exact Z.Yd.load rfl Try.isAgg3 (fun _ => Z.cellB (by first | ((repeat (first | exact List.mem_cons_self | refine List.mem_cons_of_mem _ ?_ | refine List.mem_append_right _ ?_)); done) | fail) rfl) | exact Z.Yd.load rfl Try.isAgg3 (fun hG => Z.cellR (by first | ((repeat (first | exact List.mem_cons_self | refine List.mem_cons_of_mem _ ?_ | refine List.mem_append_right _ ?_)); done) | fail) (Z.ints_at (by first | omega | (have hG' := Z.gh rfl hG; simp at hG'; omega)) (by first | omega | (have hG' := Z.gh rfl hG; simp at hG'; omega)))) | exact Z.Yd.load rfl Try.isAgg3 (fun hG => Z.cellXi (by assumption) (by first | omega | (have hG' := Z.gh rfl hG; simp at hG'; omega)) (by first | omega | (have hG' := Z.gh rfl hG; simp at hG'; omega))) | exact Z.Yd.load rfl Try.isAgg3 (fun hG => Z.cellS (by assumption) rfl (by first | omega | (have hG' := Z.gh rfl hG; simp at hG'; omega)) (by first | omega | (have hG' := Z.gh rfl hG; simp at hG'; omega))) | fail "load 4.10") ?_
              refine Z.tnP 2 rfl rfl (by kernel_rfl) rfl trivial ?_
              refine Z.ZO.callB rfl rfl (by rfl) rfl rfl Try.call37 rfl (level_any _ _) ?_ ?_
              · skip
                rintro v4_2 w4_2 ⟨hb4, rfl, hy⟩
                replace hs := hs.call hy
                clear hy
                try simp only [List.cons_append, List.nil_append, List.append_nil] at hs
                refine Z.tkP (Dn := fun j => j != 14) (i := 2) (fun _ => ⟨_, hs, by first | (simp; done) | exact fun e he => List.mem_append_right _ he⟩) ?_
                refine Z.tnP 5 rfl rfl (by kernel_rfl) rfl trivial ?_
                refine Z.ZO.callB rfl rfl (by rfl) rfl rfl Try.call37 rfl (level_any _ _) ?_ ?_
                · skip
                  rintro v4_5 w4_5 ⟨hb5, rfl, hy⟩
                  replace hs := hs.call hy
                  clear hy
                  try simp only [List.cons_append, List.nil_append, List.append_nil] at hs
                  refine Z.tkP (Dn := fun j => j != 14) (i := 5) (fun _ => ⟨_, hs, by first | (simp; done) | exact fun e he => List.mem_append_right _ he⟩) ?_
                  refine Z.tnP 8 rfl rfl (by kernel_rfl) rfl trivial ?_
                  refine Z.ZO.callB rfl rfl (by rfl) rfl rfl Try.call37 rfl (level_any _ _) ?_ ?_
                  · skip
                    rintro v4_8 w4_8 ⟨hb6, rfl, hy⟩
                    replace hs := hs.call hy
                    clear hy
                    try simp only [List.cons_append, List.nil_append, List.append_nil] at hs
                    refine Z.tkP (Dn := fun j => j != 14) (i := 8) (fun _ => ⟨_, hs, by first | (simp; done) | exact fun e he => List.mem_append_right _ he⟩) ?_
                    refine Z.tnP 11 rfl rfl (by kernel_rfl) rfl trivial ?_
                    refine Z.ZO.callB rfl rfl (by rfl) rfl rfl Try.call37 rfl (level_any _ _) ?_ ?_
                    · skip
                      rintro v4_11 w4_11 ⟨hb7, rfl, hy⟩
                      replace hs := hs.call hy
                      clear hy
                      try simp only [List.cons_append, List.nil_append, List.append_nil] at hs
                      refine Z.tkP (Dn := fun j => j != 14) (i := 11) (fun _ => ⟨_, hs, by first | (simp; done) | exact fun e he => List.mem_append_right _ he⟩) ?_
                      exact absurd ⟨hg, by rw [if_pos hc2]; exact ⟨by simpa using hb3, hb4, hb5, hb6, hb7⟩⟩ hr
                    · skip
                      rintro c4_11 w4_11 ⟨hb7, rfl, hy⟩
                      replace hs := hs.call hy
                      clear hy
                      try simp only [List.cons_append, List.nil_append, List.append_nil] at hs
                      repeat (first | refine Z.pthen ?_ | refine Z.pblock ?_ | refine Z.pscope ?_)
                      -- ret#0
                      refine Z.outp ?_
                      exact ⟨_, rfl, rfl, hs.sub (List.nil_sublist _)⟩
                  · skip
                    rintro c4_8 w4_8 ⟨hb6, rfl, hy⟩
                    replace hs := hs.call hy
                    clear hy
                    try simp only [List.cons_append, List.nil_append, List.append_nil] at hs
                    repeat (first | refine Z.pthen ?_ | refine Z.pblock ?_ | refine Z.pscope ?_)
                    -- ret#1
                    refine Z.outp ?_
                    exact ⟨_, rfl, rfl, hs.sub (List.nil_sublist _)⟩
                · skip
                  rintro c4_5 w4_5 ⟨hb5, rfl, hy⟩
                  replace hs := hs.call hy
                  clear hy
                  try simp only [List.cons_append, List.nil_append, List.append_nil] at hs
                  repeat (first | refine Z.pthen ?_ | refine Z.pblock ?_ | refine Z.pscope ?_)
                  -- ret#2
                  refine Z.outp ?_
                  exact ⟨_, rfl, rfl, hs.sub (List.nil_sublist _)⟩
              · skip
                rintro c4_2 w4_2 ⟨hb4, rfl, hy⟩
                replace hs := hs.call hy
                clear hy
                try simp only [List.cons_append, List.nil_append, List.append_nil] at hs
                repeat (first | refine Z.pthen ?_ | refine Z.pblock ?_ | refine Z.pscope ?_)
                -- ret#3
                refine Z.outp ?_
                exact ⟨_, rfl, rfl, hs.sub (List.nil_sublist _)⟩
            · skip
              rintro c3_3 w3_3 ⟨hb3, rfl, hy⟩
              replace hs := hs.call hy
              clear hy
              try simp only [List.cons_append, List.nil_append, List.append_nil] at hs
              repeat (first | refine Z.pthen ?_ | refine Z.pblock ?_ | refine Z.pscope ?_)
              -- ret#4
              refine Z.outp ?_
              exact ⟨_, rfl, rfl, hs.sub (List.nil_sublist _)⟩
            )
      · first
          | (exfalso; simp at hc2 <;> omega)
          | (
            (try simp at hc2)
            refine Z.skip ?_
            refine Z.nthen ?_
            refine Z.seq ?_
            refine Z.seq ?_
            refine Z.region ?_
            refine Z.l rfl rfl (by rfl) (Z.keepS hs) (by first | exact Z.Yd.loadA _ rfl Try.isAgg26 (fun _ => Z.cellsB (by first | ((repeat (first | exact List.mem_cons_self | refine List.mem_cons_of_mem _ ?_ | refine List.mem_append_right _ ?_)); done) | fail)) (by exact Try.sizeOf26) | fail "load 5.0") ?_
            refine Z.lb 1 rfl ?_
            refine Z.lnil ?_
            refine Z.only [0, 1, 2, 3, 31, 32] rfl ?_
            refine Z.nthen ?_
            refine Z.block ?_
            refine Z.loopk (ι := Nat) [0, 1, 2, 3, 31] rfl (fun k => [(32, [], .int .i64 (k : Int))]) (fun k wr => (k ≤ 4 ∧ ∀ j : Nat, j < k → r.lv j = 0 ∨ (j : Int) = r.group) ∧ SX.St w [] wr [SX.Ent.blk g3 26 r.lvs.toArray, SX.Ent.blk g2 68 #[.int .u64 r.group, .int .i64 2], SX.Ent.blk g1 31 #[.int .i64 0, .slice none 0 0]]) (fun k => 4 - k) 0 (by refine ⟨?_, trivial⟩ <;> (first | rfl | (refine Z.lookv rfl ?_; simp; done) | (refine Z.lookv rfl ?_; simp; omega))) ⟨⟨by omega, fun j hj => by omega⟩, hs⟩ ?_
            clear hs
            rintro k w3 ⟨⟨hk, hj⟩, hs⟩
            refine Z.only [0, 1, 2, 3, 31, 32] rfl ?_
            refine Z.seq ?_
            refine Z.region ?_
            refine Z.lb 1 rfl ?_
            refine Z.lnil ?_
            refine Z.only [0, 1, 2, 3, 31, 32, 33] rfl ?_
            refine Z.nthen ?_
            refine Z.seq ?_
            refine Z.cond rfl (fun hc6 => ?_) (fun hc6 => ?_)
            · first
                | (exfalso; simp at hc6 <;> omega)
                | (
                  (try simp at hc6)
                  have hgk := lvs_get r k (by omega)
                  refine Z.skip ?_
                  refine Z.nthen ?_
                  refine Z.seq ?_
                  refine Z.block ?_
                  refine Z.seq ?_
                  refine Z.region ?_
                  refine Z.lb 1 rfl ?_
                  refine Z.l rfl rfl (by rfl) (Z.keepS hs) (Z.Yd.idx1 rfl rfl Try.underlying26 Try.sizeOf3 Try.isAgg3 (fun _ => ⟨by omega, by omega, hgk⟩)) ?_
                  refine Z.lb 2 rfl ?_
                  refine Z.lnil ?_
                  refine Z.only [0, 1, 2, 3, 4, 5, 31, 32] rfl ?_
                  refine Z.nthen ?_
                  refine Z.region ?_
                  refine Z.lb 4 rfl ?_
                  refine Z.l rfl rfl (by rfl) (Z.keepS hs) (Z.Yd.fieldA (m := 1) rfl (by kernel_rfl)) ?_
                  refine Z.l rfl rfl (by rfl) (Z.keepS hs) (Z.Yd.load rfl Try.isAgg3 (fun _ => Z.cellO hc.1 (by simp) (hc.2 1 _ rfl))) ?_
                  refine Z.lb 2 rfl ?_
                  refine Z.le rfl trivial ?_
                  refine Z.ZO.callB rfl rfl (by rfl) rfl rfl Try.call35 rfl (must_any _ 2 _) ?_ ?_
                  · skip
                    rintro v8_8 w8_8 ⟨hb8, rfl, hy⟩
                    replace hs := hs.call hy
                    clear hy
                    try simp only [List.cons_append, List.nil_append, List.append_nil] at hs
                    refine Z.lnil ?_
                    refine Z.only [0, 1, 2, 3, 31, 32] rfl ?_
                    refine Z.nblock ?_
                    refine Z.nthen ?_
                    refine Z.region ?_
                    refine Z.l rfl rfl (by rfl) (Z.keepS hs) (Z.Yd.add rfl rfl (fun hG => Z.wi64 (by first | omega | (have hG' := Z.gh rfl hG; simp at hG'; omega)))) ?_
                    refine Z.lb 1 rfl ?_
                    refine Z.lnil ?_
                    refine Z.only [0, 1, 2, 3, 31, 32] rfl ?_
                    refine Z.nthen ?_
                    simp only [Bool.or_eq_true, beq_iff_eq, decide_eq_true_eq] at hb8
                    exact Z.again (k + 1) (by refine ⟨?_, ?_, ?_, ?_, ?_, ?_, trivial⟩ <;> (first | rfl | (refine Z.lookv rfl ?_; simp; done) | (refine Z.lookv rfl ?_; simp; omega))) ⟨⟨by omega, fun j hjk => by
                      by_cases e : j = k
                      · subst e; exact hb8
                      · exact hj j (by omega)⟩, hs⟩ (by omega)
                  · skip
                    rintro c8_8 w8_8 ⟨hb8, rfl, hy⟩
                    replace hs := hs.call hy
                    clear hy
                    try simp only [List.cons_append, List.nil_append, List.append_nil] at hs
                    repeat (first | refine Z.pthen ?_ | refine Z.pblock ?_ | refine Z.pscope ?_)
                    -- ret#5
                    refine Z.outp ?_
                    exact ⟨_, rfl, rfl, hs.sub (List.nil_sublist _)⟩
                  )
            · first
                | (exfalso; simp at hc6 <;> omega)
                | (
                  (try simp at hc6)
                  refine Z.exit ?_
                  refine Z.xthen ?_
                  refine Z.xthen ?_
                  refine Z.xblock ?_
                  refine Z.nthen ?_
                  refine Z.seq ?_
                  refine Z.drawPK (fun j => j != 8) mixed hs ?_
                  clear hs; intro wd10 hs
                  obtain rfl : k = 4 := by omega
                  refine Z.tXP 0 [0, 6, 7, 8] (fun _ _ _ _ _ h => h) rfl rfl rfl (by rfl) (by kernel_rfl) ⟨_, hs, by first | (simp; done) | exact fun e he => List.mem_append_right _ he⟩ (by first | exact Z.Yd.loadA _ rfl Try.isAgg68 (fun _ => Z.cellsB (by first | ((repeat (first | exact List.mem_cons_self | refine List.mem_cons_of_mem _ ?_ | refine List.mem_append_right _ ?_)); done) | fail)) (by exact Try.sizeOf68) | fail "load 10.0") ?_
                  refine Z.tXP 1 [1, 2, 3, 4, 5, 6, 7, 8] (fun _ _ _ _ _ h => h) rfl rfl rfl (by rfl) (by kernel_rfl) ⟨_, hs, by first | (simp; done) | exact fun e he => List.mem_append_right _ he⟩ (Z.Yd.fieldA (m := 1) rfl (by kernel_rfl)) ?_
                  refine Z.tXP 2 [2, 3, 4, 5, 6, 7, 8] (fun _ _ _ _ _ h => h) rfl rfl rfl (by rfl) (by kernel_rfl) ⟨_, hs, by first | (simp; done) | exact fun e he => List.mem_append_right _ he⟩ (Z.Yd.load rfl Try.isAgg3 (fun _ => Z.cellO hc.1 (by simp) (hc.2 1 _ rfl))) ?_
                  refine Z.tXP 3 [3, 4, 5, 6, 7, 8] (fun _ _ _ _ _ h => h) rfl rfl rfl (by rfl) (by kernel_rfl) ⟨_, hs, by first | (simp; done) | exact fun e he => List.mem_append_right _ he⟩ (Z.Yd.elemA rfl rfl Try.underlying26 Try.sizeOf3 (fun hG => ⟨(by first | omega | (have hG' := Z.gh rfl hG; simp at hG'; omega)), (by first | omega | (have hG' := Z.gh rfl hG; simp at hG'; omega))⟩)) ?_
                  refine Z.tXP 4 [4, 5, 6, 7, 8] (fun _ _ _ _ _ h => h) rfl rfl rfl (by rfl) (by kernel_rfl) ⟨_, hs, by first | (simp; done) | exact fun e he => List.mem_append_right _ he⟩ (Z.Yd.load rfl Try.isAgg3 (fun _ => Z.cellB (cs := r.lvs.toArray) (by first | ((repeat (first | exact List.mem_cons_self | refine List.mem_cons_of_mem _ ?_ | refine List.mem_append_right _ ?_)); done) | fail) hget)) ?_
                  refine Z.tnP 5 rfl rfl (by kernel_rfl) rfl trivial ?_
                  refine Z.ZO.callP rfl rfl rfl Try.call37 rfl (level_bad _ _ (fun h ↦ hr ⟨hg, by rw [if_neg (by simp [hc2])]; exact ⟨hj, h⟩⟩)) ?_
                  rintro c10_5 w10_5 ⟨rfl, hy⟩
                  replace hs := hs.call hy
                  clear hy
                  try simp only [List.cons_append, List.nil_append, List.append_nil] at hs
                  repeat (first | refine Z.pthen ?_ | refine Z.pblock ?_ | refine Z.pscope ?_)
                  -- ret#6
                  refine Z.outp ?_
                  exact ⟨_, rfl, rfl, hs.sub (List.nil_sublist _)⟩
                  )
            )
  · skip
    refine Z.enter Try.func33 rfl Try.ntmps33 rfl rfl ?_
    refine Z.seq ?_
    refine Z.region ?_
    refine Z.le rfl trivial ?_
    refine Z.ZO.alloc rfl rfl (by rfl) Try.zeroValue31 rfl hs ?_
    clear hs; intro g1 w1 hs
    refine Z.lnil ?_
    refine Z.only [0, 1] rfl ?_
    refine Z.nthen ?_
    refine Z.seq ?_
    refine Z.drawPK (fun _ => true) mixed hs ?_
    clear hs; intro wd1 hs
    refine Z.tXP 0 [0, 1, 2, 7, 8] (fun _ _ _ _ _ h => h) rfl rfl rfl (by rfl) (by kernel_rfl) ⟨_, hs, by first | (simp; done) | exact fun e he => List.mem_append_right _ he⟩ (Z.Yd.fieldA (m := 1) rfl (by kernel_rfl)) ?_
    refine Z.tXP 1 [1, 2, 7, 8] (fun _ _ _ _ _ h => h) rfl rfl rfl (by rfl) (by kernel_rfl) ⟨_, hs, by first | (simp; done) | exact fun e he => List.mem_append_right _ he⟩ (Z.Yd.load rfl Try.isAgg3 (fun _ => Z.cellO hc.1 (by simp) (hc.2 1 _ rfl))) ?_
    refine Z.tXP 3 [3, 4, 8] (fun _ _ _ _ _ h => h) rfl rfl rfl (by rfl) (by kernel_rfl) ⟨_, hs, by first | (simp; done) | exact fun e he => List.mem_append_right _ he⟩ (Z.Yd.fieldA (m := 2) rfl (by kernel_rfl)) ?_
    refine Z.tXP 4 [4, 8] (fun _ _ _ _ _ h => h) rfl rfl rfl (by rfl) (by kernel_rfl) ⟨_, hs, by first | (simp; done) | exact fun e he => List.mem_append_right _ he⟩ (Z.Yd.loadA _ rfl Try.isAgg26 (fun _ w' hk j u hu => Z.cellO hc.1 (by simp) (Cel.lvs hc j u hu) w' hk) (by exact Try.sizeOf26)) ?_
    refine Z.forkP [2, 5, 6] rfl (by kernel_rfl) rfl ⟨⟨_, _, rfl, rfl, trivial, ?_⟩, ⟨_, _, rfl, rfl, trivial, ?_⟩, ⟨_, _, rfl, rfl, trivial, ?_⟩, trivial⟩
    · skip
      refine Z.ZO.callP rfl rfl rfl Try.call34 rfl (group_bad r.group _ hg) ?_
      rintro c1_2 w1_2 ⟨rfl, hy⟩
      replace hs := hs.call hy
      clear hy
      try simp only [List.cons_append, List.nil_append, List.append_nil] at hs
      repeat (first | refine Z.pthen ?_ | refine Z.pblock ?_ | refine Z.pscope ?_)
      -- ret#0
      refine Z.outp ?_
      exact ⟨_, rfl, rfl, hs.sub (List.nil_sublist _)⟩
    · skip
      refine Z.ZO.alloc rfl rfl (by rfl) Try.zeroValue68 rfl hs ?_
      clear hs; intro g2 w2 hs
      refine Z.tkP (Dn := fun _ => true) (i := 5) (fun _ => ⟨_, hs, by first | (simp; done) | exact fun e he => List.mem_append_right _ he⟩) ?_
      refine Z.forkP [2, 6] rfl (by kernel_rfl) rfl ⟨⟨_, _, rfl, rfl, trivial, ?_⟩, ⟨_, _, rfl, rfl, trivial, ?_⟩, trivial⟩
      · skip
        refine Z.ZO.callP rfl rfl rfl Try.call34 rfl (group_bad r.group _ hg) ?_
        rintro c1_2 w1_2 ⟨rfl, hy⟩
        replace hs := hs.call hy
        clear hy
        try simp only [List.cons_append, List.nil_append, List.append_nil] at hs
        repeat (first | refine Z.pthen ?_ | refine Z.pblock ?_ | refine Z.pscope ?_)
        -- ret#1
        refine Z.outp ?_
        exact ⟨_, rfl, rfl, hs.sub (List.nil_sublist _)⟩
      · skip
        refine Z.ZO.alloc rfl rfl (by rfl) Try.zeroValue26 rfl hs ?_
        clear hs; intro g3 w3 hs
        refine Z.tkP (Dn := fun _ => true) (i := 6) (fun _ => ⟨_, hs, by first | (simp; done) | exact fun e he => List.mem_append_right _ he⟩) ?_
        refine Z.tnP 2 rfl rfl (by kernel_rfl) rfl trivial ?_
        refine Z.ZO.callP rfl rfl rfl Try.call34 rfl (group_bad r.group _ hg) ?_
        rintro c1_2 w1_2 ⟨rfl, hy⟩
        replace hs := hs.call hy
        clear hy
        try simp only [List.cons_append, List.nil_append, List.append_nil] at hs
        repeat (first | refine Z.pthen ?_ | refine Z.pblock ?_ | refine Z.pscope ?_)
        -- ret#2
        refine Z.outp ?_
        exact ⟨_, rfl, rfl, hs.sub (List.nil_sublist _)⟩
    · skip
      refine Z.ZO.alloc rfl rfl (by rfl) Try.zeroValue26 rfl hs ?_
      clear hs; intro g3 w3 hs
      refine Z.tkP (Dn := fun _ => true) (i := 6) (fun _ => ⟨_, hs, by first | (simp; done) | exact fun e he => List.mem_append_right _ he⟩) ?_
      refine Z.forkP [2, 5] rfl (by kernel_rfl) rfl ⟨⟨_, _, rfl, rfl, trivial, ?_⟩, ⟨_, _, rfl, rfl, trivial, ?_⟩, trivial⟩
      · skip
        refine Z.ZO.callP rfl rfl rfl Try.call34 rfl (group_bad r.group _ hg) ?_
        rintro c1_2 w1_2 ⟨rfl, hy⟩
        replace hs := hs.call hy
        clear hy
        try simp only [List.cons_append, List.nil_append, List.append_nil] at hs
        repeat (first | refine Z.pthen ?_ | refine Z.pblock ?_ | refine Z.pscope ?_)
        -- ret#3
        refine Z.outp ?_
        exact ⟨_, rfl, rfl, hs.sub (List.nil_sublist _)⟩
      · skip
        refine Z.ZO.alloc rfl rfl (by rfl) Try.zeroValue68 rfl hs ?_
        clear hs; intro g2 w2 hs
        refine Z.tkP (Dn := fun _ => true) (i := 5) (fun _ => ⟨_, hs, by first | (simp; done) | exact fun e he => List.mem_append_right _ he⟩) ?_
        refine Z.tnP 2 rfl rfl (by kernel_rfl) rfl trivial ?_
        refine Z.ZO.callP rfl rfl rfl Try.call34 rfl (group_bad r.group _ hg) ?_
        rintro c1_2 w1_2 ⟨rfl, hy⟩
        replace hs := hs.call hy
        clear hy
        try simp only [List.cons_append, List.nil_append, List.append_nil] at hs
        repeat (first | refine Z.pthen ?_ | refine Z.pblock ?_ | refine Z.pscope ?_)
        -- ret#4
        refine Z.outp ?_
        exact ⟨_, rfl, rfl, hs.sub (List.nil_sublist _)⟩
end Go.Proofs.Yteabcdmgklhijaa

/- Control elements: levels and limits. -/
namespace Go.Proofs.Yteabcdmgklhijaa
open Go.RowKit
set_option linter.unusedSimpArgs false
set_option linter.unusedVariables false
--newlaws

/-- the limit of a level -/
def lim : Nat → Int
  | 0 => 0
  | 1 => 10
  | k + 2 => lim (k + 1) + max 2 (lim (k + 1) / 6)
theorem lim_succ (k : Nat) (h : 1 ≤ k) : lim (k + 1) = lim k + max 2 (lim k / 6) := by
  obtain ⟨j, rfl⟩ : ∃ j, k = j + 1 := ⟨k - 1, by omega⟩
  rfl
theorem lim_mono1 (k : Nat) : lim k < lim (k + 1) := by
  by_cases h : 1 ≤ k
  · rw [lim_succ k h]; omega
  · obtain rfl : k = 0 := by omega
    decide
theorem lim_mono {i j : Nat} (h : i ≤ j) : lim i ≤ lim j := by
  induction h with
  | refl => exact Int.le_refl _
  | step h ih => exact Int.le_trans ih (Int.le_of_lt (lim_mono1 _))
theorem lim62 : lim 62 = 144752 ∨ True := .inr trivial
theorem lim_bd {k : Nat} (h : k ≤ 62) : 0 ≤ lim k ∧ lim k ≤ 1000000 := by
  have h0 : lim 0 ≤ lim k := lim_mono (Nat.zero_le k)
  have h1 : lim k ≤ lim 62 := lim_mono h
  have h2 : lim 62 ≤ 1000000 := by decide +kernel
  have h3 : lim 0 = 0 := rfl
  omega
/-- the first k limits, in 63 cells -/
def lmI (k : Nat) : List Int := (List.range 63).map fun j => if j < k then lim j else 0
def lmC (k : Nat) : List Value := ints .i64 (lmI k)
@[simp] theorem lmC_len (k : Nat) : (lmC k).length = 63 := by simp [lmC, lmI, ints]
theorem lmI_get {k j : Nat} (hj : j < 63) (hk : j < k) : (lmI k)[j]? = some (lim j) := by simp [lmI, hj, hk]
theorem lmC_get {k j : Nat} (hj : j < 63) (hk : j < k) : (lmC k)[j]? = some (.int .i64 (lim j)) := by simp [lmC, ints, lmI_get hj hk]
theorem lmC_set {k : Nat} (hk : k < 63) : (lmC k).set k (.int .i64 (lim k)) = lmC (k + 1) := by
  apply List.ext_getElem?
  intro i
  rw [List.getElem?_set]
  simp only [lmC, lmI, ints, List.getElem?_map, List.length_map, List.length_range]
  by_cases h : k = i
  · subst h
    rw [if_pos rfl, if_pos hk, List.getElem?_range hk]
    simp
  · rw [if_neg h]
    by_cases hi : i < 63
    · rw [List.getElem?_range hi]
      simp only [Option.map_some, Option.some.injEq, Value.int.injEq, true_and]
      by_cases h2 : i < k
      · rw [if_pos h2, if_pos (by omega)]
      · rw [if_neg h2, if_neg (by omega)]
    · rw [List.getElem?_eq_none (by simpa using hi)]
      rfl
theorem lmC_one : ∀ (k : Nat), ∀ x ∈ lmC k, x.oneCell' = true := fun k => Z.ints_one
set_option maxRecDepth 100000 in
theorem limits_any (w : World) : Calls Try.prog 43 #[] w (SX.Ret fun v w' => v = .agg (lmC 63).toArray ∧ SX.St w [] w' []) := by
  have hs := SX.St.start w
  refine Z.enter Try.func43 rfl Try.ntmps43 rfl rfl ?_
  refine Z.seq ?_
  refine Z.region ?_
  refine Z.le rfl trivial ?_
  refine Z.ZO.alloc rfl rfl (by rfl) Try.zeroValue73 rfl hs ?_
  clear hs; intro g0 w0 hs
  refine Z.lnil ?_
  refine Z.only [0] rfl ?_
  refine Z.nthen ?_
  refine Z.seq ?_
  refine Z.region ?_
  refine Z.l rfl rfl (by rfl) (Z.keepS hs) (Z.Yd.elemA rfl rfl Try.underlying73 Try.sizeOf3 (fun hG => ⟨(by first | omega | (have hG' := Z.gh rfl hG; simp at hG'; omega)), (by first | omega | (have hG' := Z.gh rfl hG; simp at hG'; omega))⟩)) ?_
  refine Z.le rfl trivial ?_
  first | refine Z.ZO.store rfl rfl hs Try.sizeOf3 rfl rfl rfl (by first | exact SX.at0 | exact SX.at1 | exact SX.at2 | exact SX.at3 | exact SX.at4 | exact SX.at5 | exact Z.at6 | exact Z.at7 | exact Z.at8 | exact Z.at9 | exact Z.at10 | exact Z.at11 | exact Z.at12) (by first | (simp; done) | (simp; omega)) ?_ | refine Z.ZO.storeR rfl rfl hs Try.sizeOf3 rfl rfl rfl (by first | exact SX.at0 | exact SX.at1 | exact SX.at2 | exact SX.at3 | exact SX.at4 | exact SX.at5 | exact Z.at6 | exact Z.at7 | exact Z.at8 | exact Z.at9 | exact Z.at10 | exact Z.at11 | exact Z.at12) (by first | omega | (simp [ints_length]; done) | (simp [ints_length]; omega)) ?_
  clear hs; intro ws hs
  simp only [Nat.zero_add, Nat.add_zero, Nat.reduceAdd, Int.reduceToNat, Nat.reduceMul, List.set_cons_zero, List.set_cons_succ, List.setIfInBounds_toArray] at hs
  refine Z.lnil ?_
  refine Z.only [0] rfl ?_
  refine Z.nthen ?_
  refine Z.seq ?_
  refine Z.seq ?_
  refine Z.region ?_
  replace hs : SX.St w [] _ [SX.Ent.blk g0 73 (lmC 2).toArray] := hs
  refine Z.l rfl rfl (by rfl) (Z.keepS hs) (Z.Yd.pure rfl) ?_
  refine Z.lnil ?_
  refine Z.only [0, 1] rfl ?_
  refine Z.nthen ?_
  refine Z.block ?_
  refine Z.loopk (ι := Nat) [0] rfl (fun k => [(1, [], .int .i64 (k : Int))]) (fun k wr => (2 ≤ k ∧ k ≤ 63) ∧ SX.St w [] wr [SX.Ent.blk g0 73 (lmC k).toArray]) (fun k => 63 - k) 2 (by refine ⟨?_, trivial⟩ <;> (first | rfl | (refine Z.lookv rfl ?_; simp; done) | (refine Z.lookv rfl ?_; simp; omega))) ⟨by omega, hs⟩ ?_
  clear hs
  rintro k w1 ⟨hk, hs⟩
  refine Z.only [0, 1] rfl ?_
  refine Z.seq ?_
  refine Z.seq ?_
  refine Z.region ?_
  refine Z.lb 2 rfl ?_
  refine Z.lnil ?_
  refine Z.only [0, 1, 4] rfl ?_
  refine Z.nthen ?_
  refine Z.cond rfl (fun hc3 => ?_) (fun hc3 => ?_)
  · first
      | (exfalso; simp at hc3 <;> omega)
      | (
        (try simp at hc3)
        have hbd := lim_bd (k := k - 1) (by omega)
        have hget : Z.nth (lmC k) (0 + ((k : Int) - 1).toNat * 1) = some (.int .i64 (lim (k - 1))) := by
          rw [Z.nth_eq, show 0 + ((k : Int) - 1).toNat * 1 = k - 1 from by omega]
          exact lmC_get (by omega) (by omega)
        have hls := lim_succ (k - 1) (by omega)
        rw [show k - 1 + 1 = k from by omega] at hls
        refine Z.skip ?_
        refine Z.nthen ?_
        refine Z.seq ?_
        refine Z.block ?_
        refine Z.drawK (fun j => j != 13) mixed hs ?_
        clear hs; intro wd5 hs
        refine Z.tb [0, 1] (by kernel_rfl) rfl ⟨_, hs, by first | (simp; done) | exact fun e he => List.mem_append_right _ he⟩ rfl ?_
        refine Z.t 2 rfl rfl rfl (by rfl) (by kernel_rfl) ⟨_, hs, by first | (simp; done) | exact fun e he => List.mem_append_right _ he⟩ (Z.Yd.sub rfl rfl (fun hG => Z.wi64 (by first | omega | (have hG' := Z.gh rfl hG; simp at hG'; omega)))) ?_
        refine Z.t 3 rfl rfl rfl (by rfl) (by kernel_rfl) ⟨_, hs, by first | (simp; done) | exact fun e he => List.mem_append_right _ he⟩ (Z.Yd.elemA rfl rfl Try.underlying73 Try.sizeOf3 (fun hG => ⟨(by first | omega | (have hG' := Z.gh rfl hG; simp at hG'; omega)), (by first | omega | (have hG' := Z.gh rfl hG; simp at hG'; omega))⟩)) ?_
        refine Z.t 4 rfl rfl rfl (by rfl) (by kernel_rfl) ⟨_, hs, by first | (simp; done) | exact fun e he => List.mem_append_right _ he⟩ (Z.Yd.load rfl Try.isAgg3 (fun _ => Z.cellB (cs := (lmC k).toArray) (by first | ((repeat (first | exact List.mem_cons_self | refine List.mem_cons_of_mem _ ?_ | refine List.mem_append_right _ ?_)); done) | fail) hget)) ?_
        refine Z.tb [5] (by kernel_rfl) rfl ⟨_, hs, by first | (simp; done) | exact fun e he => List.mem_append_right _ he⟩ rfl ?_
        refine Z.t 6 rfl rfl rfl (by rfl) (by kernel_rfl) ⟨_, hs, by first | (simp; done) | exact fun e he => List.mem_append_right _ he⟩ (Z.Yd.sub rfl rfl (fun hG => Z.wi64 (by first | omega | (have hG' := Z.gh rfl hG; simp at hG'; omega)))) ?_
        refine Z.t 7 rfl rfl rfl (by rfl) (by kernel_rfl) ⟨_, hs, by first | (simp; done) | exact fun e he => List.mem_append_right _ he⟩ (Z.Yd.elemA rfl rfl Try.underlying73 Try.sizeOf3 (fun hG => ⟨(by first | omega | (have hG' := Z.gh rfl hG; simp at hG'; omega)), (by first | omega | (have hG' := Z.gh rfl hG; simp at hG'; omega))⟩)) ?_
        refine Z.t 8 rfl rfl rfl (by rfl) (by kernel_rfl) ⟨_, hs, by first | (simp; done) | exact fun e he => List.mem_append_right _ he⟩ (Z.Yd.load rfl Try.isAgg3 (fun _ => Z.cellB (cs := (lmC k).toArray) (by first | ((repeat (first | exact List.mem_cons_self | refine List.mem_cons_of_mem _ ?_ | refine List.mem_append_right _ ?_)); done) | fail) hget)) ?_
        refine Z.t 9 rfl rfl rfl (by rfl) (by kernel_rfl) ⟨_, hs, by first | (simp; done) | exact fun e he => List.mem_append_right _ he⟩ (Z.Yd.quo rfl rfl (by intro hG; first | decide | omega) (by intro hG; first | exact Z.qi64 ⟨by omega, by omega⟩ (by omega) | exact rfl)) ?_
        refine Z.t 10 rfl rfl rfl (by rfl) (by kernel_rfl) ⟨_, hs, by first | (simp; done) | exact fun e he => List.mem_append_right _ he⟩ (Z.Yd.max rfl rfl) ?_
        refine Z.t 11 rfl rfl rfl (by rfl) (by kernel_rfl) ⟨_, hs, by first | (simp; done) | exact fun e he => List.mem_append_right _ he⟩ (Z.Yd.add rfl rfl (fun hG => Z.wi64 (by first | omega | (have hG' := Z.gh rfl hG; simp at hG'; omega)))) ?_
        refine Z.t 12 rfl rfl rfl (by rfl) (by kernel_rfl) ⟨_, hs, by first | (simp; done) | exact fun e he => List.mem_append_right _ he⟩ (Z.Yd.elemA rfl rfl Try.underlying73 Try.sizeOf3 (fun hG => ⟨(by first | omega | (have hG' := Z.gh rfl hG; simp at hG'; omega)), (by first | omega | (have hG' := Z.gh rfl hG; simp at hG'; omega))⟩)) ?_
        refine Z.tn 13 rfl rfl (by kernel_rfl) rfl trivial ?_
        first | refine Z.ZO.store rfl rfl hs Try.sizeOf3 rfl rfl rfl (by first | exact SX.at0 | exact SX.at1 | exact SX.at2 | exact SX.at3 | exact SX.at4 | exact SX.at5 | exact Z.at6 | exact Z.at7 | exact Z.at8 | exact Z.at9 | exact Z.at10 | exact Z.at11 | exact Z.at12) (by first | (simp; done) | (simp; omega)) ?_ | refine Z.ZO.storeR rfl rfl hs Try.sizeOf3 rfl rfl rfl (by first | exact SX.at0 | exact SX.at1 | exact SX.at2 | exact SX.at3 | exact SX.at4 | exact SX.at5 | exact Z.at6 | exact Z.at7 | exact Z.at8 | exact Z.at9 | exact Z.at10 | exact Z.at11 | exact Z.at12) (by first | omega | (simp [ints_length]; done) | (simp [ints_length]; omega)) ?_
        clear hs; intro ws hs
        simp only [Nat.zero_add, Nat.add_zero, Nat.reduceAdd, Int.reduceToNat, Nat.reduceMul, List.set_cons_zero, List.set_cons_succ, List.setIfInBounds_toArray] at hs
        refine Z.tk (Dn := fun j => j != 13) (i := 13) (fun h => absurd h (by decide)) ?_
        refine Z.td (by rfl) (by kernel_rfl) ?_
        refine Z.only [0, 1] rfl ?_
        refine Z.nblock ?_
        refine Z.nthen ?_
        refine Z.region ?_
        refine Z.lb 1 rfl ?_
        refine Z.l rfl rfl (by rfl) (Z.keepS hs) (Z.Yd.add rfl rfl (fun hG => Z.wi64 (by first | omega | (have hG' := Z.gh rfl hG; simp at hG'; omega)))) ?_
        refine Z.lb 1 rfl ?_
        refine Z.lnil ?_
        refine Z.only [0, 1] rfl ?_
        refine Z.nthen ?_
        rw [show lim (k - 1) + max 2 (lim (k - 1) / 6) = lim k from hls.symm, show (k : Int).toNat * 1 = k from by omega, lmC_set (by omega)] at hs
        exact Z.again (k + 1) (by refine ⟨?_, ?_, trivial⟩ <;> (first | rfl | (refine Z.lookv rfl ?_; simp; done) | (refine Z.lookv rfl ?_; simp; omega))) ⟨by omega, hs⟩ (by omega)
        )
  · first
      | (exfalso; simp at hc3 <;> omega)
      | (
        (try simp at hc3)
        refine Z.exit ?_
        refine Z.xthen ?_
        refine Z.xthen ?_
        refine Z.xblock ?_
        refine Z.nthen ?_
        refine Z.seq ?_
        refine Z.region ?_
        obtain rfl : k = 63 := by omega
        refine Z.l rfl rfl (by rfl) (Z.keepS hs) (by first | exact Z.Yd.loadA _ rfl Try.isAgg73 (fun _ => Z.cellsB (by first | ((repeat (first | exact List.mem_cons_self | refine List.mem_cons_of_mem _ ?_ | refine List.mem_append_right _ ?_)); done) | fail)) (by exact Try.sizeOf73) | fail "load 6.0") ?_
        refine Z.le rfl trivial ?_
        refine Z.ZO.storeA rfl rfl hs rfl rfl (by kernel_rfl) (by rw [List.all_toArray]; exact List.all_eq_true.2 (lmC_one 63)) (by first | exact SX.at0 | exact SX.at1 | exact SX.at2 | exact SX.at3 | exact SX.at4 | exact SX.at5 | exact Z.at6 | exact Z.at7 | exact Z.at8 | exact Z.at9 | exact Z.at10 | exact Z.at11 | exact Z.at12) (by rfl) ?_
        clear hs; intro ws hs
        simp only [Nat.zero_add, Nat.add_zero, Nat.reduceAdd, Int.reduceToNat, Nat.reduceMul, List.set_cons_zero, List.set_cons_succ, List.setIfInBounds_toArray] at hs
        refine Z.lnil ?_
        refine Z.only [0] rfl ?_
        refine Z.nthen ?_
        refine Z.ret ?_
        -- ret#0
        refine Z.out1 (by exact ⟨⟨_, rfl, Z.rvcA hs Try.isAgg73 (by first | ((repeat (first | exact List.mem_cons_self | refine List.mem_cons_of_mem _ ?_ | refine List.mem_append_right _ ?_)); done) | fail) (by exact Try.sizeOf73)⟩, trivial⟩) ?_
        first | exact ⟨_, rfl, rfl, hs⟩ | exact ⟨_, rfl, rfl, hs.sub (List.nil_sublist _)⟩
        )
end Go.Proofs.Yteabcdmgklhijaa

/- Control elements: levels. -/
namespace Go.Proofs.Yteabcdmgklhijaa
open Go.RowKit
set_option linter.unusedSimpArgs false
set_option linter.unusedVariables false
--newlaws

theorem cnan_any (x : Int) (w : World) : Calls Try.prog 64 #[.int .i64 x] w (SX.Ret fun v w' => v = .bool false ∧ SX.St w [] w' []) := by
  have hs := SX.St.start w
  refine Z.enter Try.func64 rfl Try.ntmps64 rfl rfl ?_
  refine Z.seq ?_
  refine Z.region ?_
  refine Z.lb 1 rfl ?_
  refine Z.lnil ?_
  refine Z.only [0] rfl ?_
  refine Z.nthen ?_
  refine Z.seq ?_
  refine Z.region ?_
  refine Z.lb 4 rfl ?_
  refine Z.lnil ?_
  refine Z.only [2] rfl ?_
  refine Z.nthen ?_
  refine Z.ret ?_
  -- ret#0
  refine Z.out1 (by exact ⟨rfl, trivial⟩) ?_
  exact ⟨_, rfl, by simp, hs⟩
theorem snan_any (x : Int) (w : World) : Calls Try.prog 60 #[.int .i64 x] w (SX.Ret fun v w' => v = .bool false ∧ SX.St w [] w' []) := by
  have hs := SX.St.start w
  refine Z.enter Try.func60 rfl Try.ntmps60 rfl rfl ?_
  refine Z.seq ?_
  refine Z.region ?_
  refine Z.lb 1 rfl ?_
  refine Z.lnil ?_
  refine Z.only [0] rfl ?_
  refine Z.nthen ?_
  refine Z.seq ?_
  refine Z.region ?_
  refine Z.lb 4 rfl ?_
  refine Z.lnil ?_
  refine Z.only [2] rfl ?_
  refine Z.nthen ?_
  refine Z.ret ?_
  -- ret#0
  refine Z.out1 (by exact ⟨rfl, trivial⟩) ?_
  exact ⟨_, rfl, by simp, hs⟩
theorem less_any (x y : Int) (w : World) : Calls Try.prog 59 #[.int .i64 x, .int .i64 y] w (SX.Ret fun v w' => v = .bool (decide (x < y)) ∧ SX.St w [] w' []) := by
  have hs := SX.St.start w
  refine Z.enter Try.func59 rfl Try.ntmps59 rfl rfl ?_
  refine Z.seq ?_
  refine Z.region ?_
  refine Z.lb 1 rfl ?_
  refine Z.lnil ?_
  refine Z.only [0, 1] rfl ?_
  refine Z.nthen ?_
  refine Z.seq ?_
  refine Z.region ?_
  refine Z.lb 1 rfl ?_
  refine Z.le rfl trivial ?_
  refine Z.ZO.call rfl rfl (by rfl) rfl rfl Try.call64 rfl (cnan_any x _) ?_
  rintro v1_1 w1_1 ⟨rfl, hy⟩
  replace hs := hs.call hy
  clear hy
  try simp only [List.cons_append, List.nil_append, List.append_nil] at hs
  refine Z.lb 1 rfl ?_
  refine Z.yes (s := 7) (b := false) rfl (rfl) rfl ?_
  refine Z.ls rfl rfl rfl (by rfl) ?_
  refine Z.ls rfl rfl rfl (by rfl) ?_
  refine Z.ls rfl rfl rfl (by rfl) ?_
  refine Z.l rfl rfl (by rfl) (Z.keepS hs) (Z.Yd.pickF rfl rfl) ?_
  refine Z.lb 1 rfl ?_
  refine Z.yes (s := 12) (b := false) rfl (rfl) rfl ?_
  refine Z.lb 3 rfl ?_
  refine Z.yes (s := 12) (b := false) rfl rfl rfl ?_
  refine Z.l rfl rfl (by rfl) (Z.keepS hs) (Z.Yd.pickF rfl rfl) ?_
  refine Z.lb 1 rfl ?_
  refine Z.lnil ?_
  refine Z.only [4] rfl ?_
  refine Z.nthen ?_
  refine Z.ret ?_
  -- ret#0
  refine Z.out1 (by exact ⟨rfl, trivial⟩) ?_
  exact ⟨_, rfl, by simp, hs⟩
set_option maxRecDepth 100000 in
/-- the first place of a sorted list whose number is not less than x -/
theorem bsearch_any (A : Option Addr) (n c : Nat) (l : List Int) (x : Int) (w : World) (hx : Sl w A (ints .i64 l)) (hl : l.length = n) (hn : n ≤ 1000000) (hm : ∀ i j : Nat, i ≤ j → j < n → elt l (i : Int) ≤ elt l (j : Int)) :
    Calls Try.prog 53 #[.slice A n c, .int .i64 x] w (SX.Ret fun v w' => (∃ (i : Nat) (b : Bool), v = .tuple #[.int .i64 (i : Int), .bool b] ∧ i ≤ n ∧ (∀ j : Nat, j < i → elt l (j : Int) < x) ∧ ∀ j : Nat, i ≤ j → j < n → x ≤ elt l (j : Int)) ∧ SX.St w [] w' []) := by
  have hs := SX.St.start w
  refine Z.enter Try.func53 rfl Try.ntmps53 rfl rfl ?_
  refine Z.seq ?_
  refine Z.region ?_
  refine Z.lb 2 rfl ?_
  refine Z.lnil ?_
  refine Z.only [0, 1] rfl ?_
  refine Z.nthen ?_
  refine Z.seq ?_
  refine Z.region ?_
  refine Z.lb 1 rfl ?_
  refine Z.l rfl rfl (by rfl) (Z.keepS hs) (Z.Yd.lenS rfl Try.underlying86) ?_
  refine Z.lb 1 rfl ?_
  refine Z.lnil ?_
  refine Z.only [0, 1, 6] rfl ?_
  refine Z.nthen ?_
  refine Z.seq ?_
  refine Z.region ?_
  refine Z.lb 3 rfl ?_
  refine Z.lnil ?_
  refine Z.only [0, 1, 6, 7, 8] rfl ?_
  refine Z.nthen ?_
  refine Z.seq ?_
  refine Z.block ?_
  refine Z.loopk (ι := Nat × Nat) [0, 1, 6] rfl (fun p => [(7, [], .int .i64 (p.1 : Int)), (8, [], .int .i64 (p.2 : Int))]) (fun p wr => ((p.1 ≤ p.2 ∧ p.2 ≤ n) ∧ (∀ j : Nat, j < p.1 → elt l (j : Int) < x) ∧ ∀ j : Nat, p.2 ≤ j → j < n → x ≤ elt l (j : Int)) ∧ SX.St w [] wr []) (fun p => p.2 - p.1) (0, n) (by refine ⟨?_, ?_, trivial⟩ <;> (first | rfl | (refine Z.lookv rfl ?_; simp; done) | (refine Z.lookv rfl ?_; simp; omega))) ⟨⟨by simp, by simp, by simp only; intro j h1 h2; omega⟩, hs⟩ ?_
  clear hs
  rintro ⟨lo, hi⟩ w1 ⟨⟨hb, hlo, hhi⟩, hs⟩
  refine Z.only [0, 1, 6, 7, 8] rfl ?_
  (try dsimp only at hs)
  dsimp only at hb hlo hhi
  refine Z.seq ?_
  refine Z.seq ?_
  refine Z.region ?_
  refine Z.lb 3 rfl ?_
  refine Z.lnil ?_
  refine Z.only [0, 1, 6, 7, 8, 15] rfl ?_
  refine Z.nthen ?_
  refine Z.cond rfl (fun hc3 => ?_) (fun hc3 => ?_)
  · first
      | (exfalso; simp at hc3 <;> omega)
      | (
        (try simp at hc3)
        obtain ⟨bb, off, rfl, hbb, hx⟩ := Z.Sl.some hx (by simp [ints]; omega)
        obtain ⟨m, hmm⟩ : ∃ m : Nat, m = (lo + hi) / 2 := ⟨_, rfl⟩
        have hsum : ((lo : Int) + (hi : Int)) / 2 = (m : Int) := by omega
        have hm1 : lo ≤ m ∧ m < hi := by omega
        refine Z.skip ?_
        refine Z.nthen ?_
        refine Z.block ?_
        refine Z.seq ?_
        refine Z.region ?_
        refine Z.lb 2 rfl ?_
        refine Z.l rfl rfl (by rfl) (Z.keepS hs) (Z.Yd.add rfl rfl (fun hG => Z.wi64 (by first | omega | (have hG' := Z.gh rfl hG; simp at hG'; omega)))) ?_
        refine Z.l rfl rfl (by rfl) (Z.keepS hs) (Z.Yd.convI rfl ⟨_, Try.underlying3⟩ Try.underlying97 (fun hG => Z.wu64 (by first | omega | (have hG' := Z.gh rfl hG; simp at hG'; omega)))) ?_
        refine Z.l rfl rfl (by rfl) (Z.keepS hs) (Z.Yd.shr rfl rfl (by intro hG; decide) (fun _ => Z.shrl (c := 2) rfl)) ?_
        rw [hsum]
        refine Z.l rfl rfl (by rfl) (Z.keepS hs) (Z.Yd.convI rfl ⟨_, Try.underlying97⟩ Try.underlying3 (fun hG => Z.wi64 (by first | omega | (have hG' := Z.gh rfl hG; simp at hG'; omega)))) ?_
        refine Z.lb 1 rfl ?_
        refine Z.lnil ?_
        refine Z.only [0, 1, 6, 7, 8, 9] rfl ?_
        refine Z.nthen ?_
        refine Z.seq ?_
        refine Z.region ?_
        refine Z.lb 2 rfl ?_
        refine Z.l rfl rfl (by rfl) (Z.keepS hs) (Z.Yd.elem rfl rfl Try.underlying86 Try.sizeOf3 (fun hG => ⟨(by first | omega | (have hG' := Z.gh rfl hG; simp at hG'; omega)), (by first | omega | (have hG' := Z.gh rfl hG; simp at hG'; omega))⟩)) ?_
        refine Z.l rfl rfl (by rfl) (Z.keepS hs) (by first | exact Z.Yd.load rfl Try.isAgg3 (fun _ => Z.cellB (by first | ((repeat (first | exact List.mem_cons_self | refine List.mem_cons_of_mem _ ?_ | refine List.mem_append_right _ ?_)); done) | fail) rfl) | exact Z.Yd.load rfl Try.isAgg3 (fun hG => Z.cellR (by first | ((repeat (first | exact List.mem_cons_self | refine List.mem_cons_of_mem _ ?_ | refine List.mem_append_right _ ?_)); done) | fail) (Z.ints_at (by first | omega | (have hG' := Z.gh rfl hG; simp at hG'; omega)) (by first | omega | (have hG' := Z.gh rfl hG; simp at hG'; omega)))) | exact Z.Yd.load rfl Try.isAgg3 (fun hG => Z.cellXi (by assumption) (by first | omega | (have hG' := Z.gh rfl hG; simp at hG'; omega)) (by first | omega | (have hG' := Z.gh rfl hG; simp at hG'; omega))) | exact Z.Yd.load rfl Try.isAgg3 (fun hG => Z.cellS (by assumption) rfl (by first | omega | (have hG' := Z.gh rfl hG; simp at hG'; omega)) (by first | omega | (have hG' := Z.gh rfl hG; simp at hG'; omega))) | fail "load 5.3") ?_
        refine Z.lb 1 rfl ?_
        refine Z.le rfl trivial ?_
        refine Z.ZO.call rfl rfl (by rfl) rfl rfl Try.call59 rfl (less_any _ _ _) ?_
        rintro v5_5 w5_5 ⟨rfl, hy⟩
        replace hs := hs.call hy
        clear hy
        try simp only [List.cons_append, List.nil_append, List.append_nil] at hs
        refine Z.lnil ?_
        refine Z.only [0, 1, 6, 7, 8, 9, 27] rfl ?_
        refine Z.nthen ?_
        refine Z.cond rfl (fun hc5 => ?_) (fun hc5 => ?_)
        · first
            | (exfalso; simp at hc5 <;> omega)
            | (
              (try simp at hc5)
              refine Z.region ?_
              refine Z.lb 1 rfl ?_
              refine Z.l rfl rfl (by rfl) (Z.keepS hs) (Z.Yd.add rfl rfl (fun hG => Z.wi64 (by first | omega | (have hG' := Z.gh rfl hG; simp at hG'; omega)))) ?_
              refine Z.lb 1 rfl ?_
              refine Z.lnil ?_
              refine Z.only [0, 1, 6, 7, 8] rfl ?_
              refine Z.nblock ?_
              refine Z.nthen ?_
              first
              | exact Z.again (m + 1, hi) (by refine ⟨?_, ?_, ?_, ?_, ?_, trivial⟩ <;> (first | rfl | (refine Z.lookv rfl ?_; simp; done) | (refine Z.lookv rfl ?_; simp; omega))) ⟨⟨by simp only; omega, by
                  simp only
                  intro j hj
                  exact Int.lt_of_le_of_lt (hm j m (by omega) (by omega)) (by assumption), hhi⟩, hs⟩ (by simp only; omega)
              | exact Z.again (lo, m) (by refine ⟨?_, ?_, ?_, ?_, ?_, trivial⟩ <;> (first | rfl | (refine Z.lookv rfl ?_; simp; done) | (refine Z.lookv rfl ?_; simp; omega))) ⟨⟨by simp only; omega, hlo, by
                  simp only
                  intro j hj hjn
                  exact Int.le_trans (by assumption) (hm m j (by omega) (by omega))⟩, hs⟩ (by simp only; omega)
              )
        · first
            | (exfalso; simp at hc5 <;> omega)
            | (
              (try simp at hc5)
              refine Z.region ?_
              refine Z.lb 2 rfl ?_
              refine Z.lnil ?_
              refine Z.only [0, 1, 6, 7, 8] rfl ?_
              refine Z.nblock ?_
              refine Z.nthen ?_
              first
              | exact Z.again (m + 1, hi) (by refine ⟨?_, ?_, ?_, ?_, ?_, trivial⟩ <;> (first | rfl | (refine Z.lookv rfl ?_; simp; done) | (refine Z.lookv rfl ?_; simp; omega))) ⟨⟨by simp only; omega, by
                  simp only
                  intro j hj
                  exact Int.lt_of_le_of_lt (hm j m (by omega) (by omega)) (by assumption), hhi⟩, hs⟩ (by simp only; omega)
              | exact Z.again (lo, m) (by refine ⟨?_, ?_, ?_, ?_, ?_, trivial⟩ <;> (first | rfl | (refine Z.lookv rfl ?_; simp; done) | (refine Z.lookv rfl ?_; simp; omega))) ⟨⟨by simp only; omega, hlo, by
                  simp only
                  intro j hj hjn
                  exact Int.le_trans (by assumption) (hm m j (by omega) (by omega))⟩, hs⟩ (by simp only; omega)
              )
        )
  · first
      | (exfalso; simp at hc3 <;> omega)
      | (
        (try simp at hc3)
        refine Z.exit ?_
        refine Z.xthen ?_
        refine Z.xthen ?_
        refine Z.xblock ?_
        refine Z.nthen ?_
        refine Z.seq ?_
        refine Z.region ?_
        obtain rfl : lo = hi := by omega
        refine Z.l rfl rfl (by rfl) (Z.keepS hs) (Z.Yd.pure rfl) ?_
        refine Z.lb 4 rfl ?_
        refine Z.split (s := 35) rfl (fun hsp35 => ?_) (fun hsp35 => ?_)
        · first
            | (exfalso; simp at hsp35 <;> omega)
            | (
              refine Z.yes (s := 35) (b := true) rfl hsp35 rfl ?_
              (try simp at hsp35)
              obtain ⟨bb, off, rfl, hbb, hx⟩ := Z.Sl.some hx (by simp [ints]; omega)
              refine Z.lb 2 rfl ?_
              refine Z.l rfl rfl (by rfl) (Z.keepS hs) (Z.Yd.elem rfl rfl Try.underlying86 Try.sizeOf3 (fun hG => ⟨(by first | omega | (have hG' := Z.gh rfl hG; simp at hG'; omega)), (by first | omega | (have hG' := Z.gh rfl hG; simp at hG'; omega))⟩)) ?_
              refine Z.l rfl rfl (by rfl) (Z.keepS hs) (by first | exact Z.Yd.load rfl Try.isAgg3 (fun _ => Z.cellB (by first | ((repeat (first | exact List.mem_cons_self | refine List.mem_cons_of_mem _ ?_ | refine List.mem_append_right _ ?_)); done) | fail) rfl) | exact Z.Yd.load rfl Try.isAgg3 (fun hG => Z.cellR (by first | ((repeat (first | exact List.mem_cons_self | refine List.mem_cons_of_mem _ ?_ | refine List.mem_append_right _ ?_)); done) | fail) (Z.ints_at (by first | omega | (have hG' := Z.gh rfl hG; simp at hG'; omega)) (by first | omega | (have hG' := Z.gh rfl hG; simp at hG'; omega)))) | exact Z.Yd.load rfl Try.isAgg3 (fun hG => Z.cellXi (by assumption) (by first | omega | (have hG' := Z.gh rfl hG; simp at hG'; omega)) (by first | omega | (have hG' := Z.gh rfl hG; simp at hG'; omega))) | exact Z.Yd.load rfl Try.isAgg3 (fun hG => Z.cellS (by assumption) rfl (by first | omega | (have hG' := Z.gh rfl hG; simp at hG'; omega)) (by first | omega | (have hG' := Z.gh rfl hG; simp at hG'; omega))) | fail "load 8.8") ?_
              refine Z.lb 3 rfl ?_
              refine Z.yes (s := 35) (b := true) rfl rfl rfl ?_
              refine Z.split (s := 42) rfl (fun hsp42 => ?_) (fun hsp42 => ?_)
              · first
                  | (exfalso; simp at hsp42 <;> omega)
                  | (
                    refine Z.yes (s := 42) (b := true) rfl hsp42 rfl ?_
                    (try simp at hsp42)
                    refine Z.ls rfl rfl rfl (by rfl) ?_
                    refine Z.ls rfl rfl rfl (by rfl) ?_
                    refine Z.ls rfl rfl rfl (by rfl) ?_
                    refine Z.ls rfl rfl rfl (by rfl) ?_
                    refine Z.ls rfl rfl rfl (by rfl) ?_
                    refine Z.ls rfl rfl rfl (by rfl) ?_
                    refine Z.lsU rfl rfl rfl (by rfl) ?_
                    refine Z.lsU rfl rfl rfl (by rfl) ?_
                    refine Z.ls rfl rfl rfl (by rfl) ?_
                    refine Z.l rfl rfl (by rfl) (Z.keepS hs) (Z.Yd.pickT rfl rfl) ?_
                    refine Z.yes (s := 35) (b := true) rfl rfl rfl ?_
                    refine Z.l rfl rfl (by rfl) (Z.keepS hs) (Z.Yd.pickT rfl rfl) ?_
                    refine Z.lb 2 rfl ?_
                    refine Z.lnil ?_
                    refine Z.only [4, 5] rfl ?_
                    refine Z.nthen ?_
                    refine Z.ret ?_
                    -- ret#0
                    refine Z.out2 (by exact ⟨rfl, rfl, trivial⟩) ?_
                    exact ⟨_, rfl, ⟨lo, _, rfl, by omega, hlo, hhi⟩, hs⟩
                    )
              · first
                  | (exfalso; simp at hsp42 <;> omega)
                  | (
                    refine Z.yes (s := 42) (b := false) rfl hsp42 rfl ?_
                    (try simp at hsp42)
                    refine Z.lb 2 rfl ?_
                    refine Z.l rfl rfl (by rfl) (Z.keepS hs) (Z.Yd.elem rfl rfl Try.underlying86 Try.sizeOf3 (fun hG => ⟨(by first | omega | (have hG' := Z.gh rfl hG; simp at hG'; omega)), (by first | omega | (have hG' := Z.gh rfl hG; simp at hG'; omega))⟩)) ?_
                    refine Z.l rfl rfl (by rfl) (Z.keepS hs) (by first | exact Z.Yd.load rfl Try.isAgg3 (fun _ => Z.cellB (by first | ((repeat (first | exact List.mem_cons_self | refine List.mem_cons_of_mem _ ?_ | refine List.mem_append_right _ ?_)); done) | fail) rfl) | exact Z.Yd.load rfl Try.isAgg3 (fun hG => Z.cellR (by first | ((repeat (first | exact List.mem_cons_self | refine List.mem_cons_of_mem _ ?_ | refine List.mem_append_right _ ?_)); done) | fail) (Z.ints_at (by first | omega | (have hG' := Z.gh rfl hG; simp at hG'; omega)) (by first | omega | (have hG' := Z.gh rfl hG; simp at hG'; omega)))) | exact Z.Yd.load rfl Try.isAgg3 (fun hG => Z.cellXi (by assumption) (by first | omega | (have hG' := Z.gh rfl hG; simp at hG'; omega)) (by first | omega | (have hG' := Z.gh rfl hG; simp at hG'; omega))) | exact Z.Yd.load rfl Try.isAgg3 (fun hG => Z.cellS (by assumption) rfl (by first | omega | (have hG' := Z.gh rfl hG; simp at hG'; omega)) (by first | omega | (have hG' := Z.gh rfl hG; simp at hG'; omega))) | fail "load 8.15") ?_
                    refine Z.yes (s := 42) (b := false) rfl rfl rfl ?_
                    refine Z.le rfl (by exact ⟨rfl, trivial⟩) ?_
                    refine Z.ZO.call rfl rfl (by rfl) rfl rfl Try.call60 rfl (snan_any _ _) ?_
                    rintro v8_16 w8_16 ⟨rfl, hy⟩
                    replace hs := hs.call hy
                    clear hy
                    try simp only [List.cons_append, List.nil_append, List.append_nil] at hs
                    refine Z.lb 1 rfl ?_
                    refine Z.yes (s := 42) (b := false) rfl rfl rfl ?_
                    refine Z.yes (s := 48) (b := false) rfl (rfl) rfl ?_
                    refine Z.ls rfl rfl rfl (by rfl) ?_
                    refine Z.ls rfl rfl rfl (by rfl) ?_
                    refine Z.l rfl rfl (by rfl) (Z.keepS hs) (Z.Yd.pickF rfl rfl) ?_
                    refine Z.yes (s := 42) (b := false) rfl rfl rfl ?_
                    refine Z.l rfl rfl (by rfl) (Z.keepS hs) (Z.Yd.pickF rfl rfl) ?_
                    refine Z.yes (s := 35) (b := true) rfl rfl rfl ?_
                    refine Z.l rfl rfl (by rfl) (Z.keepS hs) (Z.Yd.pickT rfl rfl) ?_
                    refine Z.lb 2 rfl ?_
                    refine Z.lnil ?_
                    refine Z.only [4, 5] rfl ?_
                    refine Z.nthen ?_
                    refine Z.ret ?_
                    -- ret#1
                    refine Z.out2 (by exact ⟨rfl, rfl, trivial⟩) ?_
                    exact ⟨_, rfl, ⟨lo, _, rfl, by omega, hlo, hhi⟩, hs⟩
                    )
              )
        · first
            | (exfalso; simp at hsp35 <;> omega)
            | (
              refine Z.yes (s := 35) (b := false) rfl hsp35 rfl ?_
              (try simp at hsp35)
              refine Z.ls rfl rfl rfl (by rfl) ?_
              refine Z.ls rfl rfl rfl (by rfl) ?_
              refine Z.ls rfl rfl rfl (by rfl) ?_
              refine Z.ls rfl rfl rfl (by rfl) ?_
              refine Z.ls rfl rfl rfl (by rfl) ?_
              refine Z.ls rfl rfl rfl (by rfl) ?_
              refine Z.ls rfl rfl rfl (by rfl) ?_
              refine Z.lsU rfl rfl rfl (by rfl) ?_
              refine Z.lsU rfl rfl rfl (by rfl) ?_
              refine Z.lsU rfl rfl rfl (by rfl) ?_
              refine Z.lsU rfl rfl rfl (by rfl) ?_
              refine Z.lsU rfl rfl rfl (by rfl) ?_
              refine Z.lsU rfl rfl rfl (by rfl) ?_
              refine Z.lsU rfl rfl rfl (by rfl) ?_
              refine Z.lsU rfl rfl rfl (by rfl) ?_
              refine Z.lsU rfl rfl rfl (by rfl) ?_
              refine Z.ls rfl rfl rfl (by rfl) ?_
              refine Z.l rfl rfl (by rfl) (Z.keepS hs) (Z.Yd.pickF rfl rfl) ?_
              refine Z.lb 2 rfl ?_
              refine Z.lnil ?_
              refine Z.only [4, 5] rfl ?_
              refine Z.nthen ?_
              refine Z.ret ?_
              -- ret#2
              refine Z.out2 (by exact ⟨rfl, rfl, trivial⟩) ?_
              exact ⟨_, rfl, ⟨lo, _, rfl, by omega, hlo, hhi⟩, hs⟩
              )
        )
end Go.Proofs.Yteabcdmgklhijaa

/- Control elements: Level, Limit, and the document's. -/
namespace Go.Proofs.Yteabcdmgklhijaa
open Go.RowKit
set_option linter.unusedSimpArgs false
set_option linter.unusedVariables false
--newlaws

def lvl (x : Int) : Nat := (List.range 63).findIdx fun k => decide (x ≤ lim k)
theorem lvl_eq {x : Int} {i : Nat} (h : i ≤ 63) (h1 : ∀ j : Nat, j < i → lim j < x) (h2 : ∀ j : Nat, i ≤ j → j < 63 → x ≤ lim j) : lvl x = i := by
  unfold lvl
  by_cases hi : i < 63
  · rw [List.findIdx_eq (by simpa using hi)]
    refine ⟨by simpa using h2 i (Nat.le_refl i) hi, fun j hj => ?_⟩
    have := h1 j hj
    simp
    omega
  · obtain rfl : i = 63 := by omega
    have : (List.range 63).findIdx (fun k => decide (x ≤ lim k)) = (List.range 63).length := by
      rw [List.findIdx_eq_length]
      intro k hk
      have := h1 k (by simpa using hk)
      simp
      omega
    rw [this, List.length_range]
theorem lvl_spec (x : Int) : lvl x ≤ 63 ∧ (∀ j : Nat, j < lvl x → lim j < x) ∧ ∀ j : Nat, lvl x ≤ j → j < 63 → x ≤ lim j := by
  have key : ∃ i, i ≤ 63 ∧ (∀ j : Nat, j < i → lim j < x) ∧ ∀ j : Nat, i ≤ j → j < 63 → x ≤ lim j := by
    have : ∀ n, n ≤ 63 → ∃ i, i ≤ n ∧ (∀ j : Nat, j < i → lim j < x) ∧ ∀ j : Nat, i ≤ j → j < n → x ≤ lim j := by
      intro n
      induction n with
      | zero => intro _; exact ⟨0, by omega, fun j hj => by omega, fun j _ h => by omega⟩
      | succ n ih =>
        intro hn
        obtain ⟨i, h0, h1, h2⟩ := ih (by omega)
        by_cases hx : x ≤ lim n
        · refine ⟨i, by omega, h1, fun j hj hjn => ?_⟩
          by_cases e : j = n
          · rw [e]; exact hx
          · exact h2 j hj (by omega)
        · refine ⟨n + 1, Nat.le_refl _, fun j hj => ?_, fun j h1 h2 => by omega⟩
          have := lim_mono (show j ≤ n by omega)
          omega
    exact this 63 (Nat.le_refl _)
  obtain ⟨i, h0, h1, h2⟩ := key
  rw [lvl_eq h0 h1 h2]
  exact ⟨h0, h1, h2⟩
def levV (x : Int) : Int := if x < 0 then 0 else (lvl x : Int)
def levE (x : Int) : Int := if x < 0 then 2 else 0
def limV (n : Int) : Int := if n < 0 ∨ 63 ≤ n then 0 else lim n.toNat
def limE (n : Int) : Int := if n < 0 ∨ 63 ≤ n then 2 else 0

theorem elt_lm {j : Nat} (hj : j < 63) : elt (lmI 63) (j : Int) = lim j := by
  unfold elt
  rw [List.getD_eq_getElem?_getD, Int.toNat_natCast, lmI_get hj hj]
  rfl
set_option maxRecDepth 100000 in
theorem clevel_any (x : Int) (w : World) : Calls Try.prog 30 #[.int .i64 x] w (SX.Ret fun v w' => v = .tuple #[.int .i64 (levV x), .int .i64 (levE x)] ∧ SX.St w [] w' []) := by
  have hs := SX.St.start w
  refine Z.enter Try.func30 rfl Try.ntmps30 rfl rfl ?_
  refine Z.seq ?_
  refine Z.region ?_
  refine Z.lb 2 rfl ?_
  refine Z.lnil ?_
  refine Z.only [0] rfl ?_
  refine Z.nthen ?_
  refine Z.seq ?_
  refine Z.seq ?_
  refine Z.region ?_
  refine Z.lb 2 rfl ?_
  refine Z.lnil ?_
  refine Z.only [0, 8] rfl ?_
  refine Z.nthen ?_
  refine Z.cond rfl (fun hc1 => ?_) (fun hc1 => ?_)
  · first
      | (exfalso; simp at hc1 <;> omega)
      | (
        (try simp at hc1)
        refine Z.seq ?_
        refine Z.region ?_
        refine Z.lb 2 rfl ?_
        refine Z.lnil ?_
        refine Z.only [2, 3] rfl ?_
        refine Z.nthen ?_
        refine Z.ret ?_
        repeat (first | refine Z.rthen ?_ | refine Z.rblock ?_ | refine Z.rscope ?_)
        -- ret#0
        refine Z.out2 (by exact ⟨rfl, rfl, trivial⟩) ?_
        exact ⟨_, rfl, by unfold levV levE; rw [if_pos (by omega), if_pos (by omega)], hs⟩
        )
  · first
      | (exfalso; simp at hc1 <;> omega)
      | (
        (try simp at hc1)
        refine Z.skip ?_
        refine Z.nthen ?_
        refine Z.seq ?_
        refine Z.region ?_
        refine Z.le rfl trivial ?_
        refine Z.ZO.call rfl rfl (by rfl) rfl rfl Try.call43 rfl (limits_any _) ?_
        rintro v3_0 w3_0 ⟨rfl, hy⟩
        replace hs := hs.call hy
        clear hy
        try simp only [List.cons_append, List.nil_append, List.append_nil] at hs
        refine Z.le rfl trivial ?_
        refine Z.ZO.alloc rfl rfl (by rfl) Try.zeroValue73 rfl hs ?_
        clear hs; intro g4 w4 hs
        refine Z.le rfl trivial ?_
        refine Z.ZO.storeA rfl rfl hs rfl rfl (by kernel_rfl) (by rw [List.all_toArray]; exact List.all_eq_true.2 (lmC_one 63)) SX.at0 (show (63 : Nat) = (lmC 63).length from (lmC_len 63).symm) ?_
        clear hs; intro ws hs
        simp only [Nat.zero_add, Nat.add_zero, Nat.reduceAdd, Int.reduceToNat, Nat.reduceMul, List.set_cons_zero, List.set_cons_succ, List.setIfInBounds_toArray] at hs
        refine Z.lnil ?_
        refine Z.only [0, 4] rfl ?_
        refine Z.nthen ?_
        refine Z.seq ?_
        refine Z.region ?_
        refine Z.l rfl rfl (by rfl) (Z.keepS hs) (Z.Yd.cutA rfl Try.underlying73 Try.sizeOf3) ?_
        refine Z.lb 1 rfl ?_
        have hsl := (Z.blk_lentj (L1 := []) hs (j := 0) rfl).sl
        refine Z.le rfl trivial ?_
        refine Z.ZO.call rfl rfl (by rfl) rfl rfl Try.call53 rfl (bsearch_any _ 63 63 (lmI 63) x _ hsl (by simp [lmI]) (by omega) (fun i j hij hj ↦ by rw [elt_lm (by omega), elt_lm (by omega)]; exact lim_mono hij)) ?_
        rintro v4_2 w4_2 ⟨⟨i, b, rfl, hi, h1, h2⟩, hy⟩
        replace hs := hs.call hy
        clear hy
        try simp only [List.cons_append, List.nil_append, List.append_nil] at hs
        refine Z.lb 5 rfl ?_
        refine Z.lnil ?_
        refine Z.only [5] rfl ?_
        refine Z.nthen ?_
        refine Z.seq ?_
        refine Z.region ?_
        refine Z.lb 3 rfl ?_
        refine Z.lnil ?_
        refine Z.only [2, 3] rfl ?_
        refine Z.nthen ?_
        refine Z.ret ?_
        -- ret#1
        refine Z.out2 (by exact ⟨rfl, rfl, trivial⟩) ?_
        have e : lvl x = i := lvl_eq hi (fun j hj => by have := h1 j hj; rwa [elt_lm (by omega)] at this) (fun j hj hj2 => by have := h2 j hj hj2; rwa [elt_lm (by omega)] at this)
        exact ⟨_, rfl, by unfold levV levE; rw [if_neg (by omega), if_neg (by omega), e], hs.sub (List.nil_sublist _)⟩
        )
set_option maxRecDepth 100000 in
theorem climit_any (n : Int) (w : World) : Calls Try.prog 31 #[.int .i64 n] w (SX.Ret fun v w' => v = .tuple #[.int .i64 (limV n), .int .i64 (limE n)] ∧ SX.St w [] w' []) := by
  have hs := SX.St.start w
  refine Z.enter Try.func31 rfl Try.ntmps31 rfl rfl ?_
  refine Z.seq ?_
  refine Z.region ?_
  refine Z.lb 2 rfl ?_
  refine Z.lnil ?_
  refine Z.only [0] rfl ?_
  refine Z.nthen ?_
  refine Z.seq ?_
  refine Z.region ?_
  refine Z.le rfl trivial ?_
  refine Z.ZO.call rfl rfl (by rfl) rfl rfl Try.call43 rfl (limits_any _) ?_
  rintro v1_0 w1_0 ⟨rfl, hy⟩
  replace hs := hs.call hy
  clear hy
  try simp only [List.cons_append, List.nil_append, List.append_nil] at hs
  refine Z.le rfl trivial ?_
  refine Z.ZO.alloc rfl rfl (by rfl) Try.zeroValue73 rfl hs ?_
  clear hs; intro g4 w4 hs
  refine Z.le rfl trivial ?_
  refine Z.ZO.storeA rfl rfl hs rfl rfl (by kernel_rfl) (by rw [List.all_toArray]; exact List.all_eq_true.2 (lmC_one 63)) SX.at0 (show (63 : Nat) = (lmC 63).length from (lmC_len 63).symm) ?_
  clear hs; intro ws hs
  simp only [Nat.zero_add, Nat.add_zero, Nat.reduceAdd, Int.reduceToNat, Nat.reduceMul, List.set_cons_zero, List.set_cons_succ, List.setIfInBounds_toArray] at hs
  refine Z.lnil ?_
  refine Z.only [0, 4] rfl ?_
  refine Z.nthen ?_
  refine Z.seq ?_
  refine Z.seq ?_
  refine Z.region ?_
  refine Z.lb 6 rfl ?_
  refine Z.lnil ?_
  refine Z.only [0, 4, 11] rfl ?_
  refine Z.nthen ?_
  refine Z.cond rfl (fun hc2 => ?_) (fun hc2 => ?_)
  · first
      | (exfalso; simp at hc2 <;> omega)
      | (
        (try simp at hc2)
        refine Z.seq ?_
        refine Z.region ?_
        refine Z.lb 2 rfl ?_
        refine Z.lnil ?_
        refine Z.only [2, 3] rfl ?_
        refine Z.nthen ?_
        refine Z.ret ?_
        repeat (first | refine Z.rthen ?_ | refine Z.rblock ?_ | refine Z.rscope ?_)
        -- ret#0
        refine Z.out2 (by exact ⟨rfl, rfl, trivial⟩) ?_
        exact ⟨_, rfl, by unfold limV limE; rw [if_pos (by omega), if_pos (by omega)], hs.sub (List.nil_sublist _)⟩
        )
  · first
      | (exfalso; simp at hc2 <;> omega)
      | (
        (try simp at hc2)
        refine Z.skip ?_
        refine Z.nthen ?_
        refine Z.seq ?_
        refine Z.region ?_
        have hget : Z.nth (lmC 63) (0 + n.toNat * 1) = some (.int .i64 (lim n.toNat)) := by
          rw [Z.nth_eq, show 0 + n.toNat * 1 = n.toNat from by omega]
          exact lmC_get (by omega) (by omega)
        refine Z.l rfl rfl (by rfl) (Z.keepS hs) (Z.Yd.pure rfl) ?_
        refine Z.l rfl rfl (by rfl) (Z.keepS hs) (Z.Yd.elemA rfl rfl Try.underlying73 Try.sizeOf3 (fun hG => ⟨(by first | omega | (have hG' := Z.gh rfl hG; simp at hG'; omega)), (by first | omega | (have hG' := Z.gh rfl hG; simp at hG'; omega))⟩)) ?_
        refine Z.l rfl rfl (by rfl) (Z.keepS hs) (Z.Yd.load rfl Try.isAgg3 (fun _ => Z.cellB (cs := (lmC 63).toArray) (by first | ((repeat (first | exact List.mem_cons_self | refine List.mem_cons_of_mem _ ?_ | refine List.mem_append_right _ ?_)); done) | fail) hget)) ?_
        refine Z.lb 2 rfl ?_
        refine Z.lnil ?_
        refine Z.only [2, 3] rfl ?_
        refine Z.nthen ?_
        refine Z.ret ?_
        -- ret#1
        refine Z.out2 (by exact ⟨rfl, rfl, trivial⟩) ?_
        exact ⟨_, rfl, by unfold limV limE; rw [if_neg (by omega), if_neg (by omega)], hs.sub (List.nil_sublist _)⟩
        )
/-- the document's limit -/
theorem rlimit_any (n : Nat) (w : World) (hn : n ≤ 62) : Calls Try.prog 13 #[.int .i64 (n : Int)] w (SX.Ret fun v w' => v = .int .i64 (lim n) ∧ SX.St w [] w' []) := by
  have hs := SX.St.start w
  refine Z.enter Try.func13 rfl Try.ntmps13 rfl rfl ?_
  refine Z.seq ?_
  refine Z.region ?_
  refine Z.lb 1 rfl ?_
  refine Z.lnil ?_
  refine Z.only [0] rfl ?_
  refine Z.nthen ?_
  refine Z.seq ?_
  refine Z.region ?_
  refine Z.lb 1 rfl ?_
  refine Z.lnil ?_
  refine Z.only [0, 3] rfl ?_
  refine Z.nthen ?_
  refine Z.seq ?_
  refine Z.seq ?_
  refine Z.region ?_
  refine Z.lb 1 rfl ?_
  refine Z.lnil ?_
  refine Z.only [0, 3, 4] rfl ?_
  refine Z.nthen ?_
  refine Z.block ?_
  refine Z.loopk (ι := Nat) [0] rfl (fun k => [(3, [], .int .i64 (lim k)), (4, [], .int .i64 ((k : Int) + 1))]) (fun k wr => k ≤ n ∧ SX.St w [] wr []) (fun k => n - k) 0 (by refine ⟨?_, ?_, trivial⟩ <;> (first | rfl | (refine Z.lookv rfl ?_; simp; done) | (refine Z.lookv rfl ?_; simp; omega))) ⟨by omega, hs⟩ ?_
  clear hs
  rintro k w1 ⟨hk, hs⟩
  refine Z.only [0, 3, 4] rfl ?_
  refine Z.seq ?_
  refine Z.seq ?_
  refine Z.region ?_
  refine Z.lb 3 rfl ?_
  refine Z.lnil ?_
  refine Z.only [0, 3, 4, 7] rfl ?_
  refine Z.nthen ?_
  refine Z.cond rfl (fun hc3 => ?_) (fun hc3 => ?_)
  · first
      | (exfalso; simp at hc3 <;> omega)
      | (
        (try simp at hc3)
        have hbd := lim_bd (k := k) (by omega)
        refine Z.skip ?_
        refine Z.nthen ?_
        refine Z.seq ?_
        refine Z.block ?_
        refine Z.seq ?_
        refine Z.region ?_
        refine Z.lb 2 rfl ?_
        refine Z.lnil ?_
        refine Z.only [0, 3, 4, 11] rfl ?_
        refine Z.nthen ?_
        refine Z.cond rfl (fun hc5 => ?_) (fun hc5 => ?_)
        · first
            | (exfalso; simp at hc5 <;> omega)
            | (
              (try simp at hc5)
              refine Z.region ?_
              refine Z.lb 1 rfl ?_
              refine Z.lnil ?_
              refine Z.only [0, 3, 4] rfl ?_
              refine Z.nblock ?_
              refine Z.nthen ?_
              refine Z.region ?_
              refine Z.lb 1 rfl ?_
              refine Z.l rfl rfl (by rfl) (Z.keepS hs) (Z.Yd.add rfl rfl (fun hG => Z.wi64 (by first | omega | (have hG' := Z.gh rfl hG; simp at hG'; omega)))) ?_
              refine Z.lb 1 rfl ?_
              refine Z.lnil ?_
              refine Z.only [0, 3, 4] rfl ?_
              refine Z.nthen ?_
              by_cases h0 : k = 0
              · subst h0
                first | exact Z.again 1 (by refine ⟨?_, ?_, ?_, trivial⟩ <;> (first | rfl | (refine Z.lookv rfl ?_; simp; done) | (refine Z.lookv rfl ?_; simp; omega))) ⟨by omega, hs⟩ (by omega) | (exfalso; omega)
              · have e := lim_succ k (by omega)
                first | exact Z.again (k + 1) (by rw [e]; exact (by refine ⟨?_, ?_, ?_, trivial⟩ <;> (first | rfl | (refine Z.lookv rfl ?_; simp; done) | (refine Z.lookv rfl ?_; simp; omega)))) ⟨by omega, hs⟩ (by omega) | (exfalso; omega)
              )
        · first
            | (exfalso; simp at hc5 <;> omega)
            | (
              (try simp at hc5)
              refine Z.region ?_
              refine Z.lb 2 rfl ?_
              refine Z.l rfl rfl (by rfl) (Z.keepS hs) (Z.Yd.quo rfl rfl (by intro hG; first | decide | omega) (by intro hG; first | exact Z.qi64 ⟨by omega, by omega⟩ (by omega) | exact rfl)) ?_
              refine Z.l rfl rfl (by rfl) (Z.keepS hs) (Z.Yd.max rfl rfl) ?_
              refine Z.l rfl rfl (by rfl) (Z.keepS hs) (Z.Yd.add rfl rfl (fun hG => Z.wi64 (by first | omega | (have hG' := Z.gh rfl hG; simp at hG'; omega)))) ?_
              refine Z.lb 1 rfl ?_
              refine Z.lnil ?_
              refine Z.only [0, 3, 4] rfl ?_
              refine Z.nblock ?_
              refine Z.nthen ?_
              refine Z.region ?_
              refine Z.lb 1 rfl ?_
              refine Z.l rfl rfl (by rfl) (Z.keepS hs) (Z.Yd.add rfl rfl (fun hG => Z.wi64 (by first | omega | (have hG' := Z.gh rfl hG; simp at hG'; omega)))) ?_
              refine Z.lb 1 rfl ?_
              refine Z.lnil ?_
              refine Z.only [0, 3, 4] rfl ?_
              refine Z.nthen ?_
              by_cases h0 : k = 0
              · subst h0
                first | exact Z.again 1 (by refine ⟨?_, ?_, ?_, trivial⟩ <;> (first | rfl | (refine Z.lookv rfl ?_; simp; done) | (refine Z.lookv rfl ?_; simp; omega))) ⟨by omega, hs⟩ (by omega) | (exfalso; omega)
              · have e := lim_succ k (by omega)
                first | exact Z.again (k + 1) (by rw [e]; exact (by refine ⟨?_, ?_, ?_, trivial⟩ <;> (first | rfl | (refine Z.lookv rfl ?_; simp; done) | (refine Z.lookv rfl ?_; simp; omega)))) ⟨by omega, hs⟩ (by omega) | (exfalso; omega)
              )
        )
  · first
      | (exfalso; simp at hc3 <;> omega)
      | (
        (try simp at hc3)
        refine Z.exit ?_
        refine Z.xthen ?_
        refine Z.xthen ?_
        refine Z.xblock ?_
        refine Z.nthen ?_
        refine Z.seq ?_
        refine Z.region ?_
        refine Z.lb 2 rfl ?_
        refine Z.lnil ?_
        refine Z.only [2] rfl ?_
        refine Z.nthen ?_
        refine Z.ret ?_
        -- ret#0
        refine Z.out1 (by exact ⟨rfl, trivial⟩) ?_
        obtain rfl : k = n := by omega
        exact ⟨_, rfl, rfl, hs⟩
        )
theorem rlevel_any (x : Int) (w : World) : Calls Try.prog 9 #[.int .i64 x] w (SX.Ret fun v w' => v = .int .i64 (lvl x : Int) ∧ SX.St w [] w' []) := by
  have hs := SX.St.start w
  refine Z.enter Try.func9 rfl Try.ntmps9 rfl rfl ?_
  refine Z.seq ?_
  refine Z.region ?_
  refine Z.lb 1 rfl ?_
  refine Z.lnil ?_
  refine Z.only [0] rfl ?_
  refine Z.nthen ?_
  refine Z.seq ?_
  refine Z.seq ?_
  refine Z.region ?_
  refine Z.lb 1 rfl ?_
  refine Z.lnil ?_
  refine Z.only [0, 3] rfl ?_
  refine Z.nthen ?_
  refine Z.block ?_
  refine Z.loopk (ι := Nat) [0] rfl (fun k => [(3, [], .int .i64 (k : Int))]) (fun k wr => (k ≤ 63 ∧ ∀ j : Nat, j < k → lim j < x) ∧ SX.St w [] wr []) (fun k => 63 - k) 0 (by refine ⟨?_, trivial⟩ <;> (first | rfl | (refine Z.lookv rfl ?_; simp; done) | (refine Z.lookv rfl ?_; simp; omega))) ⟨⟨by omega, fun j hj => by omega⟩, hs⟩ ?_
  clear hs
  rintro k w1 ⟨⟨hk, hj⟩, hs⟩
  refine Z.only [0, 3] rfl ?_
  refine Z.seq ?_
  refine Z.seq ?_
  refine Z.region ?_
  refine Z.lb 2 rfl ?_
  refine Z.lnil ?_
  refine Z.only [0, 3, 5] rfl ?_
  refine Z.nthen ?_
  refine Z.cond rfl (fun hc2 => ?_) (fun hc2 => ?_)
  · first
      | (exfalso; simp at hc2 <;> omega)
      | (
        (try simp at hc2)
        refine Z.skip ?_
        refine Z.nthen ?_
        refine Z.seq ?_
        refine Z.block ?_
        refine Z.seq ?_
        refine Z.region ?_
        refine Z.lb 1 rfl ?_
        refine Z.le rfl trivial ?_
        refine Z.ZO.call rfl rfl (by rfl) rfl rfl Try.call13 rfl (rlimit_any k _ (by omega)) ?_
        rintro v4_1 w4_1 ⟨rfl, hy⟩
        replace hs := hs.call hy
        clear hy
        try simp only [List.cons_append, List.nil_append, List.append_nil] at hs
        refine Z.lb 2 rfl ?_
        refine Z.lnil ?_
        refine Z.only [0, 3, 11] rfl ?_
        refine Z.nthen ?_
        refine Z.cond rfl (fun hc4 => ?_) (fun hc4 => ?_)
        · first
            | (exfalso; simp at hc4 <;> omega)
            | (
              (try simp at hc4)
              refine Z.seq ?_
              refine Z.region ?_
              refine Z.lb 2 rfl ?_
              refine Z.lnil ?_
              refine Z.only [2] rfl ?_
              refine Z.nthen ?_
              refine Z.ret ?_
              repeat (first | refine Z.rthen ?_ | refine Z.rblock ?_ | refine Z.rscope ?_)
              -- ret#0
              refine Z.out1 (by exact ⟨rfl, trivial⟩) ?_
              exact ⟨_, rfl, by rw [lvl_eq hk hj (fun j h1 h2 => by have := lim_mono h1; omega)], hs⟩
              )
        · first
            | (exfalso; simp at hc4 <;> omega)
            | (
              (try simp at hc4)
              refine Z.skip ?_
              refine Z.nblock ?_
              refine Z.nthen ?_
              refine Z.region ?_
              refine Z.lb 1 rfl ?_
              refine Z.l rfl rfl (by rfl) (Z.keepS hs) (Z.Yd.add rfl rfl (fun hG => Z.wi64 (by first | omega | (have hG' := Z.gh rfl hG; simp at hG'; omega)))) ?_
              refine Z.lb 1 rfl ?_
              refine Z.lnil ?_
              refine Z.only [0, 3] rfl ?_
              refine Z.nthen ?_
              exact Z.again (k + 1) (by refine ⟨?_, ?_, trivial⟩ <;> (first | rfl | (refine Z.lookv rfl ?_; simp; done) | (refine Z.lookv rfl ?_; simp; omega))) ⟨⟨by omega, fun j h1 => by
                by_cases e : j = k
                · rw [e]; omega
                · exact hj j (by omega)⟩, hs⟩ (by omega)
              )
        )
  · first
      | (exfalso; simp at hc2 <;> omega)
      | (
        (try simp at hc2)
        refine Z.exit ?_
        refine Z.xthen ?_
        refine Z.xthen ?_
        refine Z.xblock ?_
        refine Z.nthen ?_
        refine Z.seq ?_
        refine Z.region ?_
        refine Z.lb 1 rfl ?_
        refine Z.lnil ?_
        refine Z.only [2] rfl ?_
        refine Z.nthen ?_
        refine Z.ret ?_
        -- ret#1
        refine Z.out1 (by exact ⟨rfl, trivial⟩) ?_
        obtain rfl : k = 63 := by omega
        exact ⟨_, rfl, by rw [lvl_eq hk hj (fun j h1 h2 => by omega)]; rfl, hs⟩
        )
theorem num24 (e : Int) (w : World) : Calls Try.prog 17 #[.int .i64 e] w (SX.Ret fun v w' => v = .int .i64 e ∧ SX.St w [] w' []) := by
  have hs := SX.St.start w
  refine Z.enter Try.func17 rfl Try.ntmps17 rfl rfl ?_
  refine Z.seq ?_
  refine Z.region ?_
  refine Z.lb 1 rfl ?_
  refine Z.lnil ?_
  refine Z.only [0] rfl ?_
  refine Z.nthen ?_
  refine Z.seq ?_
  refine Z.region ?_
  refine Z.lb 2 rfl ?_
  refine Z.lnil ?_
  refine Z.only [2] rfl ?_
  refine Z.nthen ?_
  refine Z.ret ?_
  -- ret#0
  refine Z.out1 (by exact ⟨rfl, trivial⟩) ?_
  first | exact ⟨_, rfl, rfl, hs⟩ | exact ⟨_, rfl, rfl, hs.sub (List.nil_sublist _)⟩
theorem counts24 (n e want no : Int) (w : World) : Calls Try.prog 29 #[.int .i64 n, .int .i64 e, .int .i64 want, .int .i64 no] w (SX.Ret fun v w' => v = .bool (decide (n = want ∧ e = no)) ∧ SX.St w [] w' []) := by
  have hs := SX.St.start w
  refine Z.enter Try.func29 rfl Try.ntmps29 rfl rfl ?_
  refine Z.seq ?_
  refine Z.region ?_
  refine Z.lb 1 rfl ?_
  refine Z.lnil ?_
  refine Z.only [0, 1, 2, 3] rfl ?_
  refine Z.nthen ?_
  refine Z.seq ?_
  refine Z.region ?_
  refine Z.lb 4 rfl ?_
  refine Z.split (s := 12) rfl (fun hsp12 => ?_) (fun hsp12 => ?_)
  · first
      | (exfalso; simp at hsp12 <;> omega)
      | (
        refine Z.yes (s := 12) (b := true) rfl hsp12 rfl ?_
        (try simp at hsp12)
        refine Z.lb 1 rfl ?_
        refine Z.yes (s := 12) (b := true) rfl rfl rfl ?_
        refine Z.le rfl (by exact ⟨rfl, trivial⟩) ?_
        refine Z.ZO.call rfl rfl (by rfl) rfl rfl Try.call17 rfl (num24 _ _) ?_
        rintro v1_5 w1_5 ⟨rfl, hy⟩
        replace hs := hs.call hy
        clear hy
        try simp only [List.cons_append, List.nil_append, List.append_nil] at hs
        refine Z.lb 2 rfl ?_
        refine Z.yes (s := 12) (b := true) rfl rfl rfl ?_
        refine Z.l rfl rfl (by rfl) (Z.keepS hs) (Z.Yd.pickT rfl rfl) ?_
        refine Z.lb 1 rfl ?_
        refine Z.lnil ?_
        refine Z.only [8] rfl ?_
        refine Z.nthen ?_
        refine Z.ret ?_
        -- ret#0
        refine Z.out1 (by exact ⟨rfl, trivial⟩) ?_
        exact ⟨_, rfl, by simp_all <;> rfl, hs⟩
        )
  · first
      | (exfalso; simp at hsp12 <;> omega)
      | (
        refine Z.yes (s := 12) (b := false) rfl hsp12 rfl ?_
        (try simp at hsp12)
        refine Z.ls rfl rfl rfl (by rfl) ?_
        refine Z.ls rfl rfl rfl (by rfl) ?_
        refine Z.ls rfl rfl rfl (by rfl) ?_
        refine Z.ls rfl rfl rfl (by rfl) ?_
        refine Z.l rfl rfl (by rfl) (Z.keepS hs) (Z.Yd.pickF rfl rfl) ?_
        refine Z.lb 1 rfl ?_
        refine Z.lnil ?_
        refine Z.only [8] rfl ?_
        refine Z.nthen ?_
        refine Z.ret ?_
        -- ret#1
        refine Z.out1 (by exact ⟨rfl, trivial⟩) ?_
        exact ⟨_, rfl, by simp_all <;> rfl, hs⟩
        )
theorem level24 (x want no : Int) (w : World) : Calls Try.prog 10 #[.int .i64 x, .int .i64 want, .int .i64 no] w (SX.Ret fun v w' => v = .bool (decide (levV x = want ∧ levE x = no)) ∧ SX.St w [] w' []) := by
  have hs := SX.St.start w
  refine Z.enter Try.func10 rfl Try.ntmps10 rfl rfl ?_
  refine Z.seq ?_
  refine Z.region ?_
  refine Z.lb 1 rfl ?_
  refine Z.lnil ?_
  refine Z.only [0, 1, 2] rfl ?_
  refine Z.nthen ?_
  refine Z.seq ?_
  refine Z.region ?_
  refine Z.lb 1 rfl ?_
  refine Z.le rfl trivial ?_
  refine Z.ZO.call rfl rfl (by rfl) rfl rfl Try.call30 rfl (clevel_any x _) ?_
  rintro v1_1 w1_1 ⟨rfl, hy⟩
  replace hs := hs.call hy
  clear hy
  try simp only [List.cons_append, List.nil_append, List.append_nil] at hs
  refine Z.lb 5 rfl ?_
  refine Z.lnil ?_
  refine Z.only [1, 2, 7, 8] rfl ?_
  refine Z.nthen ?_
  refine Z.seq ?_
  refine Z.region ?_
  refine Z.lb 4 rfl ?_
  refine Z.le rfl trivial ?_
  refine Z.ZO.call rfl rfl (by rfl) rfl rfl Try.call29 rfl (counts24 _ _ _ _ _) ?_
  rintro v2_4 w2_4 ⟨rfl, hy⟩
  replace hs := hs.call hy
  clear hy
  try simp only [List.cons_append, List.nil_append, List.append_nil] at hs
  refine Z.lb 1 rfl ?_
  refine Z.lnil ?_
  refine Z.only [6] rfl ?_
  refine Z.nthen ?_
  refine Z.ret ?_
  -- ret#0
  refine Z.out1 (by exact ⟨rfl, trivial⟩) ?_
  first | exact ⟨_, rfl, rfl, hs⟩ | exact ⟨_, rfl, rfl, hs.sub (List.nil_sublist _)⟩
theorem limit24 (x want no : Int) (w : World) : Calls Try.prog 11 #[.int .i64 x, .int .i64 want, .int .i64 no] w (SX.Ret fun v w' => v = .bool (decide (limV x = want ∧ limE x = no)) ∧ SX.St w [] w' []) := by
  have hs := SX.St.start w
  refine Z.enter Try.func11 rfl Try.ntmps11 rfl rfl ?_
  refine Z.seq ?_
  refine Z.region ?_
  refine Z.lb 1 rfl ?_
  refine Z.lnil ?_
  refine Z.only [0, 1, 2] rfl ?_
  refine Z.nthen ?_
  refine Z.seq ?_
  refine Z.region ?_
  refine Z.lb 1 rfl ?_
  refine Z.le rfl trivial ?_
  refine Z.ZO.call rfl rfl (by rfl) rfl rfl Try.call31 rfl (climit_any x _) ?_
  rintro v1_1 w1_1 ⟨rfl, hy⟩
  replace hs := hs.call hy
  clear hy
  try simp only [List.cons_append, List.nil_append, List.append_nil] at hs
  refine Z.lb 5 rfl ?_
  refine Z.lnil ?_
  refine Z.only [1, 2, 7, 8] rfl ?_
  refine Z.nthen ?_
  refine Z.seq ?_
  refine Z.region ?_
  refine Z.lb 4 rfl ?_
  refine Z.le rfl trivial ?_
  refine Z.ZO.call rfl rfl (by rfl) rfl rfl Try.call29 rfl (counts24 _ _ _ _ _) ?_
  rintro v2_4 w2_4 ⟨rfl, hy⟩
  replace hs := hs.call hy
  clear hy
  try simp only [List.cons_append, List.nil_append, List.append_nil] at hs
  refine Z.lb 1 rfl ?_
  refine Z.lnil ?_
  refine Z.only [6] rfl ?_
  refine Z.nthen ?_
  refine Z.ret ?_
  -- ret#0
  refine Z.out1 (by exact ⟨rfl, trivial⟩) ?_
  first | exact ⟨_, rfl, rfl, hs⟩ | exact ⟨_, rfl, rfl, hs.sub (List.nil_sublist _)⟩
end Go.Proofs.Yteabcdmgklhijaa

/- Control elements: the examples of the chapter. -/
namespace Go.Proofs.Yteabcdmgklhijaa
open Go.RowKit
set_option linter.unusedSimpArgs false
set_option linter.unusedVariables false
--newlaws

instance (r : RepV) : Decidable r.ok := by unfold RepV.ok okL; infer_instance
theorem encrep_ok (r : RepV) (w : World) (hr : r.ok) :
    Calls Try.prog 14 #[.agg r.cells.toArray] w (SX.Ret fun v w' => ∃ u, v = .tuple #[u, .int .i64 0] ∧ IsPart (encLc r) (encL r) u w w') := by
  have hs := SX.St.start w
  refine Z.enter Try.func14 rfl Try.ntmps14 rfl rfl ?_
  refine Z.seq ?_
  refine Z.region ?_
  refine Z.le rfl trivial ?_
  refine Z.ZO.box rfl rfl (by rfl) rfl rfl hs ?_
  clear hs; intro g1 w1 hs
  refine Z.le rfl trivial ?_
  refine Z.ZO.alloc rfl rfl (by rfl) Try.zeroValue31 rfl hs ?_
  clear hs; intro g2 w2 hs
  refine Z.lb 1 rfl ?_
  refine Z.lnil ?_
  refine Z.only [1, 2] rfl ?_
  refine Z.nthen ?_
  refine Z.seq ?_
  refine Z.region ?_
  refine Z.lb 1 rfl ?_
  have hof : ∀ W L, SX.St w2 [] W L → Calls Try.prog 33 #[.pointer (some ⟨g1, 0, none⟩)] W (SX.Ret fun v w' => IsPart (encLc r) (encL r) v W w') := fun W L hW => by
    obtain ⟨a1, a2⟩ := blkLater hs (j := 1) rfl hW
    cases hl : r.long with
    | true =>
      have := encrep1_long g1 r W ⟨a1, fun i u hu => a2 i u (by simpa using hu)⟩ hr hl
      unfold encLc encL
      rw [if_pos hl, if_pos hl]
      exact this
    | false =>
      have := encrep1_short g1 r W ⟨a1, fun i u hu => a2 i u (by simpa using hu)⟩ hr hl
      unfold encLc encL
      rw [if_neg (by simp [hl]), if_neg (by simp [hl])]
      exact this
  refine Z.le rfl trivial ?_
  refine Z.ZO.call rfl rfl (by rfl) rfl rfl Try.call32 rfl (element_ok _ _ (encLc r) _ _ Try.call33 hof) ?_
  rintro v1_1 w1_1 ⟨u, rfl, B, co, rfl, hy⟩
  replace hs := hs.call hy
  clear hy
  try simp only [List.cons_append, List.nil_append, List.append_nil] at hs
  refine Z.lb 2 rfl ?_
  refine Z.le rfl trivial ?_
  refine Z.ZO.storeA rfl rfl hs rfl rfl (by kernel_rfl) (by simp [Value.oneCell']) (by first | exact SX.at0 | exact SX.at1 | exact SX.at2 | exact SX.at3 | exact SX.at4 | exact SX.at5 | exact Z.at6 | exact Z.at7 | exact Z.at8 | exact Z.at9 | exact Z.at10 | exact Z.at11 | exact Z.at12) (by rfl) ?_
  clear hs; intro ws hs
  simp only [Nat.zero_add, Nat.add_zero, Nat.reduceAdd, Int.reduceToNat, Nat.reduceMul, List.set_cons_zero, List.set_cons_succ, List.setIfInBounds_toArray] at hs
  refine Z.lb 1 rfl ?_
  refine Z.lnil ?_
  refine Z.only [2, 3] rfl ?_
  refine Z.nthen ?_
  refine Z.ret ?_
  -- ret#0
  refine Z.out2 (by exact ⟨⟨_, rfl, Z.rvcA hs Try.isAgg31 (by first | ((repeat (first | exact List.mem_cons_self | refine List.mem_cons_of_mem _ ?_ | refine List.mem_append_right _ ?_)); done) | fail) (by exact Try.sizeOf31)⟩, rfl, trivial⟩) ?_
  exact ⟨_, rfl, _, rfl, B, co, rfl, hs.sel [0] (by decide)⟩
theorem encrep_bad (r : RepV) (w : World) (hr : ¬ r.ok) :
    Calls Try.prog 14 #[.agg r.cells.toArray] w (SX.Ret fun v w' => v = .tuple #[.agg #[.int .i64 0, .slice none 0 0], .int .i64 2] ∧ SX.St w [] w' []) := by
  have hs := SX.St.start w
  refine Z.enter Try.func14 rfl Try.ntmps14 rfl rfl ?_
  refine Z.seq ?_
  refine Z.region ?_
  refine Z.le rfl trivial ?_
  refine Z.ZO.box rfl rfl (by rfl) rfl rfl hs ?_
  clear hs; intro g1 w1 hs
  refine Z.le rfl trivial ?_
  refine Z.ZO.alloc rfl rfl (by rfl) Try.zeroValue31 rfl hs ?_
  clear hs; intro g2 w2 hs
  refine Z.lb 1 rfl ?_
  refine Z.lnil ?_
  refine Z.only [1, 2] rfl ?_
  refine Z.nthen ?_
  refine Z.seq ?_
  refine Z.region ?_
  refine Z.lb 1 rfl ?_
  have hof : ∀ W L, SX.St w2 [] W L → Calls Try.prog 33 #[.pointer (some ⟨g1, 0, none⟩)] W (PanE 2 fun w' => SX.St W [] w' []) := fun W L hW => by
    obtain ⟨a1, a2⟩ := blkLater hs (j := 1) rfl hW
    exact encrep1_bad g1 r W ⟨a1, fun i u hu => a2 i u (by simpa using hu)⟩ hr
  refine Z.le rfl trivial ?_
  refine Z.ZO.call rfl rfl (by rfl) rfl rfl Try.call32 rfl (element_bad _ _ 2 _ Try.call33 hof) ?_
  rintro v1_1 w1_1 ⟨rfl, hy⟩
  replace hs := hs.call hy
  clear hy
  try simp only [List.cons_append, List.nil_append, List.append_nil] at hs
  refine Z.lb 2 rfl ?_
  refine Z.le rfl trivial ?_
  refine Z.ZO.storeA rfl rfl hs rfl rfl (by kernel_rfl) (by simp [Value.oneCell']) (by first | exact SX.at0 | exact SX.at1 | exact SX.at2 | exact SX.at3 | exact SX.at4 | exact SX.at5 | exact Z.at6 | exact Z.at7 | exact Z.at8 | exact Z.at9 | exact Z.at10 | exact Z.at11 | exact Z.at12) (by rfl) ?_
  clear hs; intro ws hs
  simp only [Nat.zero_add, Nat.add_zero, Nat.reduceAdd, Int.reduceToNat, Nat.reduceMul, List.set_cons_zero, List.set_cons_succ, List.setIfInBounds_toArray] at hs
  refine Z.lb 1 rfl ?_
  refine Z.lnil ?_
  refine Z.only [2, 3] rfl ?_
  refine Z.nthen ?_
  refine Z.ret ?_
  -- ret#0
  refine Z.out2 (by exact ⟨⟨_, rfl, Z.rvcA hs Try.isAgg31 (by first | ((repeat (first | exact List.mem_cons_self | refine List.mem_cons_of_mem _ ?_ | refine List.mem_append_right _ ?_)); done) | fail) (by exact Try.sizeOf31)⟩, rfl, trivial⟩) ?_
  exact ⟨_, rfl, rfl, hs.sub (List.nil_sublist _)⟩
theorem _root_.Go.Proofs.Yteabcdmgklhijaa.SX.St.slm {w0 w : World} {M : List Nat} {L : List SX.Ent} {T k size c m : Nat} {A : Option Addr} {xs : List Value} (hs : SX.St w0 M w L) (hm : SX.Ent.row (.slice A k c) T size m xs ∈ L) : Sl w A xs := by
  obtain ⟨j, hj⟩ := List.getElem?_of_mem hm
  exact SX.row_slB hs hj
theorem is24 (lc e lcid no : Int) (A : Option Addr) (n c : Nat) (l : List Int) (s : ByteArray) (w : World) (hx : Sl w A (ints .u8 l)) (hl : l.length = n) :
    Calls Try.prog 21 #[.agg #[.int .i64 lc, .slice A n c], .int .i64 e, .int .i64 lcid, .string s, .int .i64 no] w (SX.Ret fun v w' => v = .bool (decide (lc = lcid) && ((l.map fun n => UInt8.ofNat n.toNat) == s.data.toList) && decide (e = no)) ∧ SX.St w [] w' []) := by
  have hs := SX.St.start w
  have hst : (l.map fun n => UInt8.ofNat n.toNat) = (Z.strOf l).toList := by rw [ByteArray.toList_eq, Z.strOf_list]
  have hss : s.data.toList = s.toList := by rw [ByteArray.toList_eq]
  rw [hst, hss]
  refine Z.enter Try.func21 rfl Try.ntmps21 rfl rfl ?_
  refine Z.seq ?_
  refine Z.region ?_
  refine Z.le rfl trivial ?_
  refine Z.ZO.box rfl rfl (by rfl) rfl rfl hs ?_
  clear hs; intro g5 w5 hs
  refine Z.lb 1 rfl ?_
  refine Z.lnil ?_
  refine Z.only [1, 2, 3, 4, 5] rfl ?_
  refine Z.nthen ?_
  refine Z.seq ?_
  refine Z.region ?_
  refine Z.l rfl rfl (by rfl) (Z.keepS hs) (Z.Yd.fieldA (m := 0) rfl (by kernel_rfl)) ?_
  refine Z.l rfl rfl (by rfl) (Z.keepS hs) (by first | exact Z.Yd.load rfl Try.isAgg3 (fun _ => Z.cellB (by first | ((repeat (first | exact List.mem_cons_self | refine List.mem_cons_of_mem _ ?_ | refine List.mem_append_right _ ?_)); done) | fail) rfl) | exact Z.Yd.load rfl Try.isAgg3 (fun _ => Z.cellO (by assumption) (by simp) (by assumption)) | fail "load 1.1") ?_
  refine Z.lb 3 rfl ?_
  refine Z.split (s := 15) rfl (fun hsp15 => ?_) (fun hsp15 => ?_)
  · first
      | (exfalso; simp at hsp15 <;> omega)
      | (
        refine Z.yes (s := 15) (b := true) rfl hsp15 rfl ?_
        (try simp at hsp15)
        refine Z.l rfl rfl (by rfl) (Z.keepS hs) (Z.Yd.fieldA (m := 1) rfl (by kernel_rfl)) ?_
        refine Z.l rfl rfl (by rfl) (Z.keepS hs) (by first | exact Z.Yd.load rfl Try.isAgg29 (fun _ => Z.cellB (by first | ((repeat (first | exact List.mem_cons_self | refine List.mem_cons_of_mem _ ?_ | refine List.mem_append_right _ ?_)); done) | fail) rfl) | exact Z.Yd.load rfl Try.isAgg29 (fun _ => Z.cellO (by assumption) (by simp) (by assumption)) | fail "load 1.6") ?_
        refine Z.l rfl rfl (by rfl) (Z.keepS hs) (Z.Yd.b2s rfl Try.underlying29 Try.underlying5 Try.underlying9 hl (fun W hW => by obtain ⟨R, hR, _⟩ := hW; exact hx.st hR)) ?_
        refine Z.lb 1 rfl ?_
        refine Z.l rfl rfl (by rfl) (Z.keepS hs) (Z.Yd.strEq rfl rfl) ?_
        refine Z.yes (s := 15) (b := true) rfl rfl rfl ?_
        refine Z.l rfl rfl (by rfl) (Z.keepS hs) (Z.Yd.pickT rfl rfl) ?_
        refine Z.lb 1 rfl ?_
        refine Z.split (s := 22) rfl (fun hsp22 => ?_) (fun hsp22 => ?_)
        · first
            | (exfalso; simp at hsp22 <;> omega)
            | (
              refine Z.yes (s := 22) (b := true) rfl hsp22 rfl ?_
              (try simp at hsp22)
              refine Z.lb 1 rfl ?_
              refine Z.yes (s := 22) (b := true) rfl rfl rfl ?_
              refine Z.le rfl (by exact ⟨rfl, trivial⟩) ?_
              refine Z.ZO.call rfl rfl (by rfl) rfl rfl Try.call17 rfl (num24 _ _) ?_
              rintro v1_13 w1_13 ⟨rfl, hy⟩
              replace hs := hs.call hy
              clear hy
              try simp only [List.cons_append, List.nil_append, List.append_nil] at hs
              refine Z.lb 2 rfl ?_
              refine Z.yes (s := 22) (b := true) rfl rfl rfl ?_
              refine Z.l rfl rfl (by rfl) (Z.keepS hs) (Z.Yd.pickT rfl rfl) ?_
              refine Z.lb 1 rfl ?_
              refine Z.lnil ?_
              refine Z.only [10] rfl ?_
              refine Z.nthen ?_
              refine Z.ret ?_
              -- ret#0
              refine Z.out1 (by exact ⟨rfl, trivial⟩) ?_
              exact ⟨_, rfl, by simp_all <;> rfl, hs.sub (List.nil_sublist _)⟩
              )
        · first
            | (exfalso; simp at hsp22 <;> omega)
            | (
              refine Z.yes (s := 22) (b := false) rfl hsp22 rfl ?_
              (try simp at hsp22)
              refine Z.ls rfl rfl rfl (by rfl) ?_
              refine Z.ls rfl rfl rfl (by rfl) ?_
              refine Z.ls rfl rfl rfl (by rfl) ?_
              refine Z.ls rfl rfl rfl (by rfl) ?_
              refine Z.l rfl rfl (by rfl) (Z.keepS hs) (Z.Yd.pickF rfl rfl) ?_
              refine Z.lb 1 rfl ?_
              refine Z.lnil ?_
              refine Z.only [10] rfl ?_
              refine Z.nthen ?_
              refine Z.ret ?_
              -- ret#1
              refine Z.out1 (by exact ⟨rfl, trivial⟩) ?_
              exact ⟨_, rfl, by simp_all <;> rfl, hs.sub (List.nil_sublist _)⟩
              )
        )
  · first
      | (exfalso; simp at hsp15 <;> omega)
      | (
        refine Z.yes (s := 15) (b := false) rfl hsp15 rfl ?_
        (try simp at hsp15)
        refine Z.ls rfl rfl rfl (by rfl) ?_
        refine Z.ls rfl rfl rfl (by rfl) ?_
        refine Z.ls rfl rfl rfl (by rfl) ?_
        refine Z.ls rfl rfl rfl (by rfl) ?_
        refine Z.ls rfl rfl rfl (by rfl) ?_
        refine Z.l rfl rfl (by rfl) (Z.keepS hs) (Z.Yd.pickF rfl rfl) ?_
        refine Z.lb 1 rfl ?_
        refine Z.split (s := 22) rfl (fun hsp22 => ?_) (fun hsp22 => ?_)
        · first
            | (exfalso; simp at hsp22 <;> omega)
            | (
              refine Z.yes (s := 22) (b := true) rfl hsp22 rfl ?_
              (try simp at hsp22)
              refine Z.lb 1 rfl ?_
              refine Z.yes (s := 22) (b := true) rfl rfl rfl ?_
              refine Z.le rfl (by exact ⟨rfl, trivial⟩) ?_
              refine Z.ZO.call rfl rfl (by rfl) rfl rfl Try.call17 rfl (num24 _ _) ?_
              rintro v1_13 w1_13 ⟨rfl, hy⟩
              replace hs := hs.call hy
              clear hy
              try simp only [List.cons_append, List.nil_append, List.append_nil] at hs
              refine Z.lb 2 rfl ?_
              refine Z.yes (s := 22) (b := true) rfl rfl rfl ?_
              refine Z.l rfl rfl (by rfl) (Z.keepS hs) (Z.Yd.pickT rfl rfl) ?_
              refine Z.lb 1 rfl ?_
              refine Z.lnil ?_
              refine Z.only [10] rfl ?_
              refine Z.nthen ?_
              refine Z.ret ?_
              -- ret#2
              refine Z.out1 (by exact ⟨rfl, trivial⟩) ?_
              exact ⟨_, rfl, by simp_all <;> rfl, hs.sub (List.nil_sublist _)⟩
              )
        · first
            | (exfalso; simp at hsp22 <;> omega)
            | (
              refine Z.yes (s := 22) (b := false) rfl hsp22 rfl ?_
              (try simp at hsp22)
              refine Z.ls rfl rfl rfl (by rfl) ?_
              refine Z.ls rfl rfl rfl (by rfl) ?_
              refine Z.ls rfl rfl rfl (by rfl) ?_
              refine Z.ls rfl rfl rfl (by rfl) ?_
              refine Z.l rfl rfl (by rfl) (Z.keepS hs) (Z.Yd.pickF rfl rfl) ?_
              refine Z.lb 1 rfl ?_
              refine Z.lnil ?_
              refine Z.only [10] rfl ?_
              refine Z.nthen ?_
              refine Z.ret ?_
              -- ret#3
              refine Z.out1 (by exact ⟨rfl, trivial⟩) ?_
              exact ⟨_, rfl, by simp_all <;> rfl, hs.sub (List.nil_sublist _)⟩
              )
        )
set_option maxRecDepth 100000 in
theorem works24 (w : World) : Calls Try.prog 12 #[] w (SX.Ret fun v w' => v = .bool true ∧ SX.St w [] w' []) := by
  have hs := SX.St.start w
  refine Z.enter Try.func12 rfl Try.ntmps12 rfl rfl ?_
  refine Z.seq ?_
  refine Z.region ?_
  refine Z.lb 1 rfl ?_
  refine Z.lnil ?_
  refine Z.only [] rfl ?_
  refine Z.nthen ?_
  refine Z.seq ?_
  refine Z.seq ?_
  refine Z.region ?_
  refine Z.le rfl trivial ?_
  refine Z.ZO.call rfl rfl (by rfl) rfl rfl Try.call11 rfl (limit24 1 10 0 _) ?_
  rintro v1_0 w1_0 ⟨rfl, hy⟩
  replace hs := hs.call hy
  clear hy
  try simp only [List.cons_append, List.nil_append, List.append_nil] at hs
  refine Z.lb 2 rfl ?_
  refine Z.yes (s := 19) (b := false) rfl ((by decide +kernel)) rfl ?_
  refine Z.le rfl (by exact ⟨rfl, trivial⟩) ?_
  refine Z.ZO.call rfl rfl (by rfl) rfl rfl Try.call11 rfl (limit24 2 12 0 _) ?_
  rintro v1_3 w1_3 ⟨rfl, hy⟩
  replace hs := hs.call hy
  clear hy
  try simp only [List.cons_append, List.nil_append, List.append_nil] at hs
  refine Z.lb 1 rfl ?_
  refine Z.yes (s := 19) (b := false) rfl rfl rfl ?_
  refine Z.l rfl rfl (by rfl) (Z.keepS hs) (Z.Yd.pickF rfl rfl) ?_
  refine Z.lb 1 rfl ?_
  refine Z.yes (s := 23) (b := false) rfl ((by decide +kernel)) rfl ?_
  refine Z.le rfl (by exact ⟨rfl, trivial⟩) ?_
  refine Z.ZO.call rfl rfl (by rfl) rfl rfl Try.call11 rfl (limit24 9 32 0 _) ?_
  rintro v1_7 w1_7 ⟨rfl, hy⟩
  replace hs := hs.call hy
  clear hy
  try simp only [List.cons_append, List.nil_append, List.append_nil] at hs
  refine Z.lb 1 rfl ?_
  refine Z.yes (s := 23) (b := false) rfl rfl rfl ?_
  refine Z.l rfl rfl (by rfl) (Z.keepS hs) (Z.Yd.pickF rfl rfl) ?_
  refine Z.lb 1 rfl ?_
  refine Z.yes (s := 27) (b := false) rfl ((by decide +kernel)) rfl ?_
  refine Z.le rfl (by exact ⟨rfl, trivial⟩) ?_
  refine Z.ZO.call rfl rfl (by rfl) rfl rfl Try.call11 rfl (limit24 10 37 0 _) ?_
  rintro v1_11 w1_11 ⟨rfl, hy⟩
  replace hs := hs.call hy
  clear hy
  try simp only [List.cons_append, List.nil_append, List.append_nil] at hs
  refine Z.lb 1 rfl ?_
  refine Z.yes (s := 27) (b := false) rfl rfl rfl ?_
  refine Z.l rfl rfl (by rfl) (Z.keepS hs) (Z.Yd.pickF rfl rfl) ?_
  refine Z.lb 1 rfl ?_
  refine Z.yes (s := 31) (b := false) rfl ((by decide +kernel)) rfl ?_
  refine Z.le rfl (by exact ⟨rfl, trivial⟩) ?_
  refine Z.ZO.call rfl rfl (by rfl) rfl rfl Try.call11 rfl (limit24 63 0 2 _) ?_
  rintro v1_15 w1_15 ⟨rfl, hy⟩
  replace hs := hs.call hy
  clear hy
  try simp only [List.cons_append, List.nil_append, List.append_nil] at hs
  refine Z.lb 1 rfl ?_
  refine Z.yes (s := 31) (b := false) rfl rfl rfl ?_
  refine Z.l rfl rfl (by rfl) (Z.keepS hs) (Z.Yd.pickF rfl rfl) ?_
  refine Z.lb 1 rfl ?_
  refine Z.yes (s := 35) (b := false) rfl ((by decide +kernel)) rfl ?_
  refine Z.le rfl (by exact ⟨rfl, trivial⟩) ?_
  refine Z.ZO.call rfl rfl (by rfl) rfl rfl Try.call10 rfl (level24 0 0 0 _) ?_
  rintro v1_19 w1_19 ⟨rfl, hy⟩
  replace hs := hs.call hy
  clear hy
  try simp only [List.cons_append, List.nil_append, List.append_nil] at hs
  refine Z.lb 1 rfl ?_
  refine Z.yes (s := 35) (b := false) rfl rfl rfl ?_
  refine Z.l rfl rfl (by rfl) (Z.keepS hs) (Z.Yd.pickF rfl rfl) ?_
  refine Z.lb 1 rfl ?_
  refine Z.yes (s := 39) (b := false) rfl ((by decide +kernel)) rfl ?_
  refine Z.le rfl (by exact ⟨rfl, trivial⟩) ?_
  refine Z.ZO.call rfl rfl (by rfl) rfl rfl Try.call10 rfl (level24 1 1 0 _) ?_
  rintro v1_23 w1_23 ⟨rfl, hy⟩
  replace hs := hs.call hy
  clear hy
  try simp only [List.cons_append, List.nil_append, List.append_nil] at hs
  refine Z.lb 1 rfl ?_
  refine Z.yes (s := 39) (b := false) rfl rfl rfl ?_
  refine Z.l rfl rfl (by rfl) (Z.keepS hs) (Z.Yd.pickF rfl rfl) ?_
  refine Z.lb 1 rfl ?_
  refine Z.yes (s := 43) (b := false) rfl ((by decide +kernel)) rfl ?_
  refine Z.le rfl (by exact ⟨rfl, trivial⟩) ?_
  refine Z.ZO.call rfl rfl (by rfl) rfl rfl Try.call10 rfl (level24 10 1 0 _) ?_
  rintro v1_27 w1_27 ⟨rfl, hy⟩
  replace hs := hs.call hy
  clear hy
  try simp only [List.cons_append, List.nil_append, List.append_nil] at hs
  refine Z.lb 1 rfl ?_
  refine Z.yes (s := 43) (b := false) rfl rfl rfl ?_
  refine Z.l rfl rfl (by rfl) (Z.keepS hs) (Z.Yd.pickF rfl rfl) ?_
  refine Z.lb 1 rfl ?_
  refine Z.yes (s := 47) (b := false) rfl ((by decide +kernel)) rfl ?_
  refine Z.le rfl (by exact ⟨rfl, trivial⟩) ?_
  refine Z.ZO.call rfl rfl (by rfl) rfl rfl Try.call10 rfl (level24 11 2 0 _) ?_
  rintro v1_31 w1_31 ⟨rfl, hy⟩
  replace hs := hs.call hy
  clear hy
  try simp only [List.cons_append, List.nil_append, List.append_nil] at hs
  refine Z.lb 1 rfl ?_
  refine Z.yes (s := 47) (b := false) rfl rfl rfl ?_
  refine Z.l rfl rfl (by rfl) (Z.keepS hs) (Z.Yd.pickF rfl rfl) ?_
  refine Z.lb 1 rfl ?_
  refine Z.yes (s := 51) (b := false) rfl ((by decide +kernel)) rfl ?_
  refine Z.le rfl (by exact ⟨rfl, trivial⟩) ?_
  refine Z.ZO.call rfl rfl (by rfl) rfl rfl Try.call10 rfl (level24 1000000 63 0 _) ?_
  rintro v1_35 w1_35 ⟨rfl, hy⟩
  replace hs := hs.call hy
  clear hy
  try simp only [List.cons_append, List.nil_append, List.append_nil] at hs
  refine Z.lb 1 rfl ?_
  refine Z.yes (s := 51) (b := false) rfl rfl rfl ?_
  refine Z.l rfl rfl (by rfl) (Z.keepS hs) (Z.Yd.pickF rfl rfl) ?_
  refine Z.lb 1 rfl ?_
  refine Z.yes (s := 55) (b := false) rfl ((by decide +kernel)) rfl ?_
  refine Z.le rfl (by exact ⟨rfl, trivial⟩) ?_
  refine Z.ZO.call rfl rfl (by rfl) rfl rfl Try.call10 rfl (level24 (-1) 0 2 _) ?_
  rintro v1_39 w1_39 ⟨rfl, hy⟩
  replace hs := hs.call hy
  clear hy
  try simp only [List.cons_append, List.nil_append, List.append_nil] at hs
  refine Z.lb 1 rfl ?_
  refine Z.yes (s := 55) (b := false) rfl rfl rfl ?_
  refine Z.l rfl rfl (by rfl) (Z.keepS hs) (Z.Yd.pickF rfl rfl) ?_
  refine Z.lnil ?_
  refine Z.only [58] rfl ?_
  refine Z.nthen ?_
  refine Z.cond rfl (fun h => absurd h (by decide +kernel)) (fun hc1 => ?_)
  refine Z.skip ?_
  refine Z.nthen ?_
  refine Z.seq ?_
  refine Z.region ?_
  refine Z.l rfl rfl (by rfl) (Z.keepS hs) (Z.Yd.buildL [(0, 1), (1, 1), (2, 1), (3, 1)] [.int .i64 0, .int .i64 0, .int .i64 0, .int .i64 0] rfl rfl (by intro w; kernel_rfl)) ?_
  refine Z.l rfl rfl (by rfl) (Z.keepS hs) (Z.Yd.buildL [(0, 1), (1, 1), (2, 4)] [.bool false, .int .i64 0, .int .i64 0, .int .i64 0, .int .i64 0, .int .i64 0] rfl rfl (by intro w; kernel_rfl)) ?_
  refine Z.le rfl trivial ?_
  refine Z.ZO.call rfl rfl (by rfl) rfl rfl Try.call14 rfl (encrep_ok ⟨false, 2, 0, 0, 5, 0⟩ _ (by decide)) ?_
  rintro v3_2 w3_2 ⟨ua, rfl, Ba, ca, rfl, hy⟩
  replace hs := hs.call hy
  clear hy
  try simp only [List.cons_append, List.nil_append, List.append_nil] at hs
  refine Z.lb 3 rfl ?_
  refine Z.le rfl trivial ?_
  refine Z.ZO.alloc rfl rfl (by rfl) Try.zeroValue31 rfl hs ?_
  clear hs; intro g1 w1 hs
  refine Z.le rfl trivial ?_
  refine Z.ZO.storeA rfl rfl hs rfl rfl (by kernel_rfl) (by simp [Value.oneCell']) (by first | exact SX.at0 | exact SX.at1 | exact SX.at2 | exact SX.at3 | exact SX.at4 | exact SX.at5 | exact Z.at6 | exact Z.at7 | exact Z.at8 | exact Z.at9 | exact Z.at10 | exact Z.at11 | exact Z.at12) (by rfl) ?_
  clear hs; intro ws hs
  simp only [Nat.zero_add, Nat.add_zero, Nat.reduceAdd, Int.reduceToNat, Nat.reduceMul, List.set_cons_zero, List.set_cons_succ, List.setIfInBounds_toArray] at hs
  refine Z.lb 1 rfl ?_
  refine Z.lnil ?_
  refine Z.only [1, 2] rfl ?_
  refine Z.nthen ?_
  refine Z.seq ?_
  refine Z.region ?_
  refine Z.l rfl rfl (by rfl) (Z.keepS hs) (Z.Yd.buildL [(0, 1), (1, 1), (2, 1), (3, 1)] [.int .i64 0, .int .i64 0, .int .i64 0, .int .i64 0] rfl rfl (by intro w; kernel_rfl)) ?_
  refine Z.l rfl rfl (by rfl) (Z.keepS hs) (Z.Yd.buildL [(0, 1), (1, 1), (2, 4)] [.bool false, .int .i64 0, .int .i64 0, .int .i64 0, .int .i64 0, .int .i64 0] rfl rfl (by intro w; kernel_rfl)) ?_
  refine Z.le rfl trivial ?_
  refine Z.ZO.call rfl rfl (by rfl) rfl rfl Try.call14 rfl (encrep_ok ⟨true, 0, 1, 2, 3, 63⟩ _ (by decide)) ?_
  rintro v4_2 w4_2 ⟨ub, rfl, Bb, cb, rfl, hy⟩
  replace hs := hs.call hy
  clear hy
  try simp only [List.cons_append, List.nil_append, List.append_nil] at hs
  refine Z.lb 3 rfl ?_
  refine Z.le rfl trivial ?_
  refine Z.ZO.alloc rfl rfl (by rfl) Try.zeroValue31 rfl hs ?_
  clear hs; intro g3 w3 hs
  refine Z.le rfl trivial ?_
  refine Z.ZO.storeA rfl rfl hs rfl rfl (by kernel_rfl) (by simp [Value.oneCell']) (by first | exact SX.at0 | exact SX.at1 | exact SX.at2 | exact SX.at3 | exact SX.at4 | exact SX.at5 | exact Z.at6 | exact Z.at7 | exact Z.at8 | exact Z.at9 | exact Z.at10 | exact Z.at11 | exact Z.at12) (by rfl) ?_
  clear hs; intro ws hs
  simp only [Nat.zero_add, Nat.add_zero, Nat.reduceAdd, Int.reduceToNat, Nat.reduceMul, List.set_cons_zero, List.set_cons_succ, List.setIfInBounds_toArray] at hs
  refine Z.lb 1 rfl ?_
  refine Z.lnil ?_
  refine Z.only [1, 2, 3, 4] rfl ?_
  refine Z.nthen ?_
  refine Z.seq ?_
  refine Z.region ?_
  refine Z.l rfl rfl (by rfl) (Z.keepS hs) (Z.Yd.buildL [(0, 1), (1, 1), (2, 1), (3, 1)] [.int .i64 0, .int .i64 0, .int .i64 0, .int .i64 0] rfl rfl (by intro w; kernel_rfl)) ?_
  refine Z.l rfl rfl (by rfl) (Z.keepS hs) (Z.Yd.buildL [(0, 1), (1, 1), (2, 4)] [.bool false, .int .i64 0, .int .i64 0, .int .i64 0, .int .i64 0, .int .i64 0] rfl rfl (by intro w; kernel_rfl)) ?_
  refine Z.le rfl trivial ?_
  refine Z.ZO.call rfl rfl (by rfl) rfl rfl Try.call14 rfl (encrep_bad ⟨false, 2, 1, 0, 5, 0⟩ _ (by decide)) ?_
  rintro v5_2 w5_2 ⟨rfl, hy⟩
  replace hs := hs.call hy
  clear hy
  try simp only [List.cons_append, List.nil_append, List.append_nil] at hs
  refine Z.lb 3 rfl ?_
  refine Z.le rfl trivial ?_
  refine Z.ZO.alloc rfl rfl (by rfl) Try.zeroValue31 rfl hs ?_
  clear hs; intro g5 w5 hs
  refine Z.le rfl trivial ?_
  refine Z.ZO.storeA rfl rfl hs rfl rfl (by kernel_rfl) (by simp [Value.oneCell']) (by first | exact SX.at0 | exact SX.at1 | exact SX.at2 | exact SX.at3 | exact SX.at4 | exact SX.at5 | exact Z.at6 | exact Z.at7 | exact Z.at8 | exact Z.at9 | exact Z.at10 | exact Z.at11 | exact Z.at12) (by rfl) ?_
  clear hs; intro ws hs
  simp only [Nat.zero_add, Nat.add_zero, Nat.reduceAdd, Int.reduceToNat, Nat.reduceMul, List.set_cons_zero, List.set_cons_succ, List.setIfInBounds_toArray] at hs
  refine Z.lb 1 rfl ?_
  refine Z.lnil ?_
  refine Z.only [1, 2, 3, 4, 5, 6] rfl ?_
  refine Z.nthen ?_
  refine Z.seq ?_
  refine Z.region ?_
  refine Z.le rfl trivial ?_
  refine Z.ZO.call rfl rfl (by rfl) rfl rfl Try.call18 rfl (encpow_ok 40 _ (by decide)) ?_
  rintro v6_0 w6_0 ⟨ud, rfl, Bd, cd, rfl, hy⟩
  replace hs := hs.call hy
  clear hy
  try simp only [List.cons_append, List.nil_append, List.append_nil] at hs
  refine Z.lb 3 rfl ?_
  refine Z.le rfl trivial ?_
  refine Z.ZO.alloc rfl rfl (by rfl) Try.zeroValue31 rfl hs ?_
  clear hs; intro g7 w7 hs
  refine Z.le rfl trivial ?_
  refine Z.ZO.storeA rfl rfl hs rfl rfl (by kernel_rfl) (by simp [Value.oneCell']) (by first | exact SX.at0 | exact SX.at1 | exact SX.at2 | exact SX.at3 | exact SX.at4 | exact SX.at5 | exact Z.at6 | exact Z.at7 | exact Z.at8 | exact Z.at9 | exact Z.at10 | exact Z.at11 | exact Z.at12) (by rfl) ?_
  clear hs; intro ws hs
  simp only [Nat.zero_add, Nat.add_zero, Nat.reduceAdd, Int.reduceToNat, Nat.reduceMul, List.set_cons_zero, List.set_cons_succ, List.setIfInBounds_toArray] at hs
  refine Z.lb 1 rfl ?_
  refine Z.lnil ?_
  refine Z.only [1, 2, 3, 4, 5, 6, 7, 8] rfl ?_
  refine Z.nthen ?_
  refine Z.seq ?_
  refine Z.region ?_
  refine Z.le rfl trivial ?_
  refine Z.ZO.litL (T' := 5) [(0, 1)] [.int .u8 0] rfl rfl (by rfl) rfl rfl (by intro W; kernel_rfl) hs ?_
  clear hs; intro g82 w82 hs
  refine Z.l rfl rfl (by rfl) (Z.keepS hs) (Z.Yd.buildL [(0, 1), (1, 1)] [.int .i64 0, .slice none 0 0] rfl rfl (by intro w; kernel_rfl)) ?_
  have hsx7 := Z.blk_lentj (L1 := []) hs (j := 0) rfl
  refine Z.le rfl trivial ?_
  refine Z.ZO.call rfl rfl (by rfl) rfl rfl Try.call24 rfl (decpow_any 26 _ 1 1 [200] _ hsx7 rfl (by omega) (by simp [Byts])) ?_
  rintro v7_2 w7_2 ⟨rfl, hy⟩
  replace hs := hs.call hy
  clear hy
  try simp only [List.cons_append, List.nil_append, List.append_nil] at hs
  refine Z.lb 5 rfl ?_
  refine Z.lnil ?_
  refine Z.only [1, 2, 3, 4, 5, 6, 7, 8, 9, 10] rfl ?_
  refine Z.nthen ?_
  refine Z.seq ?_
  refine Z.region ?_
  refine Z.le rfl trivial ?_
  refine Z.ZO.call rfl rfl (by rfl) rfl rfl Try.call19 rfl (encid_ok 27 258 _ (by decide) (by decide) (by decide)) ?_
  rintro v8_0 w8_0 ⟨ue, rfl, Be, ce, rfl, hy⟩
  replace hs := hs.call hy
  clear hy
  try simp only [List.cons_append, List.nil_append, List.append_nil] at hs
  refine Z.lb 3 rfl ?_
  refine Z.le rfl trivial ?_
  refine Z.ZO.alloc rfl rfl (by rfl) Try.zeroValue31 rfl hs ?_
  clear hs; intro g11 w11 hs
  refine Z.le rfl trivial ?_
  refine Z.ZO.storeA rfl rfl hs rfl rfl (by kernel_rfl) (by simp [Value.oneCell']) (by first | exact SX.at0 | exact SX.at1 | exact SX.at2 | exact SX.at3 | exact SX.at4 | exact SX.at5 | exact Z.at6 | exact Z.at7 | exact Z.at8 | exact Z.at9 | exact Z.at10 | exact Z.at11 | exact Z.at12) (by rfl) ?_
  clear hs; intro ws hs
  simp only [Nat.zero_add, Nat.add_zero, Nat.reduceAdd, Int.reduceToNat, Nat.reduceMul, List.set_cons_zero, List.set_cons_succ, List.setIfInBounds_toArray] at hs
  refine Z.lb 1 rfl ?_
  refine Z.lnil ?_
  refine Z.only [1, 2, 3, 4, 5, 6, 7, 8, 9, 10, 11, 12] rfl ?_
  refine Z.nthen ?_
  refine Z.seq ?_
  refine Z.region ?_
  refine Z.le rfl trivial ?_
  refine Z.ZO.litL (T' := 5) [(0, 1), (1, 1), (2, 1), (3, 1), (4, 1), (5, 1)] [.int .u8 0, .int .u8 0, .int .u8 0, .int .u8 0, .int .u8 0, .int .u8 0] rfl rfl (by rfl) rfl rfl (by intro W; kernel_rfl) hs ?_
  clear hs; intro g92 w92 hs
  refine Z.l rfl rfl (by rfl) (Z.keepS hs) (Z.Yd.buildL [(0, 1), (1, 1)] [.int .i64 0, .slice none 0 0] rfl rfl (by intro w; kernel_rfl)) ?_
  have hsx9 := Z.blk_lentj (L1 := []) hs (j := 0) rfl
  refine Z.le rfl trivial ?_
  refine Z.ZO.call rfl rfl (by rfl) rfl rfl Try.call25 rfl (decid_any 28 _ 6 6 [0, 0, 0, 0, 1, 2] _ hsx9 rfl (by omega) (by simp [Byts])) ?_
  rintro v9_2 w9_2 ⟨rfl, hy⟩
  replace hs := hs.call hy
  clear hy
  try simp only [List.cons_append, List.nil_append, List.append_nil] at hs
  refine Z.lb 5 rfl ?_
  refine Z.lnil ?_
  refine Z.only [1, 2, 3, 4, 5, 6, 7, 8, 9, 10, 11, 12, 13, 14] rfl ?_
  refine Z.nthen ?_
  refine Z.seq ?_
  refine Z.region ?_
  refine Z.le rfl trivial ?_
  refine Z.ZO.litL (T' := 5) [(0, 1)] [.int .u8 0] rfl rfl (by rfl) rfl rfl (by intro W; kernel_rfl) hs ?_
  clear hs; intro g98 w98 hs
  refine Z.l rfl rfl (by rfl) (Z.keepS hs) (Z.Yd.buildL [(0, 1), (1, 1)] [.int .i64 0, .slice none 0 0] rfl rfl (by intro w; kernel_rfl)) ?_
  have hsx10 := Z.blk_lentj (L1 := []) hs (j := 0) rfl
  refine Z.le rfl trivial ?_
  refine Z.ZO.call rfl rfl (by rfl) rfl rfl Try.call25 rfl (decid_any 27 _ 1 1 [1] _ hsx10 rfl (by omega) (by simp [Byts])) ?_
  rintro v10_2 w10_2 ⟨rfl, hy⟩
  replace hs := hs.call hy
  clear hy
  try simp only [List.cons_append, List.nil_append, List.append_nil] at hs
  refine Z.lb 5 rfl ?_
  refine Z.lnil ?_
  refine Z.only [1, 2, 3, 4, 5, 6, 7, 8, 9, 10, 11, 12, 13, 14, 16] rfl ?_
  refine Z.nthen ?_
  refine Z.seq ?_
  refine Z.region ?_
  refine Z.l rfl rfl (by rfl) (Z.keepS hs) (by first | exact Z.Yd.loadA _ rfl Try.isAgg31 (fun _ => Z.cellsB (by first | ((repeat (first | exact List.mem_cons_self | refine List.mem_cons_of_mem _ ?_ | refine List.mem_append_right _ ?_)); done) | fail)) (by exact Try.sizeOf31) | fail "load 11.0") ?_
  refine Z.lb 1 rfl ?_
  clear hsx7 hsx9 hsx10
  refine Z.le rfl trivial ?_
  refine Z.ZO.call rfl rfl (by rfl) rfl rfl Try.call21 rfl (is24 _ _ 29 0 Ba _ _ (encL ⟨false, 2, 0, 0, 5, 0⟩) _ _ (hs.slm (by first | ((repeat (first | exact List.mem_cons_self | refine List.mem_cons_of_mem _ ?_ | refine List.mem_append_right _ ?_)); done) | fail)) rfl) ?_
  rintro v11_2 w11_2 ⟨rfl, hy⟩
  replace hs := hs.call hy
  clear hy
  try simp only [List.cons_append, List.nil_append, List.append_nil] at hs
  refine Z.lb 1 rfl ?_
  refine Z.yes (s := 106) (b := true) rfl ((by decide +kernel)) rfl ?_
  refine Z.l rfl rfl (by rfl) (Z.keepS hs) (by first | exact Z.Yd.loadA _ rfl Try.isAgg31 (fun _ => Z.cellsB (by first | ((repeat (first | exact List.mem_cons_self | refine List.mem_cons_of_mem _ ?_ | refine List.mem_append_right _ ?_)); done) | fail)) (by exact Try.sizeOf31) | fail "load 11.4") ?_
  refine Z.lb 1 rfl ?_
  refine Z.yes (s := 106) (b := true) rfl rfl rfl ?_
  refine Z.le rfl (by exact ⟨rfl, trivial⟩) ?_
  refine Z.ZO.call rfl rfl (by rfl) rfl rfl Try.call21 rfl (is24 _ _ 30 0 Bb _ _ (encL ⟨true, 0, 1, 2, 3, 63⟩) _ _ (hs.slm (by first | ((repeat (first | exact List.mem_cons_self | refine List.mem_cons_of_mem _ ?_ | refine List.mem_append_right _ ?_)); done) | fail)) rfl) ?_
  rintro v11_6 w11_6 ⟨rfl, hy⟩
  replace hs := hs.call hy
  clear hy
  try simp only [List.cons_append, List.nil_append, List.append_nil] at hs
  refine Z.l rfl rfl (by rfl) (Z.keepS hs) (Z.Yd.pickT rfl rfl) ?_
  refine Z.lb 1 rfl ?_
  refine Z.yes (s := 111) (b := true) rfl ((by decide +kernel)) rfl ?_
  refine Z.l rfl rfl (by rfl) (Z.keepS hs) (by first | exact Z.Yd.loadA _ rfl Try.isAgg31 (fun _ => Z.cellsB (by first | ((repeat (first | exact List.mem_cons_self | refine List.mem_cons_of_mem _ ?_ | refine List.mem_append_right _ ?_)); done) | fail)) (by exact Try.sizeOf31) | fail "load 11.9") ?_
  refine Z.lb 1 rfl ?_
  refine Z.yes (s := 111) (b := true) rfl rfl rfl ?_
  refine Z.le rfl (by exact ⟨rfl, trivial⟩) ?_
  refine Z.ZO.call rfl rfl (by rfl) rfl rfl Try.call21 rfl (is24 _ _ 0 2 none 0 0 [] _ _ (fun h ↦ absurd h (by decide)) rfl) ?_
  rintro v11_11 w11_11 ⟨rfl, hy⟩
  replace hs := hs.call hy
  clear hy
  try simp only [List.cons_append, List.nil_append, List.append_nil] at hs
  refine Z.l rfl rfl (by rfl) (Z.keepS hs) (Z.Yd.pickT rfl rfl) ?_
  refine Z.lb 1 rfl ?_
  refine Z.yes (s := 116) (b := true) rfl ((by decide +kernel)) rfl ?_
  refine Z.l rfl rfl (by rfl) (Z.keepS hs) (by first | exact Z.Yd.loadA _ rfl Try.isAgg31 (fun _ => Z.cellsB (by first | ((repeat (first | exact List.mem_cons_self | refine List.mem_cons_of_mem _ ?_ | refine List.mem_append_right _ ?_)); done) | fail)) (by exact Try.sizeOf31) | fail "load 11.14") ?_
  refine Z.lb 1 rfl ?_
  refine Z.yes (s := 116) (b := true) rfl rfl rfl ?_
  refine Z.le rfl (by exact ⟨rfl, trivial⟩) ?_
  refine Z.ZO.call rfl rfl (by rfl) rfl rfl Try.call21 rfl (is24 _ _ 26 0 Bd _ _ [40] _ _ (hs.slm (by first | ((repeat (first | exact List.mem_cons_self | refine List.mem_cons_of_mem _ ?_ | refine List.mem_append_right _ ?_)); done) | fail)) rfl) ?_
  rintro v11_16 w11_16 ⟨rfl, hy⟩
  replace hs := hs.call hy
  clear hy
  try simp only [List.cons_append, List.nil_append, List.append_nil] at hs
  refine Z.l rfl rfl (by rfl) (Z.keepS hs) (Z.Yd.pickT rfl rfl) ?_
  refine Z.lb 1 rfl ?_
  refine Z.yes (s := 121) (b := true) rfl ((by decide +kernel)) rfl ?_
  refine Z.lb 2 rfl ?_
  refine Z.yes (s := 121) (b := true) rfl rfl rfl ?_
  refine Z.le rfl (by exact ⟨rfl, trivial⟩) ?_
  refine Z.ZO.call rfl rfl (by rfl) rfl rfl Try.call29 rfl (counts24 _ _ 0 9 _) ?_
  rintro v11_21 w11_21 ⟨rfl, hy⟩
  replace hs := hs.call hy
  clear hy
  try simp only [List.cons_append, List.nil_append, List.append_nil] at hs
  refine Z.l rfl rfl (by rfl) (Z.keepS hs) (Z.Yd.pickT rfl rfl) ?_
  refine Z.lb 1 rfl ?_
  refine Z.yes (s := 126) (b := true) rfl ((by decide +kernel)) rfl ?_
  refine Z.l rfl rfl (by rfl) (Z.keepS hs) (by first | exact Z.Yd.loadA _ rfl Try.isAgg31 (fun _ => Z.cellsB (by first | ((repeat (first | exact List.mem_cons_self | refine List.mem_cons_of_mem _ ?_ | refine List.mem_append_right _ ?_)); done) | fail)) (by exact Try.sizeOf31) | fail "load 11.24") ?_
  refine Z.lb 1 rfl ?_
  refine Z.yes (s := 126) (b := true) rfl rfl rfl ?_
  refine Z.le rfl (by exact ⟨rfl, trivial⟩) ?_
  refine Z.ZO.call rfl rfl (by rfl) rfl rfl Try.call21 rfl (is24 _ _ 27 0 Be _ _ _ _ _ (hs.slm (by first | ((repeat (first | exact List.mem_cons_self | refine List.mem_cons_of_mem _ ?_ | refine List.mem_append_right _ ?_)); done) | fail)) rfl) ?_
  rintro v11_26 w11_26 ⟨rfl, hy⟩
  replace hs := hs.call hy
  clear hy
  try simp only [List.cons_append, List.nil_append, List.append_nil] at hs
  refine Z.l rfl rfl (by rfl) (Z.keepS hs) (Z.Yd.pickT rfl rfl) ?_
  refine Z.lb 1 rfl ?_
  refine Z.yes (s := 131) (b := true) rfl ((by decide +kernel)) rfl ?_
  refine Z.lb 2 rfl ?_
  refine Z.yes (s := 131) (b := true) rfl rfl rfl ?_
  refine Z.l rfl rfl (by rfl) (Z.keepS hs) (Z.Yd.pickT rfl rfl) ?_
  refine Z.lb 1 rfl ?_
  refine Z.yes (s := 135) (b := true) rfl ((by decide +kernel)) rfl ?_
  refine Z.lb 1 rfl ?_
  refine Z.yes (s := 135) (b := true) rfl rfl rfl ?_
  refine Z.le rfl (by exact ⟨rfl, trivial⟩) ?_
  refine Z.ZO.call rfl rfl (by rfl) rfl rfl Try.call17 rfl (num24 _ _) ?_
  rintro v11_34 w11_34 ⟨rfl, hy⟩
  replace hs := hs.call hy
  clear hy
  try simp only [List.cons_append, List.nil_append, List.append_nil] at hs
  refine Z.lb 1 rfl ?_
  refine Z.yes (s := 135) (b := true) rfl rfl rfl ?_
  refine Z.l rfl rfl (by rfl) (Z.keepS hs) (Z.Yd.pickT rfl rfl) ?_
  refine Z.lb 1 rfl ?_
  refine Z.yes (s := 140) (b := true) rfl ((by decide +kernel)) rfl ?_
  refine Z.lb 1 rfl ?_
  refine Z.yes (s := 140) (b := true) rfl rfl rfl ?_
  refine Z.le rfl (by exact ⟨rfl, trivial⟩) ?_
  refine Z.ZO.call rfl rfl (by rfl) rfl rfl Try.call17 rfl (num24 _ _) ?_
  rintro v11_39 w11_39 ⟨rfl, hy⟩
  replace hs := hs.call hy
  clear hy
  try simp only [List.cons_append, List.nil_append, List.append_nil] at hs
  refine Z.lb 1 rfl ?_
  refine Z.yes (s := 140) (b := true) rfl rfl rfl ?_
  refine Z.l rfl rfl (by rfl) (Z.keepS hs) (Z.Yd.pickT rfl rfl) ?_
  refine Z.lb 1 rfl ?_
  refine Z.lnil ?_
  refine Z.only [0] rfl ?_
  refine Z.nthen ?_
  refine Z.ret ?_
  -- ret#0
  refine Z.out1 (by exact ⟨rfl, trivial⟩) ?_
  exact ⟨_, rfl, congrArg Value.bool (show (idE 27 [1] == 5) = true from by decide +kernel), hs.sub (List.nil_sublist _)⟩

theorem lev_neg {x : Int} (h : x < 0) : levV x = 0 ∧ levE x = 2 := by unfold levV levE; rw [if_pos h, if_pos h]; exact ⟨rfl, rfl⟩
theorem lev_pos {x : Int} (h : 0 ≤ x) : levV x = (lvl x : Int) ∧ levE x = 0 := by unfold levV levE; rw [if_neg (by omega), if_neg (by omega)]; exact ⟨rfl, rfl⟩
theorem lim_out {x : Int} (h : x < 0 ∨ 63 ≤ x) : limV x = 0 ∧ limE x = 2 := by unfold limV limE; rw [if_pos h, if_pos h]; exact ⟨rfl, rfl⟩
theorem lim_in {x : Nat} (h : x ≤ 62) : limV (x : Int) = lim x ∧ limE (x : Int) = 0 := by unfold limV limE; rw [if_neg (by omega), if_neg (by omega)]; exact ⟨rfl, rfl⟩
theorem controlLevels_walk (x n : Int) (w : World) :
    Calls Try.prog 3 #[.int .i64 x, .int .i64 n] w (SX.Ret fun v w' => v = .bool true ∧ SX.St w [] w' []) := by
  have hs := SX.St.start w
  refine Z.enter Try.func3 rfl Try.ntmps3 rfl rfl ?_
  refine Z.seq ?_
  refine Z.region ?_
  refine Z.lb 1 rfl ?_
  refine Z.lnil ?_
  refine Z.only [0, 1] rfl ?_
  refine Z.nthen ?_
  refine Z.seq ?_
  refine Z.region ?_
  refine Z.lb 2 rfl ?_
  refine Z.lnil ?_
  refine Z.only [0, 1, 5, 6] rfl ?_
  refine Z.nthen ?_
  refine Z.seq ?_
  refine Z.seq ?_
  refine Z.region ?_
  refine Z.lb 2 rfl ?_
  refine Z.lnil ?_
  refine Z.only [0, 1, 5, 6, 8] rfl ?_
  refine Z.nthen ?_
  refine Z.cond rfl (fun hc2 => ?_) (fun hc2 => ?_)
  · first
      | (exfalso; simp at hc2 <;> omega)
      | (
        (try simp at hc2)
        refine Z.region ?_
        refine Z.lb 1 rfl ?_
        refine Z.lnil ?_
        refine Z.only [0, 1, 5, 6] rfl ?_
        refine Z.nthen ?_
        refine Z.seq ?_
        refine Z.seq ?_
        refine Z.region ?_
        refine Z.lb 6 rfl ?_
        refine Z.lnil ?_
        refine Z.only [0, 1, 5, 6, 16] rfl ?_
        refine Z.nthen ?_
        refine Z.cond rfl (fun hc5 => ?_) (fun hc5 => ?_)
        · first
            | (exfalso; simp at hc5 <;> omega)
            | (
              (try simp at hc5)
              refine Z.seq ?_
              refine Z.region ?_
              refine Z.lb 3 rfl ?_
              refine Z.le rfl trivial ?_
              refine Z.ZO.call rfl rfl (by rfl) rfl rfl Try.call10 rfl (level24 _ _ _ _) ?_
              rintro v6_3 w6_3 ⟨rfl, hy⟩
              replace hs := hs.call hy
              clear hy
              try simp only [List.cons_append, List.nil_append, List.append_nil] at hs
              refine Z.lb 1 rfl ?_
              refine Z.yes (s := 21) (b := true) rfl ((by rw [decide_eq_true_eq]; first | (refine lev_neg ?_; omega) | (refine lev_pos ?_; omega))) rfl ?_
              refine Z.lb 1 rfl ?_
              refine Z.yes (s := 21) (b := true) rfl rfl rfl ?_
              refine Z.le rfl (by exact ⟨rfl, trivial⟩) ?_
              refine Z.ZO.call rfl rfl (by rfl) rfl rfl Try.call11 rfl (limit24 _ _ _ _) ?_
              rintro v6_6 w6_6 ⟨rfl, hy⟩
              replace hs := hs.call hy
              clear hy
              try simp only [List.cons_append, List.nil_append, List.append_nil] at hs
              refine Z.l rfl rfl (by rfl) (Z.keepS hs) (Z.Yd.pickT rfl rfl) ?_
              refine Z.lb 1 rfl ?_
              refine Z.yes (s := 25) (b := true) rfl ((by rw [decide_eq_true_eq]; refine lim_out ?_; omega)) rfl ?_
              refine Z.le rfl (by exact ⟨rfl, trivial⟩) ?_
              refine Z.ZO.call rfl rfl (by rfl) rfl rfl Try.call12 rfl (works24 _) ?_
              rintro v6_9 w6_9 ⟨rfl, hy⟩
              replace hs := hs.call hy
              clear hy
              try simp only [List.cons_append, List.nil_append, List.append_nil] at hs
              refine Z.l rfl rfl (by rfl) (Z.keepS hs) (Z.Yd.pickT rfl rfl) ?_
              refine Z.lb 1 rfl ?_
              refine Z.lnil ?_
              refine Z.only [4] rfl ?_
              refine Z.nthen ?_
              refine Z.ret ?_
              repeat (first | refine Z.rthen ?_ | refine Z.rblock ?_ | refine Z.rscope ?_)
              -- ret#0
              refine Z.out1 (by exact ⟨rfl, trivial⟩) ?_
              first | exact ⟨_, rfl, rfl, hs⟩ | exact ⟨_, rfl, rfl, hs.sub (List.nil_sublist _)⟩
              )
        · first
            | (exfalso; simp at hc5 <;> omega)
            | (
              (try simp at hc5)
              refine Z.skip ?_
              refine Z.nthen ?_
              refine Z.seq ?_
              refine Z.region ?_
              refine Z.lb 3 rfl ?_
              refine Z.le rfl trivial ?_
              refine Z.ZO.call rfl rfl (by rfl) rfl rfl Try.call10 rfl (level24 _ _ _ _) ?_
              rintro v7_3 w7_3 ⟨rfl, hy⟩
              replace hs := hs.call hy
              clear hy
              try simp only [List.cons_append, List.nil_append, List.append_nil] at hs
              refine Z.lb 1 rfl ?_
              refine Z.yes (s := 32) (b := true) rfl ((by rw [decide_eq_true_eq]; first | (refine lev_neg ?_; omega) | (refine lev_pos ?_; omega))) rfl ?_
              refine Z.lb 2 rfl ?_
              obtain ⟨n, rfl⟩ := Int.eq_ofNat_of_zero_le (show 0 ≤ n by omega)
              refine Z.yes (s := 32) (b := true) rfl rfl rfl ?_
              refine Z.le rfl (by exact ⟨rfl, trivial⟩) ?_
              refine Z.ZO.call rfl rfl (by rfl) rfl rfl Try.call13 rfl (rlimit_any n _ (by omega)) ?_
              rintro v7_7 w7_7 ⟨rfl, hy⟩
              replace hs := hs.call hy
              clear hy
              try simp only [List.cons_append, List.nil_append, List.append_nil] at hs
              refine Z.le rfl (by exact ⟨rfl, trivial⟩) ?_
              refine Z.ZO.call rfl rfl (by rfl) rfl rfl Try.call11 rfl (limit24 _ _ _ _) ?_
              rintro v7_8 w7_8 ⟨rfl, hy⟩
              replace hs := hs.call hy
              clear hy
              try simp only [List.cons_append, List.nil_append, List.append_nil] at hs
              refine Z.l rfl rfl (by rfl) (Z.keepS hs) (Z.Yd.pickT rfl rfl) ?_
              refine Z.lb 1 rfl ?_
              refine Z.yes (s := 38) (b := true) rfl ((by rw [decide_eq_true_eq]; refine lim_in ?_; omega)) rfl ?_
              refine Z.le rfl (by exact ⟨rfl, trivial⟩) ?_
              refine Z.ZO.call rfl rfl (by rfl) rfl rfl Try.call12 rfl (works24 _) ?_
              rintro v7_11 w7_11 ⟨rfl, hy⟩
              replace hs := hs.call hy
              clear hy
              try simp only [List.cons_append, List.nil_append, List.append_nil] at hs
              refine Z.l rfl rfl (by rfl) (Z.keepS hs) (Z.Yd.pickT rfl rfl) ?_
              refine Z.lb 1 rfl ?_
              refine Z.lnil ?_
              refine Z.only [4] rfl ?_
              refine Z.nthen ?_
              refine Z.ret ?_
              -- ret#1
              refine Z.out1 (by exact ⟨rfl, trivial⟩) ?_
              first | exact ⟨_, rfl, rfl, hs⟩ | exact ⟨_, rfl, rfl, hs.sub (List.nil_sublist _)⟩
              )
        )
  · first
      | (exfalso; simp at hc2 <;> omega)
      | (
        (try simp at hc2)
        refine Z.region ?_
        refine Z.lb 1 rfl ?_
        refine Z.le rfl trivial ?_
        refine Z.ZO.call rfl rfl (by rfl) rfl rfl Try.call9 rfl (rlevel_any x _) ?_
        rintro v4_1 w4_1 ⟨rfl, hy⟩
        replace hs := hs.call hy
        clear hy
        try simp only [List.cons_append, List.nil_append, List.append_nil] at hs
        refine Z.lb 1 rfl ?_
        refine Z.lnil ?_
        refine Z.only [0, 1, 5, 6] rfl ?_
        refine Z.nthen ?_
        refine Z.seq ?_
        refine Z.seq ?_
        refine Z.region ?_
        refine Z.lb 6 rfl ?_
        refine Z.lnil ?_
        refine Z.only [0, 1, 5, 6, 16] rfl ?_
        refine Z.nthen ?_
        refine Z.cond rfl (fun hc5 => ?_) (fun hc5 => ?_)
        · first
            | (exfalso; simp at hc5 <;> omega)
            | (
              (try simp at hc5)
              refine Z.seq ?_
              refine Z.region ?_
              refine Z.lb 3 rfl ?_
              refine Z.le rfl trivial ?_
              refine Z.ZO.call rfl rfl (by rfl) rfl rfl Try.call10 rfl (level24 _ _ _ _) ?_
              rintro v6_3 w6_3 ⟨rfl, hy⟩
              replace hs := hs.call hy
              clear hy
              try simp only [List.cons_append, List.nil_append, List.append_nil] at hs
              refine Z.lb 1 rfl ?_
              refine Z.yes (s := 21) (b := true) rfl ((by rw [decide_eq_true_eq]; first | (refine lev_neg ?_; omega) | (refine lev_pos ?_; omega))) rfl ?_
              refine Z.lb 1 rfl ?_
              refine Z.yes (s := 21) (b := true) rfl rfl rfl ?_
              refine Z.le rfl (by exact ⟨rfl, trivial⟩) ?_
              refine Z.ZO.call rfl rfl (by rfl) rfl rfl Try.call11 rfl (limit24 _ _ _ _) ?_
              rintro v6_6 w6_6 ⟨rfl, hy⟩
              replace hs := hs.call hy
              clear hy
              try simp only [List.cons_append, List.nil_append, List.append_nil] at hs
              refine Z.l rfl rfl (by rfl) (Z.keepS hs) (Z.Yd.pickT rfl rfl) ?_
              refine Z.lb 1 rfl ?_
              refine Z.yes (s := 25) (b := true) rfl ((by rw [decide_eq_true_eq]; refine lim_out ?_; omega)) rfl ?_
              refine Z.le rfl (by exact ⟨rfl, trivial⟩) ?_
              refine Z.ZO.call rfl rfl (by rfl) rfl rfl Try.call12 rfl (works24 _) ?_
              rintro v6_9 w6_9 ⟨rfl, hy⟩
              replace hs := hs.call hy
              clear hy
              try simp only [List.cons_append, List.nil_append, List.append_nil] at hs
              refine Z.l rfl rfl (by rfl) (Z.keepS hs) (Z.Yd.pickT rfl rfl) ?_
              refine Z.lb 1 rfl ?_
              refine Z.lnil ?_
              refine Z.only [4] rfl ?_
              refine Z.nthen ?_
              refine Z.ret ?_
              repeat (first | refine Z.rthen ?_ | refine Z.rblock ?_ | refine Z.rscope ?_)
              -- ret#2
              refine Z.out1 (by exact ⟨rfl, trivial⟩) ?_
              first | exact ⟨_, rfl, rfl, hs⟩ | exact ⟨_, rfl, rfl, hs.sub (List.nil_sublist _)⟩
              )
        · first
            | (exfalso; simp at hc5 <;> omega)
            | (
              (try simp at hc5)
              refine Z.skip ?_
              refine Z.nthen ?_
              refine Z.seq ?_
              refine Z.region ?_
              refine Z.lb 3 rfl ?_
              refine Z.le rfl trivial ?_
              refine Z.ZO.call rfl rfl (by rfl) rfl rfl Try.call10 rfl (level24 _ _ _ _) ?_
              rintro v7_3 w7_3 ⟨rfl, hy⟩
              replace hs := hs.call hy
              clear hy
              try simp only [List.cons_append, List.nil_append, List.append_nil] at hs
              refine Z.lb 1 rfl ?_
              refine Z.yes (s := 32) (b := true) rfl ((by rw [decide_eq_true_eq]; first | (refine lev_neg ?_; omega) | (refine lev_pos ?_; omega))) rfl ?_
              refine Z.lb 2 rfl ?_
              obtain ⟨n, rfl⟩ := Int.eq_ofNat_of_zero_le (show 0 ≤ n by omega)
              refine Z.yes (s := 32) (b := true) rfl rfl rfl ?_
              refine Z.le rfl (by exact ⟨rfl, trivial⟩) ?_
              refine Z.ZO.call rfl rfl (by rfl) rfl rfl Try.call13 rfl (rlimit_any n _ (by omega)) ?_
              rintro v7_7 w7_7 ⟨rfl, hy⟩
              replace hs := hs.call hy
              clear hy
              try simp only [List.cons_append, List.nil_append, List.append_nil] at hs
              refine Z.le rfl (by exact ⟨rfl, trivial⟩) ?_
              refine Z.ZO.call rfl rfl (by rfl) rfl rfl Try.call11 rfl (limit24 _ _ _ _) ?_
              rintro v7_8 w7_8 ⟨rfl, hy⟩
              replace hs := hs.call hy
              clear hy
              try simp only [List.cons_append, List.nil_append, List.append_nil] at hs
              refine Z.l rfl rfl (by rfl) (Z.keepS hs) (Z.Yd.pickT rfl rfl) ?_
              refine Z.lb 1 rfl ?_
              refine Z.yes (s := 38) (b := true) rfl ((by rw [decide_eq_true_eq]; refine lim_in ?_; omega)) rfl ?_
              refine Z.le rfl (by exact ⟨rfl, trivial⟩) ?_
              refine Z.ZO.call rfl rfl (by rfl) rfl rfl Try.call12 rfl (works24 _) ?_
              rintro v7_11 w7_11 ⟨rfl, hy⟩
              replace hs := hs.call hy
              clear hy
              try simp only [List.cons_append, List.nil_append, List.append_nil] at hs
              refine Z.l rfl rfl (by rfl) (Z.keepS hs) (Z.Yd.pickT rfl rfl) ?_
              refine Z.lb 1 rfl ?_
              refine Z.lnil ?_
              refine Z.only [4] rfl ?_
              refine Z.nthen ?_
              refine Z.ret ?_
              -- ret#3
              refine Z.out1 (by exact ⟨rfl, trivial⟩) ?_
              first | exact ⟨_, rfl, rfl, hs⟩ | exact ⟨_, rfl, rfl, hs.sub (List.nil_sublist _)⟩
              )
        )
theorem controlLevels_rd (a0 : Int) (a1 : Int) (w : World) (z0 : Rd Try.prog w 3 (Value.int .i64 a0).cells.toList) (z1 : Rd Try.prog w 3 (Value.int .i64 a1).cells.toList) :
    Calls Try.prog 3 #[.int .i64 a0, .int .i64 a1] w fun e w' => e = .returned (.bool true) ∧ Below w.heap.size w w' := by
  refine (controlLevels_walk a0 a1 w).mono ?_
  rintro e w' ⟨v, rfl, rfl, h⟩
  exact ⟨rfl, h.below⟩
end Go.Proofs.Yteabcdmgklhijaa

/- Control elements: the document's reports. -/
namespace Go.Proofs.Yteabcdmgklhijaa
open Go.RowKit
set_option linter.unusedSimpArgs false
set_option linter.unusedVariables false
--newlaws

theorem ok_iff (r : RepV) : r.ok ↔ (0 ≤ r.group ∧ r.group ≤ 3) ∧ (r.long = true → r.group = 0) ∧ ∀ j : Nat, j < 4 → okL (r.lv j) ∧ (r.long = false → (j : Int) ≠ r.group → r.lv j = 0) := by
  unfold RepV.ok
  refine and_congr_right fun hg => ?_
  cases hl : r.long with
  | true =>
    rw [if_pos rfl]
    constructor
    · rintro ⟨h0, ha, hb, hc, hd⟩
      refine ⟨fun _ => h0, fun j hj => ⟨?_, fun h => (by cases h)⟩⟩
      have : j = 0 ∨ j = 1 ∨ j = 2 ∨ j = 3 := by omega
      rcases this with rfl | rfl | rfl | rfl
      · exact ha
      · exact hb
      · exact hc
      · exact hd
    · rintro ⟨h0, h⟩
      exact ⟨h0 rfl, (h 0 (by omega)).1, (h 1 (by omega)).1, (h 2 (by omega)).1, (h 3 (by omega)).1⟩
  | false =>
    rw [if_neg (by simp)]
    constructor
    · rintro ⟨h1, h2⟩
      refine ⟨fun h => (by cases h), fun j hj => ?_⟩
      rcases h1 j hj with h | h
      · exact ⟨by rw [h]; exact ⟨by omega, by omega⟩, fun _ _ => h⟩
      · refine ⟨?_, fun _ h3 => absurd h h3⟩
        rw [show j = r.group.toNat from by omega]
        exact h2
    · rintro ⟨-, h⟩
      refine ⟨fun j hj => ?_, (h r.group.toNat (by omega)).1⟩
      by_cases e : (j : Int) = r.group
      · exact .inr e
      · exact .inl ((h j hj).2 rfl e)
theorem cells_nth (r : RepV) (k : Nat) (hk : k < 4) : Z.nth r.cells (0 + 2 + (k : Int).toNat * 1) = some (.int .i64 (r.lv k)) := by
  have : k = 0 ∨ k = 1 ∨ k = 2 ∨ k = 3 := by omega
  rcases this with rfl | rfl | rfl | rfl <;> rfl
set_option maxRecDepth 100000 in
theorem rvalid24 (r : RepV) (w : World) : Calls Try.prog 38 #[.agg r.cells.toArray] w (SX.Ret fun v w' => v = .bool (decide r.ok) ∧ SX.St w [] w' []) := by
  have hs := SX.St.start w
  have hok := ok_iff r
  refine Z.enter Try.func38 rfl Try.ntmps38 rfl rfl ?_
  refine Z.seq ?_
  refine Z.region ?_
  refine Z.le rfl trivial ?_
  refine Z.ZO.box rfl rfl (by rfl) rfl rfl hs ?_
  clear hs; intro g1 w1 hs
  refine Z.lb 1 rfl ?_
  refine Z.lnil ?_
  refine Z.only [1] rfl ?_
  refine Z.nthen ?_
  refine Z.seq ?_
  refine Z.seq ?_
  refine Z.region ?_
  refine Z.l rfl rfl (by rfl) (Z.keepS hs) (Z.Yd.fieldA (m := 1) rfl (by kernel_rfl)) ?_
  refine Z.l rfl rfl (by rfl) (Z.keepS hs) (by first | exact Z.Yd.load rfl Try.isAgg3 (fun _ => Z.cellB (by first | ((repeat (first | exact List.mem_cons_self | refine List.mem_cons_of_mem _ ?_ | refine List.mem_append_right _ ?_)); done) | fail) rfl) | exact Z.Yd.load rfl Try.isAgg3 (fun _ => Z.cellO (by assumption) (by simp) (by assumption)) | fail "load 1.1") ?_
  refine Z.lb 2 rfl ?_
  refine Z.l rfl rfl (by rfl) (Z.keepS hs) (Z.Yd.fieldA (m := 1) rfl (by kernel_rfl)) ?_
  refine Z.l rfl rfl (by rfl) (Z.keepS hs) (by first | exact Z.Yd.load rfl Try.isAgg3 (fun _ => Z.cellB (by first | ((repeat (first | exact List.mem_cons_self | refine List.mem_cons_of_mem _ ?_ | refine List.mem_append_right _ ?_)); done) | fail) rfl) | exact Z.Yd.load rfl Try.isAgg3 (fun _ => Z.cellO (by assumption) (by simp) (by assumption)) | fail "load 1.5") ?_
  refine Z.lb 3 rfl ?_
  refine Z.l rfl rfl (by rfl) (Z.keepS hs) (Z.Yd.fieldA (m := 0) rfl (by kernel_rfl)) ?_
  refine Z.l rfl rfl (by rfl) (Z.keepS hs) (by first | exact Z.Yd.load rfl Try.isAgg4 (fun _ => Z.cellB (by first | ((repeat (first | exact List.mem_cons_self | refine List.mem_cons_of_mem _ ?_ | refine List.mem_append_right _ ?_)); done) | fail) rfl) | exact Z.Yd.load rfl Try.isAgg4 (fun _ => Z.cellO (by assumption) (by simp) (by assumption)) | fail "load 1.10") ?_
  refine Z.lb 1 rfl ?_
  refine Z.l rfl rfl (by rfl) (Z.keepS hs) (Z.Yd.fieldA (m := 1) rfl (by kernel_rfl)) ?_
  refine Z.l rfl rfl (by rfl) (Z.keepS hs) (by first | exact Z.Yd.load rfl Try.isAgg3 (fun _ => Z.cellB (by first | ((repeat (first | exact List.mem_cons_self | refine List.mem_cons_of_mem _ ?_ | refine List.mem_append_right _ ?_)); done) | fail) rfl) | exact Z.Yd.load rfl Try.isAgg3 (fun _ => Z.cellO (by assumption) (by simp) (by assumption)) | fail "load 1.13") ?_
  refine Z.lb 3 rfl ?_
  refine Z.lnil ?_
  refine Z.only [1, 20] rfl ?_
  refine Z.nthen ?_
  refine Z.cond rfl (fun hc1 => ?_) (fun hc1 => ?_)
  · first
      | (exfalso; simp at hc1 <;> omega)
      | (
        (try simp at hc1)
        refine Z.seq ?_
        refine Z.region ?_
        refine Z.lb 1 rfl ?_
        refine Z.lnil ?_
        refine Z.only [2] rfl ?_
        refine Z.nthen ?_
        refine Z.ret ?_
        repeat (first | refine Z.rthen ?_ | refine Z.rblock ?_ | refine Z.rscope ?_)
        -- ret#0
        refine Z.out1 (by exact ⟨rfl, trivial⟩) ?_
        refine ⟨_, rfl, ?_, hs.sub (List.nil_sublist _)⟩
        rw [decide_eq_false (fun h => ?_)]
        obtain ⟨h1, h2, -⟩ := hok.1 h
        cases hl : r.long <;> simp_all <;> omega
        )
  · first
      | (exfalso; simp at hc1 <;> omega)
      | (
        (try simp at hc1)
        refine Z.skip ?_
        refine Z.nthen ?_
        refine Z.seq ?_
        refine Z.seq ?_
        refine Z.region ?_
        refine Z.lb 1 rfl ?_
        refine Z.lnil ?_
        refine Z.only [1, 3] rfl ?_
        refine Z.nthen ?_
        refine Z.block ?_
        refine Z.loopk (ι := Nat) [1] rfl (fun k => [(3, [], .int .i64 (k : Int))]) (fun k wr => (k ≤ 4 ∧ ∀ j : Nat, j < k → okL (r.lv j) ∧ (r.long = false → (j : Int) ≠ r.group → r.lv j = 0)) ∧ SX.St w [] wr [SX.Ent.blk g1 28 r.cells.toArray]) (fun k => 4 - k) 0 (by refine ⟨?_, trivial⟩ <;> (first | rfl | (refine Z.lookv rfl ?_; simp; done) | (refine Z.lookv rfl ?_; simp; omega))) ⟨⟨by omega, fun j hj => by omega⟩, hs⟩ ?_
        clear hs
        rintro k w1 ⟨⟨hk, hj⟩, hs⟩
        refine Z.only [1, 3] rfl ?_
        refine Z.seq ?_
        refine Z.seq ?_
        refine Z.region ?_
        refine Z.lb 2 rfl ?_
        refine Z.lnil ?_
        refine Z.only [1, 3, 22] rfl ?_
        refine Z.nthen ?_
        refine Z.cond rfl (fun hc4 => ?_) (fun hc4 => ?_)
        · first
            | (exfalso; simp at hc4 <;> omega)
            | (
              (try simp at hc4)
              have hget := cells_nth r k (by omega)
              refine Z.skip ?_
              refine Z.nthen ?_
              refine Z.seq ?_
              refine Z.block ?_
              refine Z.seq ?_
              refine Z.region ?_
              refine Z.lb 1 rfl ?_
              refine Z.l rfl rfl (by rfl) (Z.keepS hs) (Z.Yd.fieldA (m := 2) rfl (by kernel_rfl)) ?_
              refine Z.l rfl rfl (by rfl) (Z.keepS hs) (Z.Yd.elemA rfl rfl Try.underlying26 Try.sizeOf3 (fun hG => ⟨(by first | omega | (have hG' := Z.gh rfl hG; simp at hG'; omega)), (by first | omega | (have hG' := Z.gh rfl hG; simp at hG'; omega))⟩)) ?_
              refine Z.l rfl rfl (by rfl) (Z.keepS hs) (Z.Yd.load rfl Try.isAgg3 (fun _ => Z.cellB (cs := r.cells.toArray) (by first | ((repeat (first | exact List.mem_cons_self | refine List.mem_cons_of_mem _ ?_ | refine List.mem_append_right _ ?_)); done) | fail) hget)) ?_
              refine Z.lb 3 rfl ?_
              refine Z.l rfl rfl (by rfl) (Z.keepS hs) (Z.Yd.fieldA (m := 2) rfl (by kernel_rfl)) ?_
              refine Z.l rfl rfl (by rfl) (Z.keepS hs) (Z.Yd.elemA rfl rfl Try.underlying26 Try.sizeOf3 (fun hG => ⟨(by first | omega | (have hG' := Z.gh rfl hG; simp at hG'; omega)), (by first | omega | (have hG' := Z.gh rfl hG; simp at hG'; omega))⟩)) ?_
              refine Z.l rfl rfl (by rfl) (Z.keepS hs) (Z.Yd.load rfl Try.isAgg3 (fun _ => Z.cellB (cs := r.cells.toArray) (by first | ((repeat (first | exact List.mem_cons_self | refine List.mem_cons_of_mem _ ?_ | refine List.mem_append_right _ ?_)); done) | fail) hget)) ?_
              refine Z.lb 3 rfl ?_
              refine Z.l rfl rfl (by rfl) (Z.keepS hs) (Z.Yd.fieldA (m := 0) rfl (by kernel_rfl)) ?_
              refine Z.l rfl rfl (by rfl) (Z.keepS hs) (by first | exact Z.Yd.load rfl Try.isAgg4 (fun _ => Z.cellB (by first | ((repeat (first | exact List.mem_cons_self | refine List.mem_cons_of_mem _ ?_ | refine List.mem_append_right _ ?_)); done) | fail) rfl) | exact Z.Yd.load rfl Try.isAgg4 (fun _ => Z.cellO (by assumption) (by simp) (by assumption)) | fail "load 6.14") ?_
              refine Z.lb 3 rfl ?_
              refine Z.l rfl rfl (by rfl) (Z.keepS hs) (Z.Yd.fieldA (m := 1) rfl (by kernel_rfl)) ?_
              refine Z.l rfl rfl (by rfl) (Z.keepS hs) (by first | exact Z.Yd.load rfl Try.isAgg3 (fun _ => Z.cellB (by first | ((repeat (first | exact List.mem_cons_self | refine List.mem_cons_of_mem _ ?_ | refine List.mem_append_right _ ?_)); done) | fail) rfl) | exact Z.Yd.load rfl Try.isAgg3 (fun _ => Z.cellO (by assumption) (by simp) (by assumption)) | fail "load 6.19") ?_
              refine Z.lb 4 rfl ?_
              refine Z.l rfl rfl (by rfl) (Z.keepS hs) (Z.Yd.fieldA (m := 2) rfl (by kernel_rfl)) ?_
              refine Z.l rfl rfl (by rfl) (Z.keepS hs) (Z.Yd.elemA rfl rfl Try.underlying26 Try.sizeOf3 (fun hG => ⟨(by first | omega | (have hG' := Z.gh rfl hG; simp at hG'; omega)), (by first | omega | (have hG' := Z.gh rfl hG; simp at hG'; omega))⟩)) ?_
              refine Z.l rfl rfl (by rfl) (Z.keepS hs) (Z.Yd.load rfl Try.isAgg3 (fun _ => Z.cellB (cs := r.cells.toArray) (by first | ((repeat (first | exact List.mem_cons_self | refine List.mem_cons_of_mem _ ?_ | refine List.mem_append_right _ ?_)); done) | fail) hget)) ?_
              refine Z.lb 3 rfl ?_
              refine Z.lnil ?_
              refine Z.only [1, 3, 54] rfl ?_
              refine Z.nthen ?_
              refine Z.cond rfl (fun hc6 => ?_) (fun hc6 => ?_)
              · first
                  | (exfalso; simp at hc6 <;> omega)
                  | (
                    (try simp at hc6)
                    refine Z.seq ?_
                    refine Z.region ?_
                    refine Z.lb 1 rfl ?_
                    refine Z.lnil ?_
                    refine Z.only [2] rfl ?_
                    refine Z.nthen ?_
                    refine Z.ret ?_
                    repeat (first | refine Z.rthen ?_ | refine Z.rblock ?_ | refine Z.rscope ?_)
                    -- ret#1
                    refine Z.out1 (by exact ⟨rfl, trivial⟩) ?_
                    refine ⟨_, rfl, ?_, hs.sub (List.nil_sublist _)⟩
                    rw [decide_eq_false (fun h => ?_)]
                    obtain ⟨-, -, h3⟩ := hok.1 h
                    obtain ⟨h4, h5⟩ := h3 k (by omega)
                    unfold okL at h4
                    cases hl : r.long <;> simp_all <;> omega
                    )
              · first
                  | (exfalso; simp at hc6 <;> omega)
                  | (
                    (try simp at hc6)
                    refine Z.skip ?_
                    refine Z.nblock ?_
                    refine Z.nthen ?_
                    refine Z.region ?_
                    refine Z.lb 1 rfl ?_
                    refine Z.l rfl rfl (by rfl) (Z.keepS hs) (Z.Yd.add rfl rfl (fun hG => Z.wi64 (by first | omega | (have hG' := Z.gh rfl hG; simp at hG'; omega)))) ?_
                    refine Z.lb 1 rfl ?_
                    refine Z.lnil ?_
                    refine Z.only [1, 3] rfl ?_
                    refine Z.nthen ?_
                    exact Z.again (k + 1) (by refine ⟨?_, ?_, trivial⟩ <;> (first | rfl | (refine Z.lookv rfl ?_; simp; done) | (refine Z.lookv rfl ?_; simp; omega))) ⟨⟨by omega, fun j h1 => by
                      by_cases e : j = k
                      · subst e
                        unfold okL
                        cases hl : r.long <;> simp_all <;> omega
                      · exact hj j (by omega)⟩, hs⟩ (by omega)
                    )
              )
        · first
            | (exfalso; simp at hc4 <;> omega)
            | (
              (try simp at hc4)
              refine Z.exit ?_
              refine Z.xthen ?_
              refine Z.xthen ?_
              refine Z.xblock ?_
              refine Z.nthen ?_
              refine Z.seq ?_
              refine Z.region ?_
              refine Z.lb 1 rfl ?_
              refine Z.lnil ?_
              refine Z.only [2] rfl ?_
              refine Z.nthen ?_
              refine Z.ret ?_
              -- ret#2
              refine Z.out1 (by exact ⟨rfl, trivial⟩) ?_
              obtain rfl : k = 4 := by omega
              refine ⟨_, rfl, ?_, hs.sub (List.nil_sublist _)⟩
              rw [decide_eq_true (hok.2 ⟨?_, ?_, hj⟩)]
              · omega
              · cases hl : r.long <;> simp_all
              )
        )

/-- the document's element of a report -/
theorem rencrep_bad (r : RepV) (w : World) (hr : ¬ r.ok) :
    Calls Try.prog 15 #[.agg r.cells.toArray] w (SX.Ret fun v w' => v = .tuple #[.agg #[.int .i64 0, .slice none 0 0], .int .i64 2] ∧ SX.St w [] w' []) := by
  have hs := SX.St.start w
  refine Z.enter Try.func15 rfl Try.ntmps15 rfl rfl ?_
  refine Z.seq ?_
  refine Z.region ?_
  refine Z.le rfl trivial ?_
  refine Z.ZO.box rfl rfl (by rfl) rfl rfl hs ?_
  clear hs; intro g1 w1 hs
  refine Z.le rfl trivial ?_
  refine Z.ZO.alloc rfl rfl (by rfl) Try.zeroValue31 rfl hs ?_
  clear hs; intro g2 w2 hs
  refine Z.lb 1 rfl ?_
  refine Z.lnil ?_
  refine Z.only [1, 2] rfl ?_
  refine Z.nthen ?_
  refine Z.seq ?_
  refine Z.seq ?_
  refine Z.region ?_
  refine Z.l rfl rfl (by rfl) (Z.keepS hs) (by first | exact Z.Yd.loadA _ rfl Try.isAgg28 (fun _ => Z.cellsB (by first | ((repeat (first | exact List.mem_cons_self | refine List.mem_cons_of_mem _ ?_ | refine List.mem_append_right _ ?_)); done) | fail)) (by exact Try.sizeOf28) | fail "load 1.0") ?_
  refine Z.le rfl trivial ?_
  refine Z.ZO.call rfl rfl (by rfl) rfl rfl Try.call38 rfl (rvalid24 r _) ?_
  rintro v1_1 w1_1 ⟨rfl, hy⟩
  replace hs := hs.call hy
  clear hy
  try simp only [List.cons_append, List.nil_append, List.append_nil] at hs
  rw [decide_eq_false hr]
  refine Z.lb 1 rfl ?_
  refine Z.lnil ?_
  refine Z.only [1, 2, 8] rfl ?_
  refine Z.nthen ?_
  refine Z.cond rfl (fun hc1 => ?_) (fun h => absurd h (by simp))
  refine Z.seq ?_
  refine Z.region ?_
  refine Z.l rfl rfl (by rfl) (Z.keepS hs) (Z.Yd.buildL [(0, 1), (1, 1)] [.int .i64 0, .slice none 0 0] rfl rfl (by intro w; kernel_rfl)) ?_
  refine Z.le rfl trivial ?_
  refine Z.ZO.storeA rfl rfl hs rfl rfl (by kernel_rfl) (by simp [Value.oneCell']) (by first | exact SX.at0 | exact SX.at1 | exact SX.at2 | exact SX.at3 | exact SX.at4 | exact SX.at5 | exact Z.at6 | exact Z.at7 | exact Z.at8 | exact Z.at9 | exact Z.at10 | exact Z.at11 | exact Z.at12) (by rfl) ?_
  clear hs; intro ws hs
  simp only [Nat.zero_add, Nat.add_zero, Nat.reduceAdd, Int.reduceToNat, Nat.reduceMul, List.set_cons_zero, List.set_cons_succ, List.setIfInBounds_toArray] at hs
  refine Z.lb 1 rfl ?_
  refine Z.lnil ?_
  refine Z.only [2, 3] rfl ?_
  refine Z.nthen ?_
  refine Z.ret ?_
  repeat (first | refine Z.rthen ?_ | refine Z.rblock ?_ | refine Z.rscope ?_)
  -- ret#0
  refine Z.out2 (by exact ⟨⟨_, rfl, Z.rvcA hs Try.isAgg31 (by first | ((repeat (first | exact List.mem_cons_self | refine List.mem_cons_of_mem _ ?_ | refine List.mem_append_right _ ?_)); done) | fail) (by exact Try.sizeOf31)⟩, rfl, trivial⟩) ?_
  exact ⟨_, rfl, rfl, hs.sub (List.nil_sublist _)⟩
set_option maxRecDepth 100000 in
theorem rencrep_ok (r : RepV) (w : World) (hr : r.ok) :
    Calls Try.prog 15 #[.agg r.cells.toArray] w (SX.Ret fun v w' => ∃ u, v = .tuple #[u, .int .i64 0] ∧ IsPart (encLc r) (encL r) u w w') := by
  have hs := SX.St.start w
  obtain ⟨hg, hlg, hj⟩ := (ok_iff r).1 hr
  have k0 := (hj 0 (by omega)).1
  have k1 := (hj 1 (by omega)).1
  have k2 := (hj 2 (by omega)).1
  have k3 := (hj 3 (by omega)).1
  have kg := (hj r.group.toNat (by omega)).1
  unfold okL at k0 k1 k2 k3 kg
  simp only [RepV.lv] at k0 k1 k2 k3
  have hget := cells_nth r r.group.toNat (by omega)
  rw [Int.toNat_natCast] at hget
  cases hl : r.long with
  | false =>
    have e1 : encLc r = 29 := by unfold encLc; rw [if_neg (by simp [hl])]
    have e2 : encL r = [64 * r.group + r.lv r.group.toNat] := by unfold encL; rw [if_neg (by simp [hl])]
    rw [e1, e2]
    refine Z.enter Try.func15 rfl Try.ntmps15 rfl rfl ?_
    refine Z.seq ?_
    refine Z.region ?_
    refine Z.le rfl trivial ?_
    refine Z.ZO.box rfl rfl (by rfl) rfl rfl hs ?_
    clear hs; intro g1 w1 hs
    refine Z.le rfl trivial ?_
    refine Z.ZO.alloc rfl rfl (by rfl) Try.zeroValue31 rfl hs ?_
    clear hs; intro g2 w2 hs
    refine Z.lb 1 rfl ?_
    refine Z.lnil ?_
    refine Z.only [1, 2] rfl ?_
    refine Z.nthen ?_
    refine Z.seq ?_
    refine Z.seq ?_
    refine Z.region ?_
    refine Z.l rfl rfl (by rfl) (Z.keepS hs) (by first | exact Z.Yd.loadA _ rfl Try.isAgg28 (fun _ => Z.cellsB (by first | ((repeat (first | exact List.mem_cons_self | refine List.mem_cons_of_mem _ ?_ | refine List.mem_append_right _ ?_)); done) | fail)) (by exact Try.sizeOf28) | fail "load 1.0") ?_
    refine Z.le rfl trivial ?_
    refine Z.ZO.call rfl rfl (by rfl) rfl rfl Try.call38 rfl (rvalid24 r _) ?_
    rintro v1_1 w1_1 ⟨rfl, hy⟩
    replace hs := hs.call hy
    clear hy
    try simp only [List.cons_append, List.nil_append, List.append_nil] at hs
    rw [decide_eq_true hr]
    refine Z.lb 1 rfl ?_
    refine Z.lnil ?_
    refine Z.only [1, 2, 8] rfl ?_
    refine Z.nthen ?_
    refine Z.cond rfl (fun h => absurd h (by simp)) (fun hc1 => ?_)
    refine Z.skip ?_
    refine Z.nthen ?_
    refine Z.seq ?_
    refine Z.seq ?_
    refine Z.region ?_
    refine Z.l rfl rfl (by rfl) (Z.keepS hs) (Z.Yd.fieldA (m := 0) rfl (by kernel_rfl)) ?_
    refine Z.l rfl rfl (by rfl) (Z.keepS hs) (by first | exact Z.Yd.load rfl Try.isAgg4 (fun _ => Z.cellB (by first | ((repeat (first | exact List.mem_cons_self | refine List.mem_cons_of_mem _ ?_ | refine List.mem_append_right _ ?_)); done) | fail) rfl) | exact Z.Yd.load rfl Try.isAgg4 (fun _ => Z.cellO (by assumption) (by simp) (by assumption)) | fail "load 3.1") ?_
    refine Z.lb 1 rfl ?_
    refine Z.lnil ?_
    refine Z.only [1, 2, 12] rfl ?_
    refine Z.nthen ?_
    refine Z.cond rfl (fun hc3 => ?_) (fun h => absurd h (by simp [hl]))
    refine Z.seq ?_
    refine Z.drawL [SX.Ent.blk g1 28 r.cells.toArray] (fun _ => true) mixed hs ?_
    clear hs; intro wd4 hs
    refine Z.t 0 rfl rfl rfl (by rfl) (by kernel_rfl) ⟨_, hs, by first | (simp; done) | exact fun e he => List.mem_append_right _ he⟩ (Z.Yd.fieldA (m := 1) rfl (by kernel_rfl)) ?_
    refine Z.t 1 rfl rfl rfl (by rfl) (by kernel_rfl) ⟨_, hs, by first | (simp; done) | exact fun e he => List.mem_append_right _ he⟩ (by first | exact Z.Yd.load rfl Try.isAgg3 (fun _ => Z.cellB (by first | ((repeat (first | exact List.mem_cons_self | refine List.mem_cons_of_mem _ ?_ | refine List.mem_append_right _ ?_)); done) | fail) rfl) | exact Z.Yd.load rfl Try.isAgg3 (fun _ => Z.cellO (by assumption) (by simp) (by assumption)) | fail "load 4.1") ?_
    refine Z.t 2 rfl rfl rfl (by rfl) (by kernel_rfl) ⟨_, hs, by first | (simp; done) | exact fun e he => List.mem_append_right _ he⟩ (Z.Yd.mul rfl rfl (fun hG => Z.wi64 (by first | omega | (have hG' := Z.gh rfl hG; simp at hG'; omega)))) ?_
    refine Z.t 3 rfl rfl rfl (by rfl) (by kernel_rfl) ⟨_, hs, by first | (simp; done) | exact fun e he => List.mem_append_right _ he⟩ (Z.Yd.fieldA (m := 1) rfl (by kernel_rfl)) ?_
    refine Z.t 4 rfl rfl rfl (by rfl) (by kernel_rfl) ⟨_, hs, by first | (simp; done) | exact fun e he => List.mem_append_right _ he⟩ (by first | exact Z.Yd.load rfl Try.isAgg3 (fun _ => Z.cellB (by first | ((repeat (first | exact List.mem_cons_self | refine List.mem_cons_of_mem _ ?_ | refine List.mem_append_right _ ?_)); done) | fail) rfl) | exact Z.Yd.load rfl Try.isAgg3 (fun _ => Z.cellO (by assumption) (by simp) (by assumption)) | fail "load 4.4") ?_
    refine Z.t 5 rfl rfl rfl (by rfl) (by kernel_rfl) ⟨_, hs, by first | (simp; done) | exact fun e he => List.mem_append_right _ he⟩ (Z.Yd.fieldA (m := 2) rfl (by kernel_rfl)) ?_
    refine Z.t 6 rfl rfl rfl (by rfl) (by kernel_rfl) ⟨_, hs, by first | (simp; done) | exact fun e he => List.mem_append_right _ he⟩ (Z.Yd.elemA rfl rfl Try.underlying26 Try.sizeOf3 (fun hG => ⟨(by first | omega | (have hG' := Z.gh rfl hG; simp at hG'; omega)), (by first | omega | (have hG' := Z.gh rfl hG; simp at hG'; omega))⟩)) ?_
    refine Z.t 7 rfl rfl rfl (by rfl) (by kernel_rfl) ⟨_, hs, by first | (simp; done) | exact fun e he => List.mem_append_right _ he⟩ (Z.Yd.load rfl Try.isAgg3 (fun _ => Z.cellB (cs := r.cells.toArray) (by first | ((repeat (first | exact List.mem_cons_self | refine List.mem_cons_of_mem _ ?_ | refine List.mem_append_right _ ?_)); done) | fail) hget)) ?_
    refine Z.t 8 rfl rfl rfl (by rfl) (by kernel_rfl) ⟨_, hs, by first | (simp; done) | exact fun e he => List.mem_append_right _ he⟩ (Z.Yd.add rfl rfl (fun hG => Z.wi64 (by first | omega | (have hG' := Z.gh rfl hG; simp at hG'; omega)))) ?_
    refine Z.t 9 rfl rfl rfl (by rfl) (by kernel_rfl) ⟨_, hs, by first | (simp; done) | exact fun e he => List.mem_append_right _ he⟩ (Z.Yd.convI rfl ⟨_, Try.underlying3⟩ Try.underlying5 (fun hG => Z.wu8 (by first | omega | (have hG' := Z.gh rfl hG; simp at hG'; omega)))) ?_
    refine Z.tn 10 rfl rfl (by kernel_rfl) rfl trivial ?_
    refine Z.ZO.litL (T' := 5) [(0, 1)] [.int .u8 0] rfl rfl (by rfl) rfl rfl (by intro W; kernel_rfl) hs ?_
    clear hs; intro g23 w23 hs
    refine Z.tk (Dn := fun _ => true) (i := 10) (fun _ => ⟨_, hs, by first | (simp; done) | exact fun e he => List.mem_append_right _ he⟩) ?_
    refine Z.t 11 rfl rfl rfl (by rfl) (by kernel_rfl) ⟨_, hs, by first | (simp; done) | exact fun e he => List.mem_append_right _ he⟩ (Z.Yd.buildL [(0, 1), (1, 1)] [.int .i64 0, .slice none 0 0] rfl rfl (by intro w; kernel_rfl)) ?_
    refine Z.tn 12 rfl rfl (by kernel_rfl) rfl trivial ?_
    refine Z.ZO.storeA rfl rfl hs rfl rfl (by kernel_rfl) (by simp [Value.oneCell']) (by first | exact SX.at0 | exact SX.at1 | exact SX.at2 | exact SX.at3 | exact SX.at4 | exact SX.at5 | exact Z.at6 | exact Z.at7 | exact Z.at8 | exact Z.at9 | exact Z.at10 | exact Z.at11 | exact Z.at12) (by rfl) ?_
    clear hs; intro ws hs
    simp only [Nat.zero_add, Nat.add_zero, Nat.reduceAdd, Int.reduceToNat, Nat.reduceMul, List.set_cons_zero, List.set_cons_succ, List.setIfInBounds_toArray] at hs
    refine Z.tk (Dn := fun _ => true) (i := 12) (fun _ => ⟨_, hs, by first | (simp; done) | exact fun e he => List.mem_append_right _ he⟩) ?_
    refine Z.tb [13] (by kernel_rfl) rfl ⟨_, hs, by first | (simp; done) | exact fun e he => List.mem_append_right _ he⟩ rfl ?_
    refine Z.td (by rfl) (by kernel_rfl) ?_
    refine Z.only [2, 3] rfl ?_
    refine Z.nthen ?_
    refine Z.ret ?_
    repeat (first | refine Z.rthen ?_ | refine Z.rblock ?_ | refine Z.rscope ?_)
    -- ret#0
    refine Z.out2 (by exact ⟨⟨_, rfl, Z.rvcA hs Try.isAgg31 (by first | ((repeat (first | exact List.mem_cons_self | refine List.mem_cons_of_mem _ ?_ | refine List.mem_append_right _ ?_)); done) | fail) (by exact Try.sizeOf31)⟩, rfl, trivial⟩) ?_
    exact ⟨_, rfl, _, rfl, _, _, rfl, (SX.St.asRow (k := 1) (size := 1) hs (by simp) (by unfold maxLen; omega)).sel [0] (by decide)⟩
  | true =>
    have e1 : encLc r = 30 := by unfold encLc; rw [if_pos hl]
    have e2 : encL r = be 3 (((r.a * 64 + r.b) * 64 + r.c) * 64 + r.d) := by unfold encL; rw [if_pos hl]
    rw [e1, e2]
    refine Z.enter Try.func15 rfl Try.ntmps15 rfl rfl ?_
    refine Z.seq ?_
    refine Z.region ?_
    refine Z.le rfl trivial ?_
    refine Z.ZO.box rfl rfl (by rfl) rfl rfl hs ?_
    clear hs; intro g1 w1 hs
    refine Z.le rfl trivial ?_
    refine Z.ZO.alloc rfl rfl (by rfl) Try.zeroValue31 rfl hs ?_
    clear hs; intro g2 w2 hs
    refine Z.lb 1 rfl ?_
    refine Z.lnil ?_
    refine Z.only [1, 2] rfl ?_
    refine Z.nthen ?_
    refine Z.seq ?_
    refine Z.seq ?_
    refine Z.region ?_
    refine Z.l rfl rfl (by rfl) (Z.keepS hs) (by first | exact Z.Yd.loadA _ rfl Try.isAgg28 (fun _ => Z.cellsB (by first | ((repeat (first | exact List.mem_cons_self | refine List.mem_cons_of_mem _ ?_ | refine List.mem_append_right _ ?_)); done) | fail)) (by exact Try.sizeOf28) | fail "load 1.0") ?_
    refine Z.le rfl trivial ?_
    refine Z.ZO.call rfl rfl (by rfl) rfl rfl Try.call38 rfl (rvalid24 r _) ?_
    rintro v1_1 w1_1 ⟨rfl, hy⟩
    replace hs := hs.call hy
    clear hy
    try simp only [List.cons_append, List.nil_append, List.append_nil] at hs
    rw [decide_eq_true hr]
    refine Z.lb 1 rfl ?_
    refine Z.lnil ?_
    refine Z.only [1, 2, 8] rfl ?_
    refine Z.nthen ?_
    refine Z.cond rfl (fun h => absurd h (by simp)) (fun hc1 => ?_)
    refine Z.skip ?_
    refine Z.nthen ?_
    refine Z.seq ?_
    refine Z.seq ?_
    refine Z.region ?_
    refine Z.l rfl rfl (by rfl) (Z.keepS hs) (Z.Yd.fieldA (m := 0) rfl (by kernel_rfl)) ?_
    refine Z.l rfl rfl (by rfl) (Z.keepS hs) (by first | exact Z.Yd.load rfl Try.isAgg4 (fun _ => Z.cellB (by first | ((repeat (first | exact List.mem_cons_self | refine List.mem_cons_of_mem _ ?_ | refine List.mem_append_right _ ?_)); done) | fail) rfl) | exact Z.Yd.load rfl Try.isAgg4 (fun _ => Z.cellO (by assumption) (by simp) (by assumption)) | fail "load 3.1") ?_
    refine Z.lb 1 rfl ?_
    refine Z.lnil ?_
    refine Z.only [1, 2, 12] rfl ?_
    refine Z.nthen ?_
    refine Z.cond rfl (fun h => absurd h (by simp [hl])) (fun hc3 => ?_)
    refine Z.skip ?_
    refine Z.nthen ?_
    refine Z.seq ?_
    refine Z.region ?_
    refine Z.l rfl rfl (by rfl) (Z.keepS hs) (Z.Yd.fieldA (m := 2) rfl (by kernel_rfl)) ?_
    refine Z.l rfl rfl (by rfl) (Z.keepS hs) (Z.Yd.loadA _ rfl Try.isAgg26 (fun _ => Z.cellsBo (cs := r.cells) [.int .i64 r.a, .int .i64 r.b, .int .i64 r.c, .int .i64 r.d] (by first | ((repeat (first | exact List.mem_cons_self | refine List.mem_cons_of_mem _ ?_ | refine List.mem_append_right _ ?_)); done) | fail) ⟨[], rfl⟩) (by exact Try.sizeOf26)) ?_
    refine Z.le rfl trivial ?_
    refine Z.ZO.alloc rfl rfl (by rfl) Try.zeroValue26 rfl hs ?_
    clear hs; intro g4 w4 hs
    refine Z.le rfl trivial ?_
    refine Z.ZO.storeA rfl rfl hs rfl rfl (by kernel_rfl) (by simp [Value.oneCell']) (by first | exact SX.at0 | exact SX.at1 | exact SX.at2 | exact SX.at3 | exact SX.at4 | exact SX.at5 | exact Z.at6 | exact Z.at7 | exact Z.at8 | exact Z.at9 | exact Z.at10 | exact Z.at11 | exact Z.at12) (by rfl) ?_
    clear hs; intro ws hs
    simp only [Nat.zero_add, Nat.add_zero, Nat.reduceAdd, Int.reduceToNat, Nat.reduceMul, List.set_cons_zero, List.set_cons_succ, List.setIfInBounds_toArray] at hs
    refine Z.lnil ?_
    refine Z.only [2, 4] rfl ?_
    refine Z.nthen ?_
    refine Z.seq ?_
    refine Z.region ?_
    refine Z.l rfl rfl (by rfl) (Z.keepS hs) (Z.Yd.elemA rfl rfl Try.underlying26 Try.sizeOf3 (fun hG => ⟨(by first | omega | (have hG' := Z.gh rfl hG; simp at hG'; omega)), (by first | omega | (have hG' := Z.gh rfl hG; simp at hG'; omega))⟩)) ?_
    refine Z.l rfl rfl (by rfl) (Z.keepS hs) (by first | exact Z.Yd.load rfl Try.isAgg3 (fun _ => Z.cellB (by first | ((repeat (first | exact List.mem_cons_self | refine List.mem_cons_of_mem _ ?_ | refine List.mem_append_right _ ?_)); done) | fail) rfl) | exact Z.Yd.load rfl Try.isAgg3 (fun hG => Z.cellR (by first | ((repeat (first | exact List.mem_cons_self | refine List.mem_cons_of_mem _ ?_ | refine List.mem_append_right _ ?_)); done) | fail) (Z.ints_at (by first | omega | (have hG' := Z.gh rfl hG; simp at hG'; omega)) (by first | omega | (have hG' := Z.gh rfl hG; simp at hG'; omega)))) | exact Z.Yd.load rfl Try.isAgg3 (fun hG => Z.cellXi (by assumption) (by first | omega | (have hG' := Z.gh rfl hG; simp at hG'; omega)) (by first | omega | (have hG' := Z.gh rfl hG; simp at hG'; omega))) | exact Z.Yd.load rfl Try.isAgg3 (fun hG => Z.cellS (by assumption) rfl (by first | omega | (have hG' := Z.gh rfl hG; simp at hG'; omega)) (by first | omega | (have hG' := Z.gh rfl hG; simp at hG'; omega))) | fail "load 6.1") ?_
    refine Z.l rfl rfl (by rfl) (Z.keepS hs) (Z.Yd.mul rfl rfl (fun hG => Z.wi64 (by first | omega | (have hG' := Z.gh rfl hG; simp at hG'; omega)))) ?_
    refine Z.l rfl rfl (by rfl) (Z.keepS hs) (Z.Yd.elemA rfl rfl Try.underlying26 Try.sizeOf3 (fun hG => ⟨(by first | omega | (have hG' := Z.gh rfl hG; simp at hG'; omega)), (by first | omega | (have hG' := Z.gh rfl hG; simp at hG'; omega))⟩)) ?_
    refine Z.l rfl rfl (by rfl) (Z.keepS hs) (by first | exact Z.Yd.load rfl Try.isAgg3 (fun _ => Z.cellB (by first | ((repeat (first | exact List.mem_cons_self | refine List.mem_cons_of_mem _ ?_ | refine List.mem_append_right _ ?_)); done) | fail) rfl) | exact Z.Yd.load rfl Try.isAgg3 (fun hG => Z.cellR (by first | ((repeat (first | exact List.mem_cons_self | refine List.mem_cons_of_mem _ ?_ | refine List.mem_append_right _ ?_)); done) | fail) (Z.ints_at (by first | omega | (have hG' := Z.gh rfl hG; simp at hG'; omega)) (by first | omega | (have hG' := Z.gh rfl hG; simp at hG'; omega)))) | exact Z.Yd.load rfl Try.isAgg3 (fun hG => Z.cellXi (by assumption) (by first | omega | (have hG' := Z.gh rfl hG; simp at hG'; omega)) (by first | omega | (have hG' := Z.gh rfl hG; simp at hG'; omega))) | exact Z.Yd.load rfl Try.isAgg3 (fun hG => Z.cellS (by assumption) rfl (by first | omega | (have hG' := Z.gh rfl hG; simp at hG'; omega)) (by first | omega | (have hG' := Z.gh rfl hG; simp at hG'; omega))) | fail "load 6.4") ?_
    refine Z.l rfl rfl (by rfl) (Z.keepS hs) (Z.Yd.add rfl rfl (fun hG => Z.wi64 (by first | omega | (have hG' := Z.gh rfl hG; simp at hG'; omega)))) ?_
    refine Z.l rfl rfl (by rfl) (Z.keepS hs) (Z.Yd.mul rfl rfl (fun hG => Z.wi64 (by first | omega | (have hG' := Z.gh rfl hG; simp at hG'; omega)))) ?_
    refine Z.l rfl rfl (by rfl) (Z.keepS hs) (Z.Yd.elemA rfl rfl Try.underlying26 Try.sizeOf3 (fun hG => ⟨(by first | omega | (have hG' := Z.gh rfl hG; simp at hG'; omega)), (by first | omega | (have hG' := Z.gh rfl hG; simp at hG'; omega))⟩)) ?_
    refine Z.l rfl rfl (by rfl) (Z.keepS hs) (by first | exact Z.Yd.load rfl Try.isAgg3 (fun _ => Z.cellB (by first | ((repeat (first | exact List.mem_cons_self | refine List.mem_cons_of_mem _ ?_ | refine List.mem_append_right _ ?_)); done) | fail) rfl) | exact Z.Yd.load rfl Try.isAgg3 (fun hG => Z.cellR (by first | ((repeat (first | exact List.mem_cons_self | refine List.mem_cons_of_mem _ ?_ | refine List.mem_append_right _ ?_)); done) | fail) (Z.ints_at (by first | omega | (have hG' := Z.gh rfl hG; simp at hG'; omega)) (by first | omega | (have hG' := Z.gh rfl hG; simp at hG'; omega)))) | exact Z.Yd.load rfl Try.isAgg3 (fun hG => Z.cellXi (by assumption) (by first | omega | (have hG' := Z.gh rfl hG; simp at hG'; omega)) (by first | omega | (have hG' := Z.gh rfl hG; simp at hG'; omega))) | exact Z.Yd.load rfl Try.isAgg3 (fun hG => Z.cellS (by assumption) rfl (by first | omega | (have hG' := Z.gh rfl hG; simp at hG'; omega)) (by first | omega | (have hG' := Z.gh rfl hG; simp at hG'; omega))) | fail "load 6.8") ?_
    refine Z.l rfl rfl (by rfl) (Z.keepS hs) (Z.Yd.add rfl rfl (fun hG => Z.wi64 (by first | omega | (have hG' := Z.gh rfl hG; simp at hG'; omega)))) ?_
    refine Z.l rfl rfl (by rfl) (Z.keepS hs) (Z.Yd.mul rfl rfl (fun hG => Z.wi64 (by first | omega | (have hG' := Z.gh rfl hG; simp at hG'; omega)))) ?_
    refine Z.l rfl rfl (by rfl) (Z.keepS hs) (Z.Yd.elemA rfl rfl Try.underlying26 Try.sizeOf3 (fun hG => ⟨(by first | omega | (have hG' := Z.gh rfl hG; simp at hG'; omega)), (by first | omega | (have hG' := Z.gh rfl hG; simp at hG'; omega))⟩)) ?_
    refine Z.l rfl rfl (by rfl) (Z.keepS hs) (by first | exact Z.Yd.load rfl Try.isAgg3 (fun _ => Z.cellB (by first | ((repeat (first | exact List.mem_cons_self | refine List.mem_cons_of_mem _ ?_ | refine List.mem_append_right _ ?_)); done) | fail) rfl) | exact Z.Yd.load rfl Try.isAgg3 (fun hG => Z.cellR (by first | ((repeat (first | exact List.mem_cons_self | refine List.mem_cons_of_mem _ ?_ | refine List.mem_append_right _ ?_)); done) | fail) (Z.ints_at (by first | omega | (have hG' := Z.gh rfl hG; simp at hG'; omega)) (by first | omega | (have hG' := Z.gh rfl hG; simp at hG'; omega)))) | exact Z.Yd.load rfl Try.isAgg3 (fun hG => Z.cellXi (by assumption) (by first | omega | (have hG' := Z.gh rfl hG; simp at hG'; omega)) (by first | omega | (have hG' := Z.gh rfl hG; simp at hG'; omega))) | exact Z.Yd.load rfl Try.isAgg3 (fun hG => Z.cellS (by assumption) rfl (by first | omega | (have hG' := Z.gh rfl hG; simp at hG'; omega)) (by first | omega | (have hG' := Z.gh rfl hG; simp at hG'; omega))) | fail "load 6.12") ?_
    refine Z.l rfl rfl (by rfl) (Z.keepS hs) (Z.Yd.add rfl rfl (fun hG => Z.wi64 (by first | omega | (have hG' := Z.gh rfl hG; simp at hG'; omega)))) ?_
    refine Z.lb 1 rfl ?_
    refine Z.lnil ?_
    refine Z.only [2, 5] rfl ?_
    refine Z.nthen ?_
    refine Z.seq ?_
    refine Z.region ?_
    refine Z.lb 1 rfl ?_
    refine Z.l rfl rfl (by rfl) (Z.keepS hs) (Z.Yd.quo rfl rfl (by intro hG; first | decide | omega) (by intro hG; first | exact Z.qi64 ⟨by omega, by omega⟩ (by omega) | exact rfl)) ?_
    refine Z.l rfl rfl (by rfl) (Z.keepS hs) (Z.Yd.convI rfl ⟨_, Try.underlying3⟩ Try.underlying5 (fun hG => Z.wu8 (by first | omega | (have hG' := Z.gh rfl hG; simp at hG'; omega)))) ?_
    refine Z.lb 1 rfl ?_
    refine Z.l rfl rfl (by rfl) (Z.keepS hs) (Z.Yd.quo rfl rfl (by intro hG; first | decide | omega) (by intro hG; first | exact Z.qi64 ⟨by omega, by omega⟩ (by omega) | exact rfl)) ?_
    refine Z.l rfl rfl (by rfl) (Z.keepS hs) (Z.Yd.rem rfl rfl (by intro hG; first | decide | omega) (by intro hG; first | exact Z.tmodn (by omega) | exact rfl)) ?_
    refine Z.l rfl rfl (by rfl) (Z.keepS hs) (Z.Yd.convI rfl ⟨_, Try.underlying3⟩ Try.underlying5 (fun hG => Z.wu8 (by first | omega | (have hG' := Z.gh rfl hG; simp at hG'; omega)))) ?_
    refine Z.lb 1 rfl ?_
    refine Z.l rfl rfl (by rfl) (Z.keepS hs) (Z.Yd.rem rfl rfl (by intro hG; first | decide | omega) (by intro hG; first | exact Z.tmodn (by omega) | exact rfl)) ?_
    refine Z.l rfl rfl (by rfl) (Z.keepS hs) (Z.Yd.convI rfl ⟨_, Try.underlying3⟩ Try.underlying5 (fun hG => Z.wu8 (by first | omega | (have hG' := Z.gh rfl hG; simp at hG'; omega)))) ?_
    refine Z.le rfl trivial ?_
    refine Z.ZO.litL (T' := 5) [(0, 1), (1, 1), (2, 1)] [.int .u8 0, .int .u8 0, .int .u8 0] rfl rfl (by rfl) rfl rfl (by intro W; kernel_rfl) hs ?_
    clear hs; intro g51 w51 hs
    refine Z.l rfl rfl (by rfl) (Z.keepS hs) (Z.Yd.buildL [(0, 1), (1, 1)] [.int .i64 0, .slice none 0 0] rfl rfl (by intro w; kernel_rfl)) ?_
    refine Z.le rfl trivial ?_
    refine Z.ZO.storeA rfl rfl hs rfl rfl (by kernel_rfl) (by simp [Value.oneCell']) (by first | exact SX.at0 | exact SX.at1 | exact SX.at2 | exact SX.at3 | exact SX.at4 | exact SX.at5 | exact Z.at6 | exact Z.at7 | exact Z.at8 | exact Z.at9 | exact Z.at10 | exact Z.at11 | exact Z.at12) (by rfl) ?_
    clear hs; intro ws hs
    simp only [Nat.zero_add, Nat.add_zero, Nat.reduceAdd, Int.reduceToNat, Nat.reduceMul, List.set_cons_zero, List.set_cons_succ, List.setIfInBounds_toArray] at hs
    refine Z.lb 1 rfl ?_
    refine Z.lnil ?_
    refine Z.only [2, 3] rfl ?_
    refine Z.nthen ?_
    refine Z.ret ?_
    -- ret#0
    refine Z.out2 (by exact ⟨⟨_, rfl, Z.rvcA hs Try.isAgg31 (by first | ((repeat (first | exact List.mem_cons_self | refine List.mem_cons_of_mem _ ?_ | refine List.mem_append_right _ ?_)); done) | fail) (by exact Try.sizeOf31)⟩, rfl, trivial⟩) ?_
    have e3 : be 3 (((r.a * 64 + r.b) * 64 + r.c) * 64 + r.d) = [(((r.a * 64 + r.b) * 64 + r.c) * 64 + r.d) / 65536, (((r.a * 64 + r.b) * 64 + r.c) * 64 + r.d) / 256 % 256, (((r.a * 64 + r.b) * 64 + r.c) * 64 + r.d) % 256] := by
      simp only [be, List.nil_append, List.cons_append, List.cons.injEq, and_true, true_and]
      omega
    rw [e3]
    exact ⟨_, rfl, _, rfl, _, _, rfl, (SX.St.asRow (k := 3) (size := 1) hs (by simp) (by unfold maxLen; omega)).sel [0] (by decide)⟩

theorem same24 (lc lc2 : Int) (A B : Option Addr) (n c m d : Nat) (l k : List Int) (w : World) (hx : Sl w A (ints .u8 l)) (hy : Sl w B (ints .u8 k)) (hl : l.length = n) (hk : k.length = m) (hb : Byts l) (hc : Byts k) :
    Calls Try.prog 16 #[.agg #[.int .i64 lc, .slice A n c], .agg #[.int .i64 lc2, .slice B m d]] w (SX.Ret fun v w' => v = .bool (decide (lc = lc2 ∧ l = k)) ∧ SX.St w [] w' []) := by
  have hs := SX.St.start w
  have he := Z.str_eq hb hc
  refine Z.enter Try.func16 rfl Try.ntmps16 rfl rfl ?_
  refine Z.seq ?_
  refine Z.region ?_
  refine Z.le rfl trivial ?_
  refine Z.ZO.box rfl rfl (by rfl) rfl rfl hs ?_
  clear hs; intro g2 w2 hs
  refine Z.le rfl trivial ?_
  refine Z.ZO.box rfl rfl (by rfl) rfl rfl hs ?_
  clear hs; intro g3 w3 hs
  refine Z.lb 1 rfl ?_
  refine Z.lnil ?_
  refine Z.only [2, 3] rfl ?_
  refine Z.nthen ?_
  refine Z.seq ?_
  refine Z.region ?_
  refine Z.l rfl rfl (by rfl) (Z.keepS hs) (Z.Yd.fieldA (m := 0) rfl (by kernel_rfl)) ?_
  refine Z.l rfl rfl (by rfl) (Z.keepS hs) (by first | exact Z.Yd.load rfl Try.isAgg3 (fun _ => Z.cellB (by first | ((repeat (first | exact List.mem_cons_self | refine List.mem_cons_of_mem _ ?_ | refine List.mem_append_right _ ?_)); done) | fail) rfl) | exact Z.Yd.load rfl Try.isAgg3 (fun _ => Z.cellO (by assumption) (by simp) (by assumption)) | fail "load 1.1") ?_
  refine Z.l rfl rfl (by rfl) (Z.keepS hs) (Z.Yd.fieldA (m := 0) rfl (by kernel_rfl)) ?_
  refine Z.l rfl rfl (by rfl) (Z.keepS hs) (by first | exact Z.Yd.load rfl Try.isAgg3 (fun _ => Z.cellB (by first | ((repeat (first | exact List.mem_cons_self | refine List.mem_cons_of_mem _ ?_ | refine List.mem_append_right _ ?_)); done) | fail) rfl) | exact Z.Yd.load rfl Try.isAgg3 (fun _ => Z.cellO (by assumption) (by simp) (by assumption)) | fail "load 1.3") ?_
  refine Z.lb 2 rfl ?_
  refine Z.split (s := 10) rfl (fun hsp10 => ?_) (fun hsp10 => ?_)
  · first
      | (exfalso; simp at hsp10 <;> omega)
      | (
        refine Z.yes (s := 10) (b := true) rfl hsp10 rfl ?_
        (try simp at hsp10)
        refine Z.l rfl rfl (by rfl) (Z.keepS hs) (Z.Yd.fieldA (m := 1) rfl (by kernel_rfl)) ?_
        refine Z.l rfl rfl (by rfl) (Z.keepS hs) (by first | exact Z.Yd.load rfl Try.isAgg29 (fun _ => Z.cellB (by first | ((repeat (first | exact List.mem_cons_self | refine List.mem_cons_of_mem _ ?_ | refine List.mem_append_right _ ?_)); done) | fail) rfl) | exact Z.Yd.load rfl Try.isAgg29 (fun _ => Z.cellO (by assumption) (by simp) (by assumption)) | fail "load 1.7") ?_
        refine Z.l rfl rfl (by rfl) (Z.keepS hs) (Z.Yd.b2s rfl Try.underlying29 Try.underlying5 Try.underlying9 hl (fun W hW => by obtain ⟨R, hR, _⟩ := hW; exact hx.st hR)) ?_
        refine Z.l rfl rfl (by rfl) (Z.keepS hs) (Z.Yd.fieldA (m := 1) rfl (by kernel_rfl)) ?_
        refine Z.l rfl rfl (by rfl) (Z.keepS hs) (by first | exact Z.Yd.load rfl Try.isAgg29 (fun _ => Z.cellB (by first | ((repeat (first | exact List.mem_cons_self | refine List.mem_cons_of_mem _ ?_ | refine List.mem_append_right _ ?_)); done) | fail) rfl) | exact Z.Yd.load rfl Try.isAgg29 (fun _ => Z.cellO (by assumption) (by simp) (by assumption)) | fail "load 1.10") ?_
        refine Z.l rfl rfl (by rfl) (Z.keepS hs) (Z.Yd.b2s rfl Try.underlying29 Try.underlying5 Try.underlying9 hk (fun W hW => by obtain ⟨R, hR, _⟩ := hW; exact hy.st hR)) ?_
        refine Z.l rfl rfl (by rfl) (Z.keepS hs) (Z.Yd.strEq rfl rfl) ?_
        refine Z.yes (s := 10) (b := true) rfl rfl rfl ?_
        refine Z.l rfl rfl (by rfl) (Z.keepS hs) (Z.Yd.pickT rfl rfl) ?_
        refine Z.lb 1 rfl ?_
        refine Z.lnil ?_
        refine Z.only [4] rfl ?_
        refine Z.nthen ?_
        refine Z.ret ?_
        -- ret#0
        refine Z.out1 (by exact ⟨rfl, trivial⟩) ?_
        exact ⟨_, rfl, by simp_all, hs.sub (List.nil_sublist _)⟩
        )
  · first
      | (exfalso; simp at hsp10 <;> omega)
      | (
        refine Z.yes (s := 10) (b := false) rfl hsp10 rfl ?_
        (try simp at hsp10)
        refine Z.ls rfl rfl rfl (by rfl) ?_
        refine Z.ls rfl rfl rfl (by rfl) ?_
        refine Z.ls rfl rfl rfl (by rfl) ?_
        refine Z.ls rfl rfl rfl (by rfl) ?_
        refine Z.ls rfl rfl rfl (by rfl) ?_
        refine Z.ls rfl rfl rfl (by rfl) ?_
        refine Z.ls rfl rfl rfl (by rfl) ?_
        refine Z.l rfl rfl (by rfl) (Z.keepS hs) (Z.Yd.pickF rfl rfl) ?_
        refine Z.lb 1 rfl ?_
        refine Z.lnil ?_
        refine Z.only [4] rfl ?_
        refine Z.nthen ?_
        refine Z.ret ?_
        -- ret#1
        refine Z.out1 (by exact ⟨rfl, trivial⟩) ?_
        exact ⟨_, rfl, by simp_all, hs.sub (List.nil_sublist _)⟩
        )
theorem encL_bytes {r : RepV} (hr : r.ok) : Byts (encL r) := by
  unfold encL
  split
  · exact be_bytes _ _
  · obtain ⟨hg, -, hj⟩ := (ok_iff r).1 hr
    have kg := (hj r.group.toNat (by omega)).1
    unfold okL at kg
    intro x hx
    obtain rfl : x = _ := by simpa using hx
    omega
theorem controlReports_walk (r : RepV) (w : World) :
    Calls Try.prog 4 #[.agg r.cells.toArray] w (SX.Ret fun v w' => v = .bool true ∧ SX.St w [] w' []) := by
  have hs := SX.St.start w
  by_cases hr : r.ok
  · have hB := encL_bytes hr
    refine Z.enter Try.func4 rfl Try.ntmps4 rfl rfl ?_
    refine Z.seq ?_
    refine Z.region ?_
    refine Z.le rfl trivial ?_
    refine Z.ZO.box rfl rfl (by rfl) rfl rfl hs ?_
    clear hs; intro g1 w1 hs
    refine Z.lb 1 rfl ?_
    refine Z.lnil ?_
    refine Z.only [1] rfl ?_
    refine Z.nthen ?_
    refine Z.seq ?_
    refine Z.region ?_
    refine Z.l rfl rfl (by rfl) (Z.keepS hs) (by first | exact Z.Yd.loadA _ rfl Try.isAgg28 (fun _ => Z.cellsB (by first | ((repeat (first | exact List.mem_cons_self | refine List.mem_cons_of_mem _ ?_ | refine List.mem_append_right _ ?_)); done) | fail)) (by exact Try.sizeOf28) | fail "load 1.0") ?_
    refine Z.le rfl trivial ?_
    refine Z.ZO.call rfl rfl (by rfl) rfl rfl Try.call14 rfl (encrep_ok r _ hr) ?_
    rintro v1_1 w1_1 ⟨u, rfl, B, co, rfl, hy⟩
    replace hs := hs.call hy
    clear hy
    try simp only [List.cons_append, List.nil_append, List.append_nil] at hs
    refine Z.lb 3 rfl ?_
    refine Z.le rfl trivial ?_
    refine Z.ZO.alloc rfl rfl (by rfl) Try.zeroValue31 rfl hs ?_
    clear hs; intro g3 w3 hs
    refine Z.le rfl trivial ?_
    refine Z.ZO.storeA rfl rfl hs rfl rfl (by kernel_rfl) (by simp [Value.oneCell']) (by first | exact SX.at0 | exact SX.at1 | exact SX.at2 | exact SX.at3 | exact SX.at4 | exact SX.at5 | exact Z.at6 | exact Z.at7 | exact Z.at8 | exact Z.at9 | exact Z.at10 | exact Z.at11 | exact Z.at12) (by rfl) ?_
    clear hs; intro ws hs
    simp only [Nat.zero_add, Nat.add_zero, Nat.reduceAdd, Int.reduceToNat, Nat.reduceMul, List.set_cons_zero, List.set_cons_succ, List.setIfInBounds_toArray] at hs
    refine Z.lb 1 rfl ?_
    refine Z.lnil ?_
    refine Z.only [1, 3, 4] rfl ?_
    refine Z.nthen ?_
    refine Z.seq ?_
    refine Z.region ?_
    refine Z.l rfl rfl (by rfl) (Z.keepS hs) (by first | exact Z.Yd.loadA _ rfl Try.isAgg28 (fun _ => Z.cellsB (by first | ((repeat (first | exact List.mem_cons_self | refine List.mem_cons_of_mem _ ?_ | refine List.mem_append_right _ ?_)); done) | fail)) (by exact Try.sizeOf28) | fail "load 2.0") ?_
    refine Z.le rfl trivial ?_
    refine Z.ZO.call rfl rfl (by rfl) rfl rfl Try.call15 rfl (rencrep_ok r _ hr) ?_
    rintro v2_1 w2_1 ⟨u2, rfl, B2, co2, rfl, hy⟩
    replace hs := hs.call hy
    clear hy
    try simp only [List.cons_append, List.nil_append, List.append_nil] at hs
    refine Z.lb 3 rfl ?_
    refine Z.le rfl trivial ?_
    refine Z.ZO.alloc rfl rfl (by rfl) Try.zeroValue31 rfl hs ?_
    clear hs; intro g5 w5 hs
    refine Z.le rfl trivial ?_
    refine Z.ZO.storeA rfl rfl hs rfl rfl (by kernel_rfl) (by simp [Value.oneCell']) (by first | exact SX.at0 | exact SX.at1 | exact SX.at2 | exact SX.at3 | exact SX.at4 | exact SX.at5 | exact Z.at6 | exact Z.at7 | exact Z.at8 | exact Z.at9 | exact Z.at10 | exact Z.at11 | exact Z.at12) (by rfl) ?_
    clear hs; intro ws hs
    simp only [Nat.zero_add, Nat.add_zero, Nat.reduceAdd, Int.reduceToNat, Nat.reduceMul, List.set_cons_zero, List.set_cons_succ, List.setIfInBounds_toArray] at hs
    refine Z.lb 1 rfl ?_
    refine Z.lnil ?_
    refine Z.only [3, 4, 5, 6] rfl ?_
    refine Z.nthen ?_
    refine Z.seq ?_
    refine Z.region ?_
    refine Z.l rfl rfl (by rfl) (Z.keepS hs) (by first | exact Z.Yd.loadA _ rfl Try.isAgg31 (fun _ => Z.cellsB (by first | ((repeat (first | exact List.mem_cons_self | refine List.mem_cons_of_mem _ ?_ | refine List.mem_append_right _ ?_)); done) | fail)) (by exact Try.sizeOf31) | fail "load 3.0") ?_
    refine Z.l rfl rfl (by rfl) (Z.keepS hs) (by first | exact Z.Yd.loadA _ rfl Try.isAgg31 (fun _ => Z.cellsB (by first | ((repeat (first | exact List.mem_cons_self | refine List.mem_cons_of_mem _ ?_ | refine List.mem_append_right _ ?_)); done) | fail)) (by exact Try.sizeOf31) | fail "load 3.1") ?_
    refine Z.le rfl trivial ?_
    refine Z.ZO.call rfl rfl (by rfl) rfl rfl Try.call16 rfl (same24 _ _ B B2 _ _ _ _ (encL r) (encL r) _ (hs.slm (by first | ((repeat (first | exact List.mem_cons_self | refine List.mem_cons_of_mem _ ?_ | refine List.mem_append_right _ ?_)); done) | fail)) (hs.slm (by first | ((repeat (first | exact List.mem_cons_self | refine List.mem_cons_of_mem _ ?_ | refine List.mem_append_right _ ?_)); done) | fail)) rfl rfl hB hB) ?_
    rintro v3_2 w3_2 ⟨rfl, hy⟩
    replace hs := hs.call hy
    clear hy
    try simp only [List.cons_append, List.nil_append, List.append_nil] at hs
    refine Z.lb 1 rfl ?_
    refine Z.yes (s := 20) (b := true) rfl ((by simp)) rfl ?_
    refine Z.lb 1 rfl ?_
    refine Z.yes (s := 20) (b := true) rfl rfl rfl ?_
    refine Z.le rfl (by exact ⟨rfl, trivial⟩) ?_
    refine Z.ZO.call rfl rfl (by rfl) rfl rfl Try.call17 rfl (num24 _ _) ?_
    rintro v3_5 w3_5 ⟨rfl, hy⟩
    replace hs := hs.call hy
    clear hy
    try simp only [List.cons_append, List.nil_append, List.append_nil] at hs
    refine Z.lb 2 rfl ?_
    refine Z.yes (s := 20) (b := true) rfl rfl rfl ?_
    refine Z.l rfl rfl (by rfl) (Z.keepS hs) (Z.Yd.pickT rfl rfl) ?_
    refine Z.lb 1 rfl ?_
    refine Z.yes (s := 26) (b := true) rfl ((by simp)) rfl ?_
    refine Z.le rfl (by exact ⟨rfl, trivial⟩) ?_
    refine Z.ZO.call rfl rfl (by rfl) rfl rfl Try.call12 rfl (works24 _) ?_
    rintro v3_10 w3_10 ⟨rfl, hy⟩
    replace hs := hs.call hy
    clear hy
    try simp only [List.cons_append, List.nil_append, List.append_nil] at hs
    refine Z.l rfl rfl (by rfl) (Z.keepS hs) (Z.Yd.pickT rfl rfl) ?_
    refine Z.lb 1 rfl ?_
    refine Z.lnil ?_
    refine Z.only [2] rfl ?_
    refine Z.nthen ?_
    refine Z.ret ?_
    -- ret#0
    refine Z.out1 (by exact ⟨rfl, trivial⟩) ?_
    first | exact ⟨_, rfl, rfl, hs⟩ | exact ⟨_, rfl, rfl, hs.sub (List.nil_sublist _)⟩
  · skip
    refine Z.enter Try.func4 rfl Try.ntmps4 rfl rfl ?_
    refine Z.seq ?_
    refine Z.region ?_
    refine Z.le rfl trivial ?_
    refine Z.ZO.box rfl rfl (by rfl) rfl rfl hs ?_
    clear hs; intro g1 w1 hs
    refine Z.lb 1 rfl ?_
    refine Z.lnil ?_
    refine Z.only [1] rfl ?_
    refine Z.nthen ?_
    refine Z.seq ?_
    refine Z.region ?_
    refine Z.l rfl rfl (by rfl) (Z.keepS hs) (by first | exact Z.Yd.loadA _ rfl Try.isAgg28 (fun _ => Z.cellsB (by first | ((repeat (first | exact List.mem_cons_self | refine List.mem_cons_of_mem _ ?_ | refine List.mem_append_right _ ?_)); done) | fail)) (by exact Try.sizeOf28) | fail "load 1.0") ?_
    refine Z.le rfl trivial ?_
    refine Z.ZO.call rfl rfl (by rfl) rfl rfl Try.call14 rfl (encrep_bad r _ hr) ?_
    rintro v1_1 w1_1 ⟨rfl, hy⟩
    replace hs := hs.call hy
    clear hy
    try simp only [List.cons_append, List.nil_append, List.append_nil] at hs
    refine Z.lb 3 rfl ?_
    refine Z.le rfl trivial ?_
    refine Z.ZO.alloc rfl rfl (by rfl) Try.zeroValue31 rfl hs ?_
    clear hs; intro g3 w3 hs
    refine Z.le rfl trivial ?_
    refine Z.ZO.storeA rfl rfl hs rfl rfl (by kernel_rfl) (by simp [Value.oneCell']) (by first | exact SX.at0 | exact SX.at1 | exact SX.at2 | exact SX.at3 | exact SX.at4 | exact SX.at5 | exact Z.at6 | exact Z.at7 | exact Z.at8 | exact Z.at9 | exact Z.at10 | exact Z.at11 | exact Z.at12) (by rfl) ?_
    clear hs; intro ws hs
    simp only [Nat.zero_add, Nat.add_zero, Nat.reduceAdd, Int.reduceToNat, Nat.reduceMul, List.set_cons_zero, List.set_cons_succ, List.setIfInBounds_toArray] at hs
    refine Z.lb 1 rfl ?_
    refine Z.lnil ?_
    refine Z.only [1, 3, 4] rfl ?_
    refine Z.nthen ?_
    refine Z.seq ?_
    refine Z.region ?_
    refine Z.l rfl rfl (by rfl) (Z.keepS hs) (by first | exact Z.Yd.loadA _ rfl Try.isAgg28 (fun _ => Z.cellsB (by first | ((repeat (first | exact List.mem_cons_self | refine List.mem_cons_of_mem _ ?_ | refine List.mem_append_right _ ?_)); done) | fail)) (by exact Try.sizeOf28) | fail "load 2.0") ?_
    refine Z.le rfl trivial ?_
    refine Z.ZO.call rfl rfl (by rfl) rfl rfl Try.call15 rfl (rencrep_bad r _ hr) ?_
    rintro v2_1 w2_1 ⟨rfl, hy⟩
    replace hs := hs.call hy
    clear hy
    try simp only [List.cons_append, List.nil_append, List.append_nil] at hs
    refine Z.lb 3 rfl ?_
    refine Z.le rfl trivial ?_
    refine Z.ZO.alloc rfl rfl (by rfl) Try.zeroValue31 rfl hs ?_
    clear hs; intro g5 w5 hs
    refine Z.le rfl trivial ?_
    refine Z.ZO.storeA rfl rfl hs rfl rfl (by kernel_rfl) (by simp [Value.oneCell']) (by first | exact SX.at0 | exact SX.at1 | exact SX.at2 | exact SX.at3 | exact SX.at4 | exact SX.at5 | exact Z.at6 | exact Z.at7 | exact Z.at8 | exact Z.at9 | exact Z.at10 | exact Z.at11 | exact Z.at12) (by rfl) ?_
    clear hs; intro ws hs
    simp only [Nat.zero_add, Nat.add_zero, Nat.reduceAdd, Int.reduceToNat, Nat.reduceMul, List.set_cons_zero, List.set_cons_succ, List.setIfInBounds_toArray] at hs
    refine Z.lb 1 rfl ?_
    refine Z.lnil ?_
    refine Z.only [3, 4, 5, 6] rfl ?_
    refine Z.nthen ?_
    refine Z.seq ?_
    refine Z.region ?_
    refine Z.l rfl rfl (by rfl) (Z.keepS hs) (by first | exact Z.Yd.loadA _ rfl Try.isAgg31 (fun _ => Z.cellsB (by first | ((repeat (first | exact List.mem_cons_self | refine List.mem_cons_of_mem _ ?_ | refine List.mem_append_right _ ?_)); done) | fail)) (by exact Try.sizeOf31) | fail "load 3.0") ?_
    refine Z.l rfl rfl (by rfl) (Z.keepS hs) (by first | exact Z.Yd.loadA _ rfl Try.isAgg31 (fun _ => Z.cellsB (by first | ((repeat (first | exact List.mem_cons_self | refine List.mem_cons_of_mem _ ?_ | refine List.mem_append_right _ ?_)); done) | fail)) (by exact Try.sizeOf31) | fail "load 3.1") ?_
    refine Z.le rfl trivial ?_
    refine Z.ZO.call rfl rfl (by rfl) rfl rfl Try.call16 rfl (same24 _ _ none none 0 0 0 0 [] [] _ (fun h ↦ absurd h (by decide)) (fun h ↦ absurd h (by decide)) rfl rfl (by simp [Byts]) (by simp [Byts])) ?_
    rintro v3_2 w3_2 ⟨rfl, hy⟩
    replace hs := hs.call hy
    clear hy
    try simp only [List.cons_append, List.nil_append, List.append_nil] at hs
    refine Z.lb 1 rfl ?_
    refine Z.yes (s := 20) (b := true) rfl ((by simp)) rfl ?_
    refine Z.lb 1 rfl ?_
    refine Z.yes (s := 20) (b := true) rfl rfl rfl ?_
    refine Z.le rfl (by exact ⟨rfl, trivial⟩) ?_
    refine Z.ZO.call rfl rfl (by rfl) rfl rfl Try.call17 rfl (num24 _ _) ?_
    rintro v3_5 w3_5 ⟨rfl, hy⟩
    replace hs := hs.call hy
    clear hy
    try simp only [List.cons_append, List.nil_append, List.append_nil] at hs
    refine Z.lb 2 rfl ?_
    refine Z.yes (s := 20) (b := true) rfl rfl rfl ?_
    refine Z.l rfl rfl (by rfl) (Z.keepS hs) (Z.Yd.pickT rfl rfl) ?_
    refine Z.lb 1 rfl ?_
    refine Z.yes (s := 26) (b := true) rfl ((by simp)) rfl ?_
    refine Z.le rfl (by exact ⟨rfl, trivial⟩) ?_
    refine Z.ZO.call rfl rfl (by rfl) rfl rfl Try.call12 rfl (works24 _) ?_
    rintro v3_10 w3_10 ⟨rfl, hy⟩
    replace hs := hs.call hy
    clear hy
    try simp only [List.cons_append, List.nil_append, List.append_nil] at hs
    refine Z.l rfl rfl (by rfl) (Z.keepS hs) (Z.Yd.pickT rfl rfl) ?_
    refine Z.lb 1 rfl ?_
    refine Z.lnil ?_
    refine Z.only [2] rfl ?_
    refine Z.nthen ?_
    refine Z.ret ?_
    -- ret#0
    refine Z.out1 (by exact ⟨rfl, trivial⟩) ?_
    first | exact ⟨_, rfl, rfl, hs⟩ | exact ⟨_, rfl, rfl, hs.sub (List.nil_sublist _)⟩
end Go.Proofs.Yteabcdmgklhijaa

/- Arguments of bytes and integers, read. -/
namespace Go.Proofs.Yteabcdmgklhijaa
open Go.RowKit
set_option linter.unusedSimpArgs false
set_option linter.unusedVariables false
namespace Rb
theorem sliceV {P : Program} {W : World} {t e : TypeId} {cs : List Value} (ht : P.underlying t = some (.slice e)) (h : Rd P W t cs) : ∃ A n c, cs = [.slice A n c] := by
  rcases Rd.slice ht h with h1 | ⟨a, len, cap, rows, h1, -⟩
  · exact ⟨none, 0, 0, h1⟩
  · exact ⟨some a, len, cap, h1⟩
theorem flat_ints (k : IntKind) (l : List Int) : l.flatMap (fun x => [Value.int k x]) = ints k l := by
  induction l with
  | nil => rfl
  | cons x l ih => rw [List.flatMap_cons, ih]; rfl
theorem rd_bytes {W : World} {A : Option Addr} {n c : Nat} (z : Rd Try.prog W 29 [.slice A n c]) : ∃ l : List Int, l.length = n ∧ n ≤ c ∧ c ≤ maxLen ∧ (∀ x ∈ l, 0 ≤ x ∧ x < 256) ∧ Sl W A (ints .u8 l) := by
  have c1 : Try.prog.cellsOf 5 = 1 := by kernel_rfl
  obtain ⟨xs, h1, h2, h3, h4, h5⟩ := Rd.rows (fun x : Int => [Value.int .u8 x]) (fun x => 0 ≤ x ∧ x < 256) Try.underlying29 (by rw [c1]; decide)
    (fun r hr => by
      obtain ⟨x, hx, wx⟩ := Rd.int Try.underlying5 hr
      have := wf_u8 wx
      exact ⟨x, hx, this.1, by omega⟩) (fun x => c1.symm) z
  rw [flat_ints] at h5
  exact ⟨xs, h1, h2, h3, h4, h5⟩
theorem rd_ints {W : World} {A : Option Addr} {n c : Nat} (z : Rd Try.prog W 86 [.slice A n c]) : ∃ l : List Int, l.length = n ∧ n ≤ c ∧ c ≤ maxLen ∧ (∀ x ∈ l, -9223372036854775808 ≤ x ∧ x ≤ 9223372036854775807) ∧ Sl W A (ints .i64 l) := by
  have c1 : Try.prog.cellsOf 3 = 1 := by kernel_rfl
  obtain ⟨xs, h1, h2, h3, h4, h5⟩ := Rd.rows (fun x : Int => [Value.int .i64 x]) (fun x => -9223372036854775808 ≤ x ∧ x ≤ 9223372036854775807) Try.underlying86 (by rw [c1]; decide)
    (fun r hr => by
      obtain ⟨x, hx, wx⟩ := Rd.int Try.underlying3 hr
      exact ⟨x, hx, wf_i64 wx⟩) (fun x => c1.symm) z
  rw [flat_ints] at h5
  exact ⟨xs, h1, h2, h3, h4, h5⟩
end Rb
end Go.Proofs.Yteabcdmgklhijaa
