/- Control elements: reports encoded. -/
import Derived.Test.YteabcdmgklhijaaCe
namespace Go.Proofs.Yteabcdmgklhijaa
open Go.RowKit
set_option linter.unusedSimpArgs false
set_option linter.unusedVariables false
--newlaws

def RepV.lv (r : RepV) : Nat → Int
  | 0 => r.a
  | 1 => r.b
  | 2 => r.c
  | _ => r.d
def okL (x : Int) : Prop := 0 ≤ x ∧ x ≤ 63
instance (x : Int) : Decidable (okL x) := inferInstanceAs (Decidable (_ ∧ _))
/-- a report that can be encoded -/
def RepV.ok (r : RepV) : Prop := (0 ≤ r.group ∧ r.group ≤ 3) ∧ (if r.long = true then r.group = 0 ∧ okL r.a ∧ okL r.b ∧ okL r.c ∧ okL r.d else (∀ k : Nat, k < 4 → r.lv k = 0 ∨ (k : Int) = r.group) ∧ okL (r.lv r.group.toNat))
/-- what is at an address, cell by cell -/
def Cel (w : World) (g : Nat) (cs : List Value) : Prop := g < w.heap.size ∧ ∀ i u, cs[i]? = some u → w.cell? ⟨g, i, none⟩ = some u
abbrev RepV.lvs (r : RepV) : List Value := [.int .i64 r.a, .int .i64 r.b, .int .i64 r.c, .int .i64 r.d]
theorem Cel.lvs {w : World} {g : Nat} {r : RepV} (h : Cel w g r.cells) : ∀ (j : Nat) (u : Value), r.lvs[j]? = some u → w.cell? ⟨g, 0 + 2 + j, none⟩ = some u := fun j u hu => by
  refine h.2 _ u ?_
  show (_ :: _ :: r.lvs)[0 + 2 + j]? = some u
  rw [show 0 + 2 + j = j + 1 + 1 from by omega]
  exact hu
theorem lvs_get (r : RepV) (k : Nat) (hk : k < 4) : r.lvs.toArray[k]? = some (.int .i64 (r.lv k)) := by
  have : k = 0 ∨ k = 1 ∨ k = 2 ∨ k = 3 := by omega
  rcases this with rfl | rfl | rfl | rfl <;> rfl
theorem lvs_nth (r : RepV) (k : Nat) (hk : k < 4) : Z.nth r.lvs k = some (.int .i64 (r.lv k)) := by
  have : k = 0 ∨ k = 1 ∨ k = 2 ∨ k = 3 := by omega
  rcases this with rfl | rfl | rfl | rfl <;> rfl
theorem long_bytes (r : RepV) (ha : okL r.a) (hb : okL r.b) (hc : okL r.c) (hd : okL r.d) : pk ([(r.a, (6 : Int)), (r.b, 6), (r.c, 6), (r.d, 6)].flatMap fldF) = be 3 (((r.a * 64 + r.b) * 64 + r.c) * 64 + r.d) := by
  unfold okL at *
  obtain ⟨a, hA⟩ := Int.eq_ofNat_of_zero_le ha.1
  obtain ⟨b, hB⟩ := Int.eq_ofNat_of_zero_le hb.1
  obtain ⟨c, hC⟩ := Int.eq_ofNat_of_zero_le hc.1
  obtain ⟨d, hD⟩ := Int.eq_ofNat_of_zero_le hd.1
  rw [pk_be (n := 3) (by simp [fldF, fld_length]), hA, hB, hC, hD]
  congr 1
  simp only [flat_val]
  simp [fldF, fld_length, val]
  omega
theorem short_bytes (g v : Int) (hg : 0 ≤ g ∧ g ≤ 3) (hv : okL v) : pk ([(g, (2 : Int)), (v, 6)].flatMap fldF) = [64 * g + v] := by
  unfold okL at *
  obtain ⟨a, rfl⟩ := Int.eq_ofNat_of_zero_le hg.1
  obtain ⟨b, rfl⟩ := Int.eq_ofNat_of_zero_le hv.1
  rw [pk_be (n := 1) (by simp [fldF, fld_length])]
  simp only [flat_val, be, List.nil_append]
  simp [fldF, fld_length, val]
  omega
theorem okF {v wd : Int} (hv : 0 ≤ v) (hw : 0 ≤ wd ∧ wd ≤ 8) (h : v < 2 ^ wd.toNat) : GoodF (v, wd) ∧ chkF (v, wd) = 0 := by
  obtain ⟨n, rfl⟩ := Int.eq_ofNat_of_zero_le hv
  have h1 : n < 2 ^ wd.toNat := by
    have : ((2 : Int) ^ wd.toNat) = ((2 ^ wd.toNat : Nat) : Int) := by rw [Int.natCast_pow]; rfl
    omega
  have h2 : 2 ^ wd.toNat ≤ 2 ^ 8 := Nat.pow_le_pow_right (by decide) (by omega)
  have h3 : (2 : Nat) ^ 8 = 256 := by decide
  refine ⟨by unfold GoodF; simp only; omega, ?_⟩
  unfold chkF quoF
  rw [if_neg (by simp only; omega), if_pos (by simpa using Nat.div_eq_of_lt h1)]

def encL (r : RepV) : List Int := if r.long = true then be 3 (((r.a * 64 + r.b) * 64 + r.c) * 64 + r.d) else [64 * r.group + r.lv r.group.toNat]
def encLc (r : RepV) : Int := if r.long = true then 30 else 29
set_option maxRecDepth 100000 in
theorem encrep1_long (g : Nat) (r : RepV) (w : World) (hc : Cel w g r.cells) (hr : r.ok) (hl : r.long = true) :
    Calls Try.prog 33 #[.pointer (some ⟨g, 0, none⟩)] w (SX.Ret fun v w' => IsPart 30 (be 3 (((r.a * 64 + r.b) * 64 + r.c) * 64 + r.d)) v w w') := by
  have hs := SX.St.start w
  obtain ⟨hg, hr⟩ := hr
  rw [if_pos hl] at hr
  obtain ⟨h0, ha, hb, hcc, hd⟩ := hr
  have fa := okF (v := r.a) (wd := 6) ha.1 (by omega) (by have := ha.2; simp; omega)
  have fb := okF (v := r.b) (wd := 6) hb.1 (by omega) (by have := hb.2; simp; omega)
  have fc := okF (v := r.c) (wd := 6) hcc.1 (by omega) (by have := hcc.2; simp; omega)
  have fd := okF (v := r.d) (wd := 6) hd.1 (by omega) (by have := hd.2; simp; omega)
  refine Z.enter Try.func33 rfl Try.ntmps33 rfl rfl ?_
  refine Z.seq ?_
  refine Z.region ?_
  refine Z.le rfl trivial ?_
  refine Z.ZO.alloc rfl rfl (by rfl) Try.zeroValue31 rfl hs ?_
  clear hs; intro g1 w1 hs
  refine Z.lnil ?_
  refine Z.only [0, 1] rfl ?_
  refine Z.nthen ?_
  refine Z.seq ?_
  refine Z.cutt (ι := Nat × Nat) [0, 1] rfl (fun x => [(2, [], .pointer (some ⟨x.1, 0, none⟩)), (3, [], .pointer (some ⟨x.2, 0, none⟩))]) (fun x wr => SX.St w [] wr [SX.Ent.blk x.2 26 r.lvs.toArray, SX.Ent.blk x.1 68 #[.int .u64 r.group, .int .i64 2], SX.Ent.blk g1 31 #[.int .i64 0, .slice none 0 0]]) ?_ ?_
  · skip
    refine Z.drawK (fun _ => true) mixed hs ?_
    clear hs; intro wd1 hs
    refine Z.t 0 rfl rfl rfl (by rfl) (by kernel_rfl) ⟨_, hs, by first | (simp; done) | exact fun e he => List.mem_append_right _ he⟩ (Z.Yd.fieldA (m := 1) rfl (by kernel_rfl)) ?_
    refine Z.t 1 rfl rfl rfl (by rfl) (by kernel_rfl) ⟨_, hs, by first | (simp; done) | exact fun e he => List.mem_append_right _ he⟩ (Z.Yd.load rfl Try.isAgg3 (fun _ => Z.cellO hc.1 (by simp) (hc.2 1 _ rfl))) ?_
    refine Z.t 3 rfl rfl rfl (by rfl) (by kernel_rfl) ⟨_, hs, by first | (simp; done) | exact fun e he => List.mem_append_right _ he⟩ (Z.Yd.fieldA (m := 2) rfl (by kernel_rfl)) ?_
    refine Z.t 4 rfl rfl rfl (by rfl) (by kernel_rfl) ⟨_, hs, by first | (simp; done) | exact fun e he => List.mem_append_right _ he⟩ (Z.Yd.loadA _ rfl Try.isAgg26 (fun _ w' hk j u hu => Z.cellO hc.1 (by simp) (Cel.lvs hc j u hu) w' hk) (by exact Try.sizeOf26)) ?_
    refine Z.forkD [2, 5, 6] rfl (by kernel_rfl) rfl ⟨⟨_, _, rfl, rfl, trivial, ?_⟩, ⟨_, _, rfl, rfl, trivial, ?_⟩, ⟨_, _, rfl, rfl, trivial, ?_⟩, trivial⟩
    · skip
      refine Z.ZO.call rfl rfl (by rfl) rfl rfl Try.call34 rfl (group_ok r.group _ hg) ?_
      rintro v1_2 w1_2 ⟨rfl, hy⟩
      replace hs := hs.call hy
      clear hy
      try simp only [List.cons_append, List.nil_append, List.append_nil] at hs
      refine Z.tk (Dn := fun _ => true) (i := 2) (fun _ => ⟨_, hs, by first | (simp; done) | exact fun e he => List.mem_append_right _ he⟩) ?_
      refine Z.fork2 5 6 rfl rfl rfl (by kernel_rfl) rfl rfl trivial trivial ?_ ?_
      · skip
        refine Z.ZO.alloc rfl rfl (by rfl) Try.zeroValue68 rfl hs ?_
        clear hs; intro g2 w2 hs
        refine Z.tk (Dn := fun _ => true) (i := 5) (fun _ => ⟨_, hs, by first | (simp; done) | exact fun e he => List.mem_append_right _ he⟩) ?_
        refine Z.tn 6 rfl rfl (by kernel_rfl) rfl trivial ?_
        refine Z.ZO.alloc rfl rfl (by rfl) Try.zeroValue26 rfl hs ?_
        clear hs; intro g3 w3 hs
        refine Z.tk (Dn := fun _ => true) (i := 6) (fun _ => ⟨_, hs, by first | (simp; done) | exact fun e he => List.mem_append_right _ he⟩) ?_
        refine Z.tn 7 rfl rfl (by kernel_rfl) rfl trivial ?_
        refine Z.ZO.storeA rfl rfl hs rfl rfl (by kernel_rfl) (by simp [Value.oneCell']) (by first | exact SX.at0 | exact SX.at1 | exact SX.at2 | exact SX.at3 | exact SX.at4 | exact SX.at5 | exact Z.at6 | exact Z.at7 | exact Z.at8 | exact Z.at9 | exact Z.at10 | exact Z.at11 | exact Z.at12) (by rfl) ?_
        clear hs; intro ws hs
        simp only [Nat.zero_add, Nat.add_zero, Nat.reduceAdd, Int.reduceToNat, Nat.reduceMul, List.set_cons_zero, List.set_cons_succ, List.setIfInBounds_toArray] at hs
        refine Z.tk (Dn := fun _ => true) (i := 7) (fun _ => ⟨_, hs, by first | (simp; done) | exact fun e he => List.mem_append_right _ he⟩) ?_
        refine Z.tn 8 rfl rfl (by kernel_rfl) rfl trivial ?_
        refine Z.ZO.storeA rfl rfl hs rfl rfl (by kernel_rfl) (by simp [Value.oneCell']) (by first | exact SX.at0 | exact SX.at1 | exact SX.at2 | exact SX.at3 | exact SX.at4 | exact SX.at5 | exact Z.at6 | exact Z.at7 | exact Z.at8 | exact Z.at9 | exact Z.at10 | exact Z.at11 | exact Z.at12) (by rfl) ?_
        clear hs; intro ws hs
        simp only [Nat.zero_add, Nat.add_zero, Nat.reduceAdd, Int.reduceToNat, Nat.reduceMul, List.set_cons_zero, List.set_cons_succ, List.setIfInBounds_toArray] at hs
        refine Z.tk (Dn := fun _ => true) (i := 8) (fun _ => ⟨_, hs, by first | (simp; done) | exact fun e he => List.mem_append_right _ he⟩) ?_
        refine Z.td (by rfl) (by kernel_rfl) ?_
        refine Z.only [0, 1, 2, 3] rfl ?_
        refine Z.nthen ?_
        exact Z.meet (g2, g3) (by refine ⟨?_, ?_, ?_, ?_, trivial⟩ <;> (first | rfl | (refine Z.lookv rfl ?_; simp; done) | (refine Z.lookv rfl ?_; simp; omega))) (by first | exact hs | exact hs.sel [1, 0, 2] (by decide))
      · skip
        refine Z.ZO.alloc rfl rfl (by rfl) Try.zeroValue26 rfl hs ?_
        clear hs; intro g3 w3 hs
        refine Z.tk (Dn := fun _ => true) (i := 6) (fun _ => ⟨_, hs, by first | (simp; done) | exact fun e he => List.mem_append_right _ he⟩) ?_
        refine Z.tn 5 rfl rfl (by kernel_rfl) rfl trivial ?_
        refine Z.ZO.alloc rfl rfl (by rfl) Try.zeroValue68 rfl hs ?_
        clear hs; intro g2 w2 hs
        refine Z.tk (Dn := fun _ => true) (i := 5) (fun _ => ⟨_, hs, by first | (simp; done) | exact fun e he => List.mem_append_right _ he⟩) ?_
        refine Z.tn 7 rfl rfl (by kernel_rfl) rfl trivial ?_
        refine Z.ZO.storeA rfl rfl hs rfl rfl (by kernel_rfl) (by simp [Value.oneCell']) (by first | exact SX.at0 | exact SX.at1 | exact SX.at2 | exact SX.at3 | exact SX.at4 | exact SX.at5 | exact Z.at6 | exact Z.at7 | exact Z.at8 | exact Z.at9 | exact Z.at10 | exact Z.at11 | exact Z.at12) (by rfl) ?_
        clear hs; intro ws hs
        simp only [Nat.zero_add, Nat.add_zero, Nat.reduceAdd, Int.reduceToNat, Nat.reduceMul, List.set_cons_zero, List.set_cons_succ, List.setIfInBounds_toArray] at hs
        refine Z.tk (Dn := fun _ => true) (i := 7) (fun _ => ⟨_, hs, by first | (simp; done) | exact fun e he => List.mem_append_right _ he⟩) ?_
        refine Z.tn 8 rfl rfl (by kernel_rfl) rfl trivial ?_
        refine Z.ZO.storeA rfl rfl hs rfl rfl (by kernel_rfl) (by simp [Value.oneCell']) (by first | exact SX.at0 | exact SX.at1 | exact SX.at2 | exact SX.at3 | exact SX.at4 | exact SX.at5 | exact Z.at6 | exact Z.at7 | exact Z.at8 | exact Z.at9 | exact Z.at10 | exact Z.at11 | exact Z.at12) (by rfl) ?_
        clear hs; intro ws hs
        simp only [Nat.zero_add, Nat.add_zero, Nat.reduceAdd, Int.reduceToNat, Nat.reduceMul, List.set_cons_zero, List.set_cons_succ, List.setIfInBounds_toArray] at hs
        refine Z.tk (Dn := fun _ => true) (i := 8) (fun _ => ⟨_, hs, by first | (simp; done) | exact fun e he => List.mem_append_right _ he⟩) ?_
        refine Z.td (by rfl) (by kernel_rfl) ?_
        refine Z.only [0, 1, 2, 3] rfl ?_
        refine Z.nthen ?_
        exact Z.meet (g2, g3) (by refine ⟨?_, ?_, ?_, ?_, trivial⟩ <;> (first | rfl | (refine Z.lookv rfl ?_; simp; done) | (refine Z.lookv rfl ?_; simp; omega))) (by first | exact hs | exact hs.sel [1, 0, 2] (by decide))
    · skip
      refine Z.ZO.alloc rfl rfl (by rfl) Try.zeroValue68 rfl hs ?_
      clear hs; intro g2 w2 hs
      refine Z.tk (Dn := fun _ => true) (i := 5) (fun _ => ⟨_, hs, by first | (simp; done) | exact fun e he => List.mem_append_right _ he⟩) ?_
      refine Z.fork2 2 6 rfl rfl rfl (by kernel_rfl) rfl rfl trivial trivial ?_ ?_
      · skip
        refine Z.ZO.call rfl rfl (by rfl) rfl rfl Try.call34 rfl (group_ok r.group _ hg) ?_
        rintro v1_2 w1_2 ⟨rfl, hy⟩
        replace hs := hs.call hy
        clear hy
        try simp only [List.cons_append, List.nil_append, List.append_nil] at hs
        refine Z.tk (Dn := fun _ => true) (i := 2) (fun _ => ⟨_, hs, by first | (simp; done) | exact fun e he => List.mem_append_right _ he⟩) ?_
        refine Z.tn 6 rfl rfl (by kernel_rfl) rfl trivial ?_
        refine Z.ZO.alloc rfl rfl (by rfl) Try.zeroValue26 rfl hs ?_
        clear hs; intro g3 w3 hs
        refine Z.tk (Dn := fun _ => true) (i := 6) (fun _ => ⟨_, hs, by first | (simp; done) | exact fun e he => List.mem_append_right _ he⟩) ?_
        refine Z.tn 7 rfl rfl (by kernel_rfl) rfl trivial ?_
        refine Z.ZO.storeA rfl rfl hs rfl rfl (by kernel_rfl) (by simp [Value.oneCell']) (by first | exact SX.at0 | exact SX.at1 | exact SX.at2 | exact SX.at3 | exact SX.at4 | exact SX.at5 | exact Z.at6 | exact Z.at7 | exact Z.at8 | exact Z.at9 | exact Z.at10 | exact Z.at11 | exact Z.at12) (by rfl) ?_
        clear hs; intro ws hs
        simp only [Nat.zero_add, Nat.add_zero, Nat.reduceAdd, Int.reduceToNat, Nat.reduceMul, List.set_cons_zero, List.set_cons_succ, List.setIfInBounds_toArray] at hs
        refine Z.tk (Dn := fun _ => true) (i := 7) (fun _ => ⟨_, hs, by first | (simp; done) | exact fun e he => List.mem_append_right _ he⟩) ?_
        refine Z.tn 8 rfl rfl (by kernel_rfl) rfl trivial ?_
        refine Z.ZO.storeA rfl rfl hs rfl rfl (by kernel_rfl) (by simp [Value.oneCell']) (by first | exact SX.at0 | exact SX.at1 | exact SX.at2 | exact SX.at3 | exact SX.at4 | exact SX.at5 | exact Z.at6 | exact Z.at7 | exact Z.at8 | exact Z.at9 | exact Z.at10 | exact Z.at11 | exact Z.at12) (by rfl) ?_
        clear hs; intro ws hs
        simp only [Nat.zero_add, Nat.add_zero, Nat.reduceAdd, Int.reduceToNat, Nat.reduceMul, List.set_cons_zero, List.set_cons_succ, List.setIfInBounds_toArray] at hs
        refine Z.tk (Dn := fun _ => true) (i := 8) (fun _ => ⟨_, hs, by first | (simp; done) | exact fun e he => List.mem_append_right _ he⟩) ?_
        refine Z.td (by rfl) (by kernel_rfl) ?_
        refine Z.only [0, 1, 2, 3] rfl ?_
        refine Z.nthen ?_
        exact Z.meet (g2, g3) (by refine ⟨?_, ?_, ?_, ?_, trivial⟩ <;> (first | rfl | (refine Z.lookv rfl ?_; simp; done) | (refine Z.lookv rfl ?_; simp; omega))) (by first | exact hs | exact hs.sel [1, 0, 2] (by decide))
      · skip
        refine Z.ZO.alloc rfl rfl (by rfl) Try.zeroValue26 rfl hs ?_
        clear hs; intro g3 w3 hs
        refine Z.tk (Dn := fun _ => true) (i := 6) (fun _ => ⟨_, hs, by first | (simp; done) | exact fun e he => List.mem_append_right _ he⟩) ?_
        refine Z.tn 2 rfl rfl (by kernel_rfl) rfl trivial ?_
        refine Z.ZO.call rfl rfl (by rfl) rfl rfl Try.call34 rfl (group_ok r.group _ hg) ?_
        rintro v1_2 w1_2 ⟨rfl, hy⟩
        replace hs := hs.call hy
        clear hy
        try simp only [List.cons_append, List.nil_append, List.append_nil] at hs
        refine Z.tk (Dn := fun _ => true) (i := 2) (fun _ => ⟨_, hs, by first | (simp; done) | exact fun e he => List.mem_append_right _ he⟩) ?_
        refine Z.tn 7 rfl rfl (by kernel_rfl) rfl trivial ?_
        refine Z.ZO.storeA rfl rfl hs rfl rfl (by kernel_rfl) (by simp [Value.oneCell']) (by first | exact SX.at0 | exact SX.at1 | exact SX.at2 | exact SX.at3 | exact SX.at4 | exact SX.at5 | exact Z.at6 | exact Z.at7 | exact Z.at8 | exact Z.at9 | exact Z.at10 | exact Z.at11 | exact Z.at12) (by rfl) ?_
        clear hs; intro ws hs
        simp only [Nat.zero_add, Nat.add_zero, Nat.reduceAdd, Int.reduceToNat, Nat.reduceMul, List.set_cons_zero, List.set_cons_succ, List.setIfInBounds_toArray] at hs
        refine Z.tk (Dn := fun _ => true) (i := 7) (fun _ => ⟨_, hs, by first | (simp; done) | exact fun e he => List.mem_append_right _ he⟩) ?_
        refine Z.tn 8 rfl rfl (by kernel_rfl) rfl trivial ?_
        refine Z.ZO.storeA rfl rfl hs rfl rfl (by kernel_rfl) (by simp [Value.oneCell']) (by first | exact SX.at0 | exact SX.at1 | exact SX.at2 | exact SX.at3 | exact SX.at4 | exact SX.at5 | exact Z.at6 | exact Z.at7 | exact Z.at8 | exact Z.at9 | exact Z.at10 | exact Z.at11 | exact Z.at12) (by rfl) ?_
        clear hs; intro ws hs
        simp only [Nat.zero_add, Nat.add_zero, Nat.reduceAdd, Int.reduceToNat, Nat.reduceMul, List.set_cons_zero, List.set_cons_succ, List.setIfInBounds_toArray] at hs
        refine Z.tk (Dn := fun _ => true) (i := 8) (fun _ => ⟨_, hs, by first | (simp; done) | exact fun e he => List.mem_append_right _ he⟩) ?_
        refine Z.td (by rfl) (by kernel_rfl) ?_
        refine Z.only [0, 1, 2, 3] rfl ?_
        refine Z.nthen ?_
        exact Z.meet (g2, g3) (by refine ⟨?_, ?_, ?_, ?_, trivial⟩ <;> (first | rfl | (refine Z.lookv rfl ?_; simp; done) | (refine Z.lookv rfl ?_; simp; omega))) (by first | exact hs | exact hs.sel [1, 0, 2] (by decide))
    · skip
      refine Z.ZO.alloc rfl rfl (by rfl) Try.zeroValue26 rfl hs ?_
      clear hs; intro g3 w3 hs
      refine Z.tk (Dn := fun _ => true) (i := 6) (fun _ => ⟨_, hs, by first | (simp; done) | exact fun e he => List.mem_append_right _ he⟩) ?_
      refine Z.fork2 2 5 rfl rfl rfl (by kernel_rfl) rfl rfl trivial trivial ?_ ?_
      · skip
        refine Z.ZO.call rfl rfl (by rfl) rfl rfl Try.call34 rfl (group_ok r.group _ hg) ?_
        rintro v1_2 w1_2 ⟨rfl, hy⟩
        replace hs := hs.call hy
        clear hy
        try simp only [List.cons_append, List.nil_append, List.append_nil] at hs
        refine Z.tk (Dn := fun _ => true) (i := 2) (fun _ => ⟨_, hs, by first | (simp; done) | exact fun e he => List.mem_append_right _ he⟩) ?_
        refine Z.tn 5 rfl rfl (by kernel_rfl) rfl trivial ?_
        refine Z.ZO.alloc rfl rfl (by rfl) Try.zeroValue68 rfl hs ?_
        clear hs; intro g2 w2 hs
        refine Z.tk (Dn := fun _ => true) (i := 5) (fun _ => ⟨_, hs, by first | (simp; done) | exact fun e he => List.mem_append_right _ he⟩) ?_
        refine Z.tn 7 rfl rfl (by kernel_rfl) rfl trivial ?_
        refine Z.ZO.storeA rfl rfl hs rfl rfl (by kernel_rfl) (by simp [Value.oneCell']) (by first | exact SX.at0 | exact SX.at1 | exact SX.at2 | exact SX.at3 | exact SX.at4 | exact SX.at5 | exact Z.at6 | exact Z.at7 | exact Z.at8 | exact Z.at9 | exact Z.at10 | exact Z.at11 | exact Z.at12) (by rfl) ?_
        clear hs; intro ws hs
        simp only [Nat.zero_add, Nat.add_zero, Nat.reduceAdd, Int.reduceToNat, Nat.reduceMul, List.set_cons_zero, List.set_cons_succ, List.setIfInBounds_toArray] at hs
        refine Z.tk (Dn := fun _ => true) (i := 7) (fun _ => ⟨_, hs, by first | (simp; done) | exact fun e he => List.mem_append_right _ he⟩) ?_
        refine Z.tn 8 rfl rfl (by kernel_rfl) rfl trivial ?_
        refine Z.ZO.storeA rfl rfl hs rfl rfl (by kernel_rfl) (by simp [Value.oneCell']) (by first | exact SX.at0 | exact SX.at1 | exact SX.at2 | exact SX.at3 | exact SX.at4 | exact SX.at5 | exact Z.at6 | exact Z.at7 | exact Z.at8 | exact Z.at9 | exact Z.at10 | exact Z.at11 | exact Z.at12) (by rfl) ?_
        clear hs; intro ws hs
        simp only [Nat.zero_add, Nat.add_zero, Nat.reduceAdd, Int.reduceToNat, Nat.reduceMul, List.set_cons_zero, List.set_cons_succ, List.setIfInBounds_toArray] at hs
        refine Z.tk (Dn := fun _ => true) (i := 8) (fun _ => ⟨_, hs, by first | (simp; done) | exact fun e he => List.mem_append_right _ he⟩) ?_
        refine Z.td (by rfl) (by kernel_rfl) ?_
        refine Z.only [0, 1, 2, 3] rfl ?_
        refine Z.nthen ?_
        exact Z.meet (g2, g3) (by refine ⟨?_, ?_, ?_, ?_, trivial⟩ <;> (first | rfl | (refine Z.lookv rfl ?_; simp; done) | (refine Z.lookv rfl ?_; simp; omega))) (by first | exact hs | exact hs.sel [1, 0, 2] (by decide))
      · skip
        refine Z.ZO.alloc rfl rfl (by rfl) Try.zeroValue68 rfl hs ?_
        clear hs; intro g2 w2 hs
        refine Z.tk (Dn := fun _ => true) (i := 5) (fun _ => ⟨_, hs, by first | (simp; done) | exact fun e he => List.mem_append_right _ he⟩) ?_
        refine Z.tn 2 rfl rfl (by kernel_rfl) rfl trivial ?_
        refine Z.ZO.call rfl rfl (by rfl) rfl rfl Try.call34 rfl (group_ok r.group _ hg) ?_
        rintro v1_2 w1_2 ⟨rfl, hy⟩
        replace hs := hs.call hy
        clear hy
        try simp only [List.cons_append, List.nil_append, List.append_nil] at hs
        refine Z.tk (Dn := fun _ => true) (i := 2) (fun _ => ⟨_, hs, by first | (simp; done) | exact fun e he => List.mem_append_right _ he⟩) ?_
        refine Z.tn 7 rfl rfl (by kernel_rfl) rfl trivial ?_
        refine Z.ZO.storeA rfl rfl hs rfl rfl (by kernel_rfl) (by simp [Value.oneCell']) (by first | exact SX.at0 | exact SX.at1 | exact SX.at2 | exact SX.at3 | exact SX.at4 | exact SX.at5 | exact Z.at6 | exact Z.at7 | exact Z.at8 | exact Z.at9 | exact Z.at10 | exact Z.at11 | exact Z.at12) (by rfl) ?_
        clear hs; intro ws hs
        simp only [Nat.zero_add, Nat.add_zero, Nat.reduceAdd, Int.reduceToNat, Nat.reduceMul, List.set_cons_zero, List.set_cons_succ, List.setIfInBounds_toArray] at hs
        refine Z.tk (Dn := fun _ => true) (i := 7) (fun _ => ⟨_, hs, by first | (simp; done) | exact fun e he => List.mem_append_right _ he⟩) ?_
        refine Z.tn 8 rfl rfl (by kernel_rfl) rfl trivial ?_
        refine Z.ZO.storeA rfl rfl hs rfl rfl (by kernel_rfl) (by simp [Value.oneCell']) (by first | exact SX.at0 | exact SX.at1 | exact SX.at2 | exact SX.at3 | exact SX.at4 | exact SX.at5 | exact Z.at6 | exact Z.at7 | exact Z.at8 | exact Z.at9 | exact Z.at10 | exact Z.at11 | exact Z.at12) (by rfl) ?_
        clear hs; intro ws hs
        simp only [Nat.zero_add, Nat.add_zero, Nat.reduceAdd, Int.reduceToNat, Nat.reduceMul, List.set_cons_zero, List.set_cons_succ, List.setIfInBounds_toArray] at hs
        refine Z.tk (Dn := fun _ => true) (i := 8) (fun _ => ⟨_, hs, by first | (simp; done) | exact fun e he => List.mem_append_right _ he⟩) ?_
        refine Z.td (by rfl) (by kernel_rfl) ?_
        refine Z.only [0, 1, 2, 3] rfl ?_
        refine Z.nthen ?_
        exact Z.meet (g2, g3) (by refine ⟨?_, ?_, ?_, ?_, trivial⟩ <;> (first | rfl | (refine Z.lookv rfl ?_; simp; done) | (refine Z.lookv rfl ?_; simp; omega))) (by first | exact hs | exact hs.sel [1, 0, 2] (by decide))
  · clear hs
    rintro ⟨g2, g3⟩ w2 hs
    refine Z.only [0, 1, 2, 3] rfl ?_
    (try dsimp only at hs)
    refine Z.seq ?_
    refine Z.seq ?_
    refine Z.region ?_
    refine Z.l rfl rfl (by rfl) (Z.keepS hs) (Z.Yd.fieldA (m := 0) rfl (by kernel_rfl)) ?_
    refine Z.l rfl rfl (by rfl) (Z.keepS hs) (Z.Yd.load rfl Try.isAgg4 (fun _ => Z.cellO hc.1 (by simp) (hc.2 0 _ rfl))) ?_
    refine Z.lnil ?_
    refine Z.only [0, 1, 2, 3, 12] rfl ?_
    refine Z.nthen ?_
    refine Z.cond rfl (fun hc2 => ?_) (fun h => absurd h (by simpa using hl))
    refine Z.seq ?_
    refine Z.region ?_
    refine Z.l rfl rfl (by rfl) (Z.keepS hs) (Z.Yd.fieldA (m := 1) rfl (by kernel_rfl)) ?_
    refine Z.l rfl rfl (by rfl) (Z.keepS hs) (Z.Yd.load rfl Try.isAgg3 (fun _ => Z.cellO hc.1 (by simp) (hc.2 1 _ rfl))) ?_
    refine Z.lb 1 rfl ?_
    refine Z.le rfl trivial ?_
    refine Z.ZO.call rfl rfl (by rfl) rfl rfl Try.call35 rfl (must_ok _ 2 _ (by simpa using h0)) ?_
    rintro v3_3 w3_3 ⟨rfl, hy⟩
    replace hs := hs.call hy
    clear hy
    try simp only [List.cons_append, List.nil_append, List.append_nil] at hs
    refine Z.lnil ?_
    refine Z.only [1, 3] rfl ?_
    refine Z.nthen ?_
    refine Z.seq ?_
    refine Z.drawK (fun j => j != 14) mixed hs ?_
    clear hs; intro wd4 hs
    refine Z.t 0 rfl rfl rfl (by rfl) (by kernel_rfl) ⟨_, hs, by first | (simp; done) | exact fun e he => List.mem_append_right _ he⟩ (Z.Yd.elemA rfl rfl Try.underlying26 Try.sizeOf3 (fun hG => ⟨(by first | omega | (have hG' := Z.gh rfl hG; simp at hG'; omega)), (by first | omega | (have hG' := Z.gh rfl hG; simp at hG'; omega))⟩)) ?_
    refine Z.t 1 rfl rfl rfl (by rfl) (by kernel_rfl) ⟨_, hs, by first | (simp; done) | exact fun e he => List.mem_append_right _ he⟩ (by first | exact Z.Yd.load rfl Try.isAgg3 (fun _ => Z.cellB (by first | ((repeat (first | exact List.mem_cons_self | refine List.mem_cons_of_mem _ ?_ | refine List.mem_append_right _ ?_)); done) | fail) rfl) | exact Z.Yd.load rfl Try.isAgg3 (fun hG => Z.cellR (by first | ((repeat (first | exact List.mem_cons_self | refine List.mem_cons_of_mem _ ?_ | refine List.mem_append_right _ ?_)); done) | fail) (Z.ints_at (by first | omega | (have hG' := Z.gh rfl hG; simp at hG'; omega)) (by first | omega | (have hG' := Z.gh rfl hG; simp at hG'; omega)))) | exact Z.Yd.load rfl Try.isAgg3 (fun hG => Z.cellXi (by assumption) (by first | omega | (have hG' := Z.gh rfl hG; simp at hG'; omega)) (by first | omega | (have hG' := Z.gh rfl hG; simp at hG'; omega))) | exact Z.Yd.load rfl Try.isAgg3 (fun hG => Z.cellS (by assumption) rfl (by first | omega | (have hG' := Z.gh rfl hG; simp at hG'; omega)) (by first | omega | (have hG' := Z.gh rfl hG; simp at hG'; omega))) | fail "load 4.1") ?_
    refine Z.t 3 rfl rfl rfl (by rfl) (by kernel_rfl) ⟨_, hs, by first | (simp; done) | exact fun e he => List.mem_append_right _ he⟩ (Z.Yd.elemA rfl rfl Try.underlying26 Try.sizeOf3 (fun hG => ⟨(by first | omega | (have hG' := Z.gh rfl hG; simp at hG'; omega)), (by first | omega | (have hG' := Z.gh rfl hG; simp at hG'; omega))⟩)) ?_
    refine Z.t 4 rfl rfl rfl (by rfl) (by kernel_rfl) ⟨_, hs, by first | (simp; done) | exact fun e he => List.mem_append_right _ he⟩ (by first | exact Z.Yd.load rfl Try.isAgg3 (fun _ => Z.cellB (by first | ((repeat (first | exact List.mem_cons_self | refine List.mem_cons_of_mem _ ?_ | refine List.mem_append_right _ ?_)); done) | fail) rfl) | exact Z.Yd.load rfl Try.isAgg3 (fun hG => Z.cellR (by first | ((repeat (first | exact List.mem_cons_self | refine List.mem_cons_of_mem _ ?_ | refine List.mem_append_right _ ?_)); done) | fail) (Z.ints_at (by first | omega | (have hG' := Z.gh rfl hG; simp at hG'; omega)) (by first | omega | (have hG' := Z.gh rfl hG; simp at hG'; omega)))) | exact Z.Yd.load rfl Try.isAgg3 (fun hG => Z.cellXi (by assumption) (by first | omega | (have hG' := Z.gh rfl hG; simp at hG'; omega)) (by first | omega | (have hG' := Z.gh rfl hG; simp at hG'; omega))) | exact Z.Yd.load rfl Try.isAgg3 (fun hG => Z.cellS (by assumption) rfl (by first | omega | (have hG' := Z.gh rfl hG; simp at hG'; omega)) (by first | omega | (have hG' := Z.gh rfl hG; simp at hG'; omega))) | fail "load 4.4") ?_
    refine Z.t 6 rfl rfl rfl (by rfl) (by kernel_rfl) ⟨_, hs, by first | (simp; done) | exact fun e he => List.mem_append_right _ he⟩ (Z.Yd.elemA rfl rfl Try.underlying26 Try.sizeOf3 (fun hG => ⟨(by first | omega | (have hG' := Z.gh rfl hG; simp at hG'; omega)), (by first | omega | (have hG' := Z.gh rfl hG; simp at hG'; omega))⟩)) ?_
    refine Z.t 7 rfl rfl rfl (by rfl) (by kernel_rfl) ⟨_, hs, by first | (simp; done) | exact fun e he => List.mem_append_right _ he⟩ (by first | exact Z.Yd.load rfl Try.isAgg3 (fun _ => Z.cellB (by first | ((repeat (first | exact List.mem_cons_self | refine List.mem_cons_of_mem _ ?_ | refine List.mem_append_right _ ?_)); done) | fail) rfl) | exact Z.Yd.load rfl Try.isAgg3 (fun hG => Z.cellR (by first | ((repeat (first | exact List.mem_cons_self | refine List.mem_cons_of_mem _ ?_ | refine List.mem_append_right _ ?_)); done) | fail) (Z.ints_at (by first | omega | (have hG' := Z.gh rfl hG; simp at hG'; omega)) (by first | omega | (have hG' := Z.gh rfl hG; simp at hG'; omega)))) | exact Z.Yd.load rfl Try.isAgg3 (fun hG => Z.cellXi (by assumption) (by first | omega | (have hG' := Z.gh rfl hG; simp at hG'; omega)) (by first | omega | (have hG' := Z.gh rfl hG; simp at hG'; omega))) | exact Z.Yd.load rfl Try.isAgg3 (fun hG => Z.cellS (by assumption) rfl (by first | omega | (have hG' := Z.gh rfl hG; simp at hG'; omega)) (by first | omega | (have hG' := Z.gh rfl hG; simp at hG'; omega))) | fail "load 4.7") ?_
    refine Z.t 9 rfl rfl rfl (by rfl) (by kernel_rfl) ⟨_, hs, by first | (simp; done) | exact fun e he => List.mem_append_right _ he⟩ (Z.Yd.elemA rfl rfl Try.underlying26 Try.sizeOf3 (fun hG => ⟨(by first | omega | (have hG' := Z.gh rfl hG; simp at hG'; omega)), (by first | omega | (have hG' := Z.gh rfl hG; simp at hG'; omega))⟩)) ?_
    refine Z.t 10 rfl rfl rfl (by rfl) (by kernel_rfl) ⟨_, hs, by first | (simp; done) | exact fun e he => List.mem_append_right _ he⟩ (by first | exact Z.Yd.load rfl Try.isAgg3 (fun _ => Z.cellB (by first | ((repeat (first | exact List.mem_cons_self | refine List.mem_cons_of_mem _ ?_ | refine List.mem_append_right _ ?_)); done) | fail) rfl) | exact Z.Yd.load rfl Try.isAgg3 (fun hG => Z.cellR (by first | ((repeat (first | exact List.mem_cons_self | refine List.mem_cons_of_mem _ ?_ | refine List.mem_append_right _ ?_)); done) | fail) (Z.ints_at (by first | omega | (have hG' := Z.gh rfl hG; simp at hG'; omega)) (by first | omega | (have hG' := Z.gh rfl hG; simp at hG'; omega)))) | exact Z.Yd.load rfl Try.isAgg3 (fun hG => Z.cellXi (by assumption) (by first | omega | (have hG' := Z.gh rfl hG; simp at hG'; omega)) (by first | omega | (have hG' := Z.gh rfl hG; simp at hG'; omega))) | exact Z.Yd.load rfl Try.isAgg3 (fun hG => Z.cellS (by assumption) rfl (by first | omega | (have hG' := Z.gh rfl hG; simp at hG'; omega)) (by first | omega | (have hG' := Z.gh rfl hG; simp at hG'; omega))) | fail "load 4.10") ?_
    refine Z.tn 2 rfl rfl (by kernel_rfl) rfl trivial ?_
    refine Z.ZO.call rfl rfl (by rfl) rfl rfl Try.call37 rfl (level_ok _ _ ha) ?_
    rintro v4_2 w4_2 ⟨rfl, hy⟩
    replace hs := hs.call hy
    clear hy
    try simp only [List.cons_append, List.nil_append, List.append_nil] at hs
    refine Z.tk (Dn := fun j => j != 14) (i := 2) (fun _ => ⟨_, hs, by first | (simp; done) | exact fun e he => List.mem_append_right _ he⟩) ?_
    refine Z.tn 5 rfl rfl (by kernel_rfl) rfl trivial ?_
    refine Z.ZO.call rfl rfl (by rfl) rfl rfl Try.call37 rfl (level_ok _ _ hb) ?_
    rintro v4_5 w4_5 ⟨rfl, hy⟩
    replace hs := hs.call hy
    clear hy
    try simp only [List.cons_append, List.nil_append, List.append_nil] at hs
    refine Z.tk (Dn := fun j => j != 14) (i := 5) (fun _ => ⟨_, hs, by first | (simp; done) | exact fun e he => List.mem_append_right _ he⟩) ?_
    refine Z.tn 8 rfl rfl (by kernel_rfl) rfl trivial ?_
    refine Z.ZO.call rfl rfl (by rfl) rfl rfl Try.call37 rfl (level_ok _ _ hcc) ?_
    rintro v4_8 w4_8 ⟨rfl, hy⟩
    replace hs := hs.call hy
    clear hy
    try simp only [List.cons_append, List.nil_append, List.append_nil] at hs
    refine Z.tk (Dn := fun j => j != 14) (i := 8) (fun _ => ⟨_, hs, by first | (simp; done) | exact fun e he => List.mem_append_right _ he⟩) ?_
    refine Z.tn 11 rfl rfl (by kernel_rfl) rfl trivial ?_
    refine Z.ZO.call rfl rfl (by rfl) rfl rfl Try.call37 rfl (level_ok _ _ hd) ?_
    rintro v4_11 w4_11 ⟨rfl, hy⟩
    replace hs := hs.call hy
    clear hy
    try simp only [List.cons_append, List.nil_append, List.append_nil] at hs
    refine Z.tk (Dn := fun j => j != 14) (i := 11) (fun _ => ⟨_, hs, by first | (simp; done) | exact fun e he => List.mem_append_right _ he⟩) ?_
    refine Z.tn 12 rfl rfl (by kernel_rfl) rfl trivial ?_
    refine Z.ZO.litL (T' := 68) [(0, 2), (2, 2), (4, 2), (6, 2)] [.int .u64 0, .int .i64 0, .int .u64 0, .int .i64 0, .int .u64 0, .int .i64 0, .int .u64 0, .int .i64 0] rfl rfl (by rfl) rfl rfl (by intro W; kernel_rfl) hs ?_
    clear hs; intro g29 w29 hs
    refine Z.tk (Dn := fun j => j != 14) (i := 12) (fun _ => ⟨_, hs, by first | (simp; done) | exact fun e he => List.mem_append_right _ he⟩) ?_
    have hsx := Z.blk_lentj (L1 := []) hs (j := 0) rfl
    refine Z.tn 13 rfl rfl (by kernel_rfl) rfl trivial ?_
    refine Z.ZO.call rfl rfl (by rfl) rfl rfl Try.call36 rfl (built_ok 30 _ 4 4 [(r.a, 6), (r.b, 6), (r.c, 6), (r.d, 6)] _ hsx rfl (by omega) (by simp [fa.1, fb.1, fc.1, fd.1]) (by simp [chkA, fa.2, fb.2, fc.2, fd.2])) ?_
    rintro v4_13 w4_13 ⟨B, co, rfl, hy⟩
    replace hs := hs.call hy
    clear hy
    try simp only [List.cons_append, List.nil_append, List.append_nil] at hs
    rw [long_bytes r ha hb hcc hd] at hs ⊢
    refine Z.tk (Dn := fun j => j != 14) (i := 13) (fun _ => ⟨_, hs, by first | (simp; done) | exact fun e he => List.mem_append_right _ he⟩) ?_
    refine Z.tn 14 rfl rfl (by kernel_rfl) rfl trivial ?_
    refine Z.ZO.storeA rfl rfl hs rfl rfl (by kernel_rfl) (by simp [Value.oneCell']) (by first | exact SX.at0 | exact SX.at1 | exact SX.at2 | exact SX.at3 | exact SX.at4 | exact SX.at5 | exact Z.at6 | exact Z.at7 | exact Z.at8 | exact Z.at9 | exact Z.at10 | exact Z.at11 | exact Z.at12) (by rfl) ?_
    clear hs; intro ws hs
    simp only [Nat.zero_add, Nat.add_zero, Nat.reduceAdd, Int.reduceToNat, Nat.reduceMul, List.set_cons_zero, List.set_cons_succ, List.setIfInBounds_toArray] at hs
    refine Z.tk (Dn := fun j => j != 14) (i := 14) (fun h => absurd h (by decide)) ?_
    refine Z.td (by rfl) (by kernel_rfl) ?_
    refine Z.only [1] rfl ?_
    refine Z.nthen ?_
    refine Z.ret ?_
    repeat (first | refine Z.rthen ?_ | refine Z.rblock ?_ | refine Z.rscope ?_)
    -- ret#0
    refine Z.out1 (by exact ⟨⟨_, rfl, Z.rvcA hs Try.isAgg31 (by first | ((repeat (first | exact List.mem_cons_self | refine List.mem_cons_of_mem _ ?_ | refine List.mem_append_right _ ?_)); done) | fail) (by exact Try.sizeOf31)⟩, trivial⟩) ?_
    exact ⟨_, rfl, B, co, rfl, hs.sel [0] (by decide)⟩
set_option maxRecDepth 100000 in
theorem encrep1_short (g : Nat) (r : RepV) (w : World) (hc : Cel w g r.cells) (hr : r.ok) (hl : r.long = false) :
    Calls Try.prog 33 #[.pointer (some ⟨g, 0, none⟩)] w (SX.Ret fun v w' => IsPart 29 [64 * r.group + r.lv r.group.toNat] v w w') := by
  have hs := SX.St.start w
  obtain ⟨hg, hr⟩ := hr
  rw [if_neg (by simp [hl])] at hr
  obtain ⟨hz, hv⟩ := hr
  have fg := okF (v := r.group) (wd := 2) hg.1 (by omega) (by have := hg.2; simp; omega)
  have fv := okF (v := r.lv r.group.toNat) (wd := 6) hv.1 (by omega) (by have := hv.2; simp; omega)
  have hget : Z.nth r.lvs (0 + r.group.toNat * 1) = some (.int .i64 (r.lv r.group.toNat)) := by rw [Nat.zero_add, Nat.mul_one]; exact lvs_nth r _ (by omega)
  refine Z.enter Try.func33 rfl Try.ntmps33 rfl rfl ?_
  refine Z.seq ?_
  refine Z.region ?_
  refine Z.le rfl trivial ?_
  refine Z.ZO.alloc rfl rfl (by rfl) Try.zeroValue31 rfl hs ?_
  clear hs; intro g1 w1 hs
  refine Z.lnil ?_
  refine Z.only [0, 1] rfl ?_
  refine Z.nthen ?_
  refine Z.seq ?_
  refine Z.cutt (ι := Nat × Nat) [0, 1] rfl (fun x => [(2, [], .pointer (some ⟨x.1, 0, none⟩)), (3, [], .pointer (some ⟨x.2, 0, none⟩))]) (fun x wr => SX.St w [] wr [SX.Ent.blk x.2 26 r.lvs.toArray, SX.Ent.blk x.1 68 #[.int .u64 r.group, .int .i64 2], SX.Ent.blk g1 31 #[.int .i64 0, .slice none 0 0]]) ?_ ?_
  · skip
    refine Z.drawK (fun _ => true) mixed hs ?_
    clear hs; intro wd1 hs
    refine Z.t 0 rfl rfl rfl (by rfl) (by kernel_rfl) ⟨_, hs, by first | (simp; done) | exact fun e he => List.mem_append_right _ he⟩ (Z.Yd.fieldA (m := 1) rfl (by kernel_rfl)) ?_
    refine Z.t 1 rfl rfl rfl (by rfl) (by kernel_rfl) ⟨_, hs, by first | (simp; done) | exact fun e he => List.mem_append_right _ he⟩ (Z.Yd.load rfl Try.isAgg3 (fun _ => Z.cellO hc.1 (by simp) (hc.2 1 _ rfl))) ?_
    refine Z.t 3 rfl rfl rfl (by rfl) (by kernel_rfl) ⟨_, hs, by first | (simp; done) | exact fun e he => List.mem_append_right _ he⟩ (Z.Yd.fieldA (m := 2) rfl (by kernel_rfl)) ?_
    refine Z.t 4 rfl rfl rfl (by rfl) (by kernel_rfl) ⟨_, hs, by first | (simp; done) | exact fun e he => List.mem_append_right _ he⟩ (Z.Yd.loadA _ rfl Try.isAgg26 (fun _ w' hk j u hu => Z.cellO hc.1 (by simp) (Cel.lvs hc j u hu) w' hk) (by exact Try.sizeOf26)) ?_
    refine Z.forkD [2, 5, 6] rfl (by kernel_rfl) rfl ⟨⟨_, _, rfl, rfl, trivial, ?_⟩, ⟨_, _, rfl, rfl, trivial, ?_⟩, ⟨_, _, rfl, rfl, trivial, ?_⟩, trivial⟩
    · skip
      refine Z.ZO.call rfl rfl (by rfl) rfl rfl Try.call34 rfl (group_ok r.group _ hg) ?_
      rintro v1_2 w1_2 ⟨rfl, hy⟩
      replace hs := hs.call hy
      clear hy
      try simp only [List.cons_append, List.nil_append, List.append_nil] at hs
      refine Z.tk (Dn := fun _ => true) (i := 2) (fun _ => ⟨_, hs, by first | (simp; done) | exact fun e he => List.mem_append_right _ he⟩) ?_
      refine Z.fork2 5 6 rfl rfl rfl (by kernel_rfl) rfl rfl trivial trivial ?_ ?_
      · skip
        refine Z.ZO.alloc rfl rfl (by rfl) Try.zeroValue68 rfl hs ?_
        clear hs; intro g2 w2 hs
        refine Z.tk (Dn := fun _ => true) (i := 5) (fun _ => ⟨_, hs, by first | (simp; done) | exact fun e he => List.mem_append_right _ he⟩) ?_
        refine Z.tn 6 rfl rfl (by kernel_rfl) rfl trivial ?_
        refine Z.ZO.alloc rfl rfl (by rfl) Try.zeroValue26 rfl hs ?_
        clear hs; intro g3 w3 hs
        refine Z.tk (Dn := fun _ => true) (i := 6) (fun _ => ⟨_, hs, by first | (simp; done) | exact fun e he => List.mem_append_right _ he⟩) ?_
        refine Z.tn 7 rfl rfl (by kernel_rfl) rfl trivial ?_
        refine Z.ZO.storeA rfl rfl hs rfl rfl (by kernel_rfl) (by simp [Value.oneCell']) (by first | exact SX.at0 | exact SX.at1 | exact SX.at2 | exact SX.at3 | exact SX.at4 | exact SX.at5 | exact Z.at6 | exact Z.at7 | exact Z.at8 | exact Z.at9 | exact Z.at10 | exact Z.at11 | exact Z.at12) (by rfl) ?_
        clear hs; intro ws hs
        simp only [Nat.zero_add, Nat.add_zero, Nat.reduceAdd, Int.reduceToNat, Nat.reduceMul, List.set_cons_zero, List.set_cons_succ, List.setIfInBounds_toArray] at hs
        refine Z.tk (Dn := fun _ => true) (i := 7) (fun _ => ⟨_, hs, by first | (simp; done) | exact fun e he => List.mem_append_right _ he⟩) ?_
        refine Z.tn 8 rfl rfl (by kernel_rfl) rfl trivial ?_
        refine Z.ZO.storeA rfl rfl hs rfl rfl (by kernel_rfl) (by simp [Value.oneCell']) (by first | exact SX.at0 | exact SX.at1 | exact SX.at2 | exact SX.at3 | exact SX.at4 | exact SX.at5 | exact Z.at6 | exact Z.at7 | exact Z.at8 | exact Z.at9 | exact Z.at10 | exact Z.at11 | exact Z.at12) (by rfl) ?_
        clear hs; intro ws hs
        simp only [Nat.zero_add, Nat.add_zero, Nat.reduceAdd, Int.reduceToNat, Nat.reduceMul, List.set_cons_zero, List.set_cons_succ, List.setIfInBounds_toArray] at hs
        refine Z.tk (Dn := fun _ => true) (i := 8) (fun _ => ⟨_, hs, by first | (simp; done) | exact fun e he => List.mem_append_right _ he⟩) ?_
        refine Z.td (by rfl) (by kernel_rfl) ?_
        refine Z.only [0, 1, 2, 3] rfl ?_
        refine Z.nthen ?_
        exact Z.meet (g2, g3) (by refine ⟨?_, ?_, ?_, ?_, trivial⟩ <;> (first | rfl | (refine Z.lookv rfl ?_; simp; done) | (refine Z.lookv rfl ?_; simp; omega))) (by first | exact hs | exact hs.sel [1, 0, 2] (by decide))
      · skip
        refine Z.ZO.alloc rfl rfl (by rfl) Try.zeroValue26 rfl hs ?_
        clear hs; intro g3 w3 hs
        refine Z.tk (Dn := fun _ => true) (i := 6) (fun _ => ⟨_, hs, by first | (simp; done) | exact fun e he => List.mem_append_right _ he⟩) ?_
        refine Z.tn 5 rfl rfl (by kernel_rfl) rfl trivial ?_
        refine Z.ZO.alloc rfl rfl (by rfl) Try.zeroValue68 rfl hs ?_
        clear hs; intro g2 w2 hs
        refine Z.tk (Dn := fun _ => true) (i := 5) (fun _ => ⟨_, hs, by first | (simp; done) | exact fun e he => List.mem_append_right _ he⟩) ?_
        refine Z.tn 7 rfl rfl (by kernel_rfl) rfl trivial ?_
        refine Z.ZO.storeA rfl rfl hs rfl rfl (by kernel_rfl) (by simp [Value.oneCell']) (by first | exact SX.at0 | exact SX.at1 | exact SX.at2 | exact SX.at3 | exact SX.at4 | exact SX.at5 | exact Z.at6 | exact Z.at7 | exact Z.at8 | exact Z.at9 | exact Z.at10 | exact Z.at11 | exact Z.at12) (by rfl) ?_
        clear hs; intro ws hs
        simp only [Nat.zero_add, Nat.add_zero, Nat.reduceAdd, Int.reduceToNat, Nat.reduceMul, List.set_cons_zero, List.set_cons_succ, List.setIfInBounds_toArray] at hs
        refine Z.tk (Dn := fun _ => true) (i := 7) (fun _ => ⟨_, hs, by first | (simp; done) | exact fun e he => List.mem_append_right _ he⟩) ?_
        refine Z.tn 8 rfl rfl (by kernel_rfl) rfl trivial ?_
        refine Z.ZO.storeA rfl rfl hs rfl rfl (by kernel_rfl) (by simp [Value.oneCell']) (by first | exact SX.at0 | exact SX.at1 | exact SX.at2 | exact SX.at3 | exact SX.at4 | exact SX.at5 | exact Z.at6 | exact Z.at7 | exact Z.at8 | exact Z.at9 | exact Z.at10 | exact Z.at11 | exact Z.at12) (by rfl) ?_
        clear hs; intro ws hs
        simp only [Nat.zero_add, Nat.add_zero, Nat.reduceAdd, Int.reduceToNat, Nat.reduceMul, List.set_cons_zero, List.set_cons_succ, List.setIfInBounds_toArray] at hs
        refine Z.tk (Dn := fun _ => true) (i := 8) (fun _ => ⟨_, hs, by first | (simp; done) | exact fun e he => List.mem_append_right _ he⟩) ?_
        refine Z.td (by rfl) (by kernel_rfl) ?_
        refine Z.only [0, 1, 2, 3] rfl ?_
        refine Z.nthen ?_
        exact Z.meet (g2, g3) (by refine ⟨?_, ?_, ?_, ?_, trivial⟩ <;> (first | rfl | (refine Z.lookv rfl ?_; simp; done) | (refine Z.lookv rfl ?_; simp; omega))) (by first | exact hs | exact hs.sel [1, 0, 2] (by decide))
    · skip
      refine Z.ZO.alloc rfl rfl (by rfl) Try.zeroValue68 rfl hs ?_
      clear hs; intro g2 w2 hs
      refine Z.tk (Dn := fun _ => true) (i := 5) (fun _ => ⟨_, hs, by first | (simp; done) | exact fun e he => List.mem_append_right _ he⟩) ?_
      refine Z.fork2 2 6 rfl rfl rfl (by kernel_rfl) rfl rfl trivial trivial ?_ ?_
      · skip
        refine Z.ZO.call rfl rfl (by rfl) rfl rfl Try.call34 rfl (group_ok r.group _ hg) ?_
        rintro v1_2 w1_2 ⟨rfl, hy⟩
        replace hs := hs.call hy
        clear hy
        try simp only [List.cons_append, List.nil_append, List.append_nil] at hs
        refine Z.tk (Dn := fun _ => true) (i := 2) (fun _ => ⟨_, hs, by first | (simp; done) | exact fun e he => List.mem_append_right _ he⟩) ?_
        refine Z.tn 6 rfl rfl (by kernel_rfl) rfl trivial ?_
        refine Z.ZO.alloc rfl rfl (by rfl) Try.zeroValue26 rfl hs ?_
        clear hs; intro g3 w3 hs
        refine Z.tk (Dn := fun _ => true) (i := 6) (fun _ => ⟨_, hs, by first | (simp; done) | exact fun e he => List.mem_append_right _ he⟩) ?_
        refine Z.tn 7 rfl rfl (by kernel_rfl) rfl trivial ?_
        refine Z.ZO.storeA rfl rfl hs rfl rfl (by kernel_rfl) (by simp [Value.oneCell']) (by first | exact SX.at0 | exact SX.at1 | exact SX.at2 | exact SX.at3 | exact SX.at4 | exact SX.at5 | exact Z.at6 | exact Z.at7 | exact Z.at8 | exact Z.at9 | exact Z.at10 | exact Z.at11 | exact Z.at12) (by rfl) ?_
        clear hs; intro ws hs
        simp only [Nat.zero_add, Nat.add_zero, Nat.reduceAdd, Int.reduceToNat, Nat.reduceMul, List.set_cons_zero, List.set_cons_succ, List.setIfInBounds_toArray] at hs
        refine Z.tk (Dn := fun _ => true) (i := 7) (fun _ => ⟨_, hs, by first | (simp; done) | exact fun e he => List.mem_append_right _ he⟩) ?_
        refine Z.tn 8 rfl rfl (by kernel_rfl) rfl trivial ?_
        refine Z.ZO.storeA rfl rfl hs rfl rfl (by kernel_rfl) (by simp [Value.oneCell']) (by first | exact SX.at0 | exact SX.at1 | exact SX.at2 | exact SX.at3 | exact SX.at4 | exact SX.at5 | exact Z.at6 | exact Z.at7 | exact Z.at8 | exact Z.at9 | exact Z.at10 | exact Z.at11 | exact Z.at12) (by rfl) ?_
        clear hs; intro ws hs
        simp only [Nat.zero_add, Nat.add_zero, Nat.reduceAdd, Int.reduceToNat, Nat.reduceMul, List.set_cons_zero, List.set_cons_succ, List.setIfInBounds_toArray] at hs
        refine Z.tk (Dn := fun _ => true) (i := 8) (fun _ => ⟨_, hs, by first | (simp; done) | exact fun e he => List.mem_append_right _ he⟩) ?_
        refine Z.td (by rfl) (by kernel_rfl) ?_
        refine Z.only [0, 1, 2, 3] rfl ?_
        refine Z.nthen ?_
        exact Z.meet (g2, g3) (by refine ⟨?_, ?_, ?_, ?_, trivial⟩ <;> (first | rfl | (refine Z.lookv rfl ?_; simp; done) | (refine Z.lookv rfl ?_; simp; omega))) (by first | exact hs | exact hs.sel [1, 0, 2] (by decide))
      · skip
        refine Z.ZO.alloc rfl rfl (by rfl) Try.zeroValue26 rfl hs ?_
        clear hs; intro g3 w3 hs
        refine Z.tk (Dn := fun _ => true) (i := 6) (fun _ => ⟨_, hs, by first | (simp; done) | exact fun e he => List.mem_append_right _ he⟩) ?_
        refine Z.tn 2 rfl rfl (by kernel_rfl) rfl trivial ?_
        refine Z.ZO.call rfl rfl (by rfl) rfl rfl Try.call34 rfl (group_ok r.group _ hg) ?_
        rintro v1_2 w1_2 ⟨rfl, hy⟩
        replace hs := hs.call hy
        clear hy
        try simp only [List.cons_append, List.nil_append, List.append_nil] at hs
        refine Z.tk (Dn := fun _ => true) (i := 2) (fun _ => ⟨_, hs, by first | (simp; done) | exact fun e he => List.mem_append_right _ he⟩) ?_
        refine Z.tn 7 rfl rfl (by kernel_rfl) rfl trivial ?_
        refine Z.ZO.storeA rfl rfl hs rfl rfl (by kernel_rfl) (by simp [Value.oneCell']) (by first | exact SX.at0 | exact SX.at1 | exact SX.at2 | exact SX.at3 | exact SX.at4 | exact SX.at5 | exact Z.at6 | exact Z.at7 | exact Z.at8 | exact Z.at9 | exact Z.at10 | exact Z.at11 | exact Z.at12) (by rfl) ?_
        clear hs; intro ws hs
        simp only [Nat.zero_add, Nat.add_zero, Nat.reduceAdd, Int.reduceToNat, Nat.reduceMul, List.set_cons_zero, List.set_cons_succ, List.setIfInBounds_toArray] at hs
        refine Z.tk (Dn := fun _ => true) (i := 7) (fun _ => ⟨_, hs, by first | (simp; done) | exact fun e he => List.mem_append_right _ he⟩) ?_
        refine Z.tn 8 rfl rfl (by kernel_rfl) rfl trivial ?_
        refine Z.ZO.storeA rfl rfl hs rfl rfl (by kernel_rfl) (by simp [Value.oneCell']) (by first | exact SX.at0 | exact SX.at1 | exact SX.at2 | exact SX.at3 | exact SX.at4 | exact SX.at5 | exact Z.at6 | exact Z.at7 | exact Z.at8 | exact Z.at9 | exact Z.at10 | exact Z.at11 | exact Z.at12) (by rfl) ?_
        clear hs; intro ws hs
        simp only [Nat.zero_add, Nat.add_zero, Nat.reduceAdd, Int.reduceToNat, Nat.reduceMul, List.set_cons_zero, List.set_cons_succ, List.setIfInBounds_toArray] at hs
        refine Z.tk (Dn := fun _ => true) (i := 8) (fun _ => ⟨_, hs, by first | (simp; done) | exact fun e he => List.mem_append_right _ he⟩) ?_
        refine Z.td (by rfl) (by kernel_rfl) ?_
        refine Z.only [0, 1, 2, 3] rfl ?_
        refine Z.nthen ?_
        exact Z.meet (g2, g3) (by refine ⟨?_, ?_, ?_, ?_, trivial⟩ <;> (first | rfl | (refine Z.lookv rfl ?_; simp; done) | (refine Z.lookv rfl ?_; simp; omega))) (by first | exact hs | exact hs.sel [1, 0, 2] (by decide))
    · skip
      refine Z.ZO.alloc rfl rfl (by rfl) Try.zeroValue26 rfl hs ?_
      clear hs; intro g3 w3 hs
      refine Z.tk (Dn := fun _ => true) (i := 6) (fun _ => ⟨_, hs, by first | (simp; done) | exact fun e he => List.mem_append_right _ he⟩) ?_
      refine Z.fork2 2 5 rfl rfl rfl (by kernel_rfl) rfl rfl trivial trivial ?_ ?_
      · skip
        refine Z.ZO.call rfl rfl (by rfl) rfl rfl Try.call34 rfl (group_ok r.group _ hg) ?_
        rintro v1_2 w1_2 ⟨rfl, hy⟩
        replace hs := hs.call hy
        clear hy
        try simp only [List.cons_append, List.nil_append, List.append_nil] at hs
        refine Z.tk (Dn := fun _ => true) (i := 2) (fun _ => ⟨_, hs, by first | (simp; done) | exact fun e he => List.mem_append_right _ he⟩) ?_
        refine Z.tn 5 rfl rfl (by kernel_rfl) rfl trivial ?_
        refine Z.ZO.alloc rfl rfl (by rfl) Try.zeroValue68 rfl hs ?_
        clear hs; intro g2 w2 hs
        refine Z.tk (Dn := fun _ => true) (i := 5) (fun _ => ⟨_, hs, by first | (simp; done) | exact fun e he => List.mem_append_right _ he⟩) ?_
        refine Z.tn 7 rfl rfl (by kernel_rfl) rfl trivial ?_
        refine Z.ZO.storeA rfl rfl hs rfl rfl (by kernel_rfl) (by simp [Value.oneCell']) (by first | exact SX.at0 | exact SX.at1 | exact SX.at2 | exact SX.at3 | exact SX.at4 | exact SX.at5 | exact Z.at6 | exact Z.at7 | exact Z.at8 | exact Z.at9 | exact Z.at10 | exact Z.at11 | exact Z.at12) (by rfl) ?_
        clear hs; intro ws hs
        simp only [Nat.zero_add, Nat.add_zero, Nat.reduceAdd, Int.reduceToNat, Nat.reduceMul, List.set_cons_zero, List.set_cons_succ, List.setIfInBounds_toArray] at hs
        refine Z.tk (Dn := fun _ => true) (i := 7) (fun _ => ⟨_, hs, by first | (simp; done) | exact fun e he => List.mem_append_right _ he⟩) ?_
        refine Z.tn 8 rfl rfl (by kernel_rfl) rfl trivial ?_
        refine Z.ZO.storeA rfl rfl hs rfl rfl (by kernel_rfl) (by simp [Value.oneCell']) (by first | exact SX.at0 | exact SX.at1 | exact SX.at2 | exact SX.at3 | exact SX.at4 | exact SX.at5 | exact Z.at6 | exact Z.at7 | exact Z.at8 | exact Z.at9 | exact Z.at10 | exact Z.at11 | exact Z.at12) (by rfl) ?_
        clear hs; intro ws hs
        simp only [Nat.zero_add, Nat.add_zero, Nat.reduceAdd, Int.reduceToNat, Nat.reduceMul, List.set_cons_zero, List.set_cons_succ, List.setIfInBounds_toArray] at hs
        refine Z.tk (Dn := fun _ => true) (i := 8) (fun _ => ⟨_, hs, by first | (simp; done) | exact fun e he => List.mem_append_right _ he⟩) ?_
        refine Z.td (by rfl) (by kernel_rfl) ?_
        refine Z.only [0, 1, 2, 3] rfl ?_
        refine Z.nthen ?_
        exact Z.meet (g2, g3) (by refine ⟨?_, ?_, ?_, ?_, trivial⟩ <;> (first | rfl | (refine Z.lookv rfl ?_; simp; done) | (refine Z.lookv rfl ?_; simp; omega))) (by first | exact hs | exact hs.sel [1, 0, 2] (by decide))
      · skip
        refine Z.ZO.alloc rfl rfl (by rfl) Try.zeroValue68 rfl hs ?_
        clear hs; intro g2 w2 hs
        refine Z.tk (Dn := fun _ => true) (i := 5) (fun _ => ⟨_, hs, by first | (simp; done) | exact fun e he => List.mem_append_right _ he⟩) ?_
        refine Z.tn 2 rfl rfl (by kernel_rfl) rfl trivial ?_
        refine Z.ZO.call rfl rfl (by rfl) rfl rfl Try.call34 rfl (group_ok r.group _ hg) ?_
        rintro v1_2 w1_2 ⟨rfl, hy⟩
        replace hs := hs.call hy
        clear hy
        try simp only [List.cons_append, List.nil_append, List.append_nil] at hs
        refine Z.tk (Dn := fun _ => true) (i := 2) (fun _ => ⟨_, hs, by first | (simp; done) | exact fun e he => List.mem_append_right _ he⟩) ?_
        refine Z.tn 7 rfl rfl (by kernel_rfl) rfl trivial ?_
        refine Z.ZO.storeA rfl rfl hs rfl rfl (by kernel_rfl) (by simp [Value.oneCell']) (by first | exact SX.at0 | exact SX.at1 | exact SX.at2 | exact SX.at3 | exact SX.at4 | exact SX.at5 | exact Z.at6 | exact Z.at7 | exact Z.at8 | exact Z.at9 | exact Z.at10 | exact Z.at11 | exact Z.at12) (by rfl) ?_
        clear hs; intro ws hs
        simp only [Nat.zero_add, Nat.add_zero, Nat.reduceAdd, Int.reduceToNat, Nat.reduceMul, List.set_cons_zero, List.set_cons_succ, List.setIfInBounds_toArray] at hs
        refine Z.tk (Dn := fun _ => true) (i := 7) (fun _ => ⟨_, hs, by first | (simp; done) | exact fun e he => List.mem_append_right _ he⟩) ?_
        refine Z.tn 8 rfl rfl (by kernel_rfl) rfl trivial ?_
        refine Z.ZO.storeA rfl rfl hs rfl rfl (by kernel_rfl) (by simp [Value.oneCell']) (by first | exact SX.at0 | exact SX.at1 | exact SX.at2 | exact SX.at3 | exact SX.at4 | exact SX.at5 | exact Z.at6 | exact Z.at7 | exact Z.at8 | exact Z.at9 | exact Z.at10 | exact Z.at11 | exact Z.at12) (by rfl) ?_
        clear hs; intro ws hs
        simp only [Nat.zero_add, Nat.add_zero, Nat.reduceAdd, Int.reduceToNat, Nat.reduceMul, List.set_cons_zero, List.set_cons_succ, List.setIfInBounds_toArray] at hs
        refine Z.tk (Dn := fun _ => true) (i := 8) (fun _ => ⟨_, hs, by first | (simp; done) | exact fun e he => List.mem_append_right _ he⟩) ?_
        refine Z.td (by rfl) (by kernel_rfl) ?_
        refine Z.only [0, 1, 2, 3] rfl ?_
        refine Z.nthen ?_
        exact Z.meet (g2, g3) (by refine ⟨?_, ?_, ?_, ?_, trivial⟩ <;> (first | rfl | (refine Z.lookv rfl ?_; simp; done) | (refine Z.lookv rfl ?_; simp; omega))) (by first | exact hs | exact hs.sel [1, 0, 2] (by decide))
  · clear hs
    rintro ⟨g2, g3⟩ w2 hs
    refine Z.only [0, 1, 2, 3] rfl ?_
    (try dsimp only at hs)
    refine Z.seq ?_
    refine Z.seq ?_
    refine Z.region ?_
    refine Z.l rfl rfl (by rfl) (Z.keepS hs) (Z.Yd.fieldA (m := 0) rfl (by kernel_rfl)) ?_
    refine Z.l rfl rfl (by rfl) (Z.keepS hs) (Z.Yd.load rfl Try.isAgg4 (fun _ => Z.cellO hc.1 (by simp) (hc.2 0 _ rfl))) ?_
    refine Z.lnil ?_
    refine Z.only [0, 1, 2, 3, 12] rfl ?_
    refine Z.nthen ?_
    refine Z.cond rfl (fun h => absurd h (by simpa using hl)) (fun hc2 => ?_)
    refine Z.skip ?_
    refine Z.nthen ?_
    refine Z.seq ?_
    refine Z.seq ?_
    refine Z.region ?_
    refine Z.l rfl rfl (by rfl) (Z.keepS hs) (by first | exact Z.Yd.loadA _ rfl Try.isAgg26 (fun _ => Z.cellsB (by first | ((repeat (first | exact List.mem_cons_self | refine List.mem_cons_of_mem _ ?_ | refine List.mem_append_right _ ?_)); done) | fail)) (by exact Try.sizeOf26) | fail "load 5.0") ?_
    refine Z.lb 1 rfl ?_
    refine Z.lnil ?_
    refine Z.only [0, 1, 2, 3, 31, 32] rfl ?_
    refine Z.nthen ?_
    refine Z.block ?_
    refine Z.loopk (ι := Nat) [0, 1, 2, 3, 31] rfl (fun k => [(32, [], .int .i64 (k : Int))]) (fun k wr => k ≤ 4 ∧ SX.St w [] wr [SX.Ent.blk g3 26 r.lvs.toArray, SX.Ent.blk g2 68 #[.int .u64 r.group, .int .i64 2], SX.Ent.blk g1 31 #[.int .i64 0, .slice none 0 0]]) (fun k => 4 - k) 0 (by refine ⟨?_, trivial⟩ <;> (first | rfl | (refine Z.lookv rfl ?_; simp; done) | (refine Z.lookv rfl ?_; simp; omega))) ⟨by omega, hs⟩ ?_
    clear hs
    rintro k w3 ⟨hk, hs⟩
    refine Z.only [0, 1, 2, 3, 31, 32] rfl ?_
    refine Z.seq ?_
    refine Z.region ?_
    refine Z.lb 1 rfl ?_
    refine Z.lnil ?_
    refine Z.only [0, 1, 2, 3, 31, 32, 33] rfl ?_
    refine Z.nthen ?_
    refine Z.seq ?_
    refine Z.cond rfl (fun hc6 => ?_) (fun hc6 => ?_)
    · first
        | (exfalso; simp at hc6 <;> omega)
        | (
          (try simp at hc6)
          have hgk := lvs_get r k (by omega)
          have hzk := hz k (by omega)
          refine Z.skip ?_
          refine Z.nthen ?_
          refine Z.seq ?_
          refine Z.block ?_
          refine Z.seq ?_
          refine Z.region ?_
          refine Z.lb 1 rfl ?_
          refine Z.l rfl rfl (by rfl) (Z.keepS hs) (Z.Yd.idx1 rfl rfl Try.underlying26 Try.sizeOf3 Try.isAgg3 (fun _ => ⟨by omega, by omega, hgk⟩)) ?_
          refine Z.lb 2 rfl ?_
          refine Z.lnil ?_
          refine Z.only [0, 1, 2, 3, 4, 5, 31, 32] rfl ?_
          refine Z.nthen ?_
          refine Z.region ?_
          refine Z.lb 4 rfl ?_
          refine Z.l rfl rfl (by rfl) (Z.keepS hs) (Z.Yd.fieldA (m := 1) rfl (by kernel_rfl)) ?_
          refine Z.l rfl rfl (by rfl) (Z.keepS hs) (Z.Yd.load rfl Try.isAgg3 (fun _ => Z.cellO hc.1 (by simp) (hc.2 1 _ rfl))) ?_
          refine Z.lb 2 rfl ?_
          refine Z.le rfl trivial ?_
          refine Z.ZO.call rfl rfl (by rfl) rfl rfl Try.call35 rfl (must_ok _ 2 _ (by simp; omega)) ?_
          rintro v8_8 w8_8 ⟨rfl, hy⟩
          replace hs := hs.call hy
          clear hy
          try simp only [List.cons_append, List.nil_append, List.append_nil] at hs
          refine Z.lnil ?_
          refine Z.only [0, 1, 2, 3, 31, 32] rfl ?_
          refine Z.nblock ?_
          refine Z.nthen ?_
          refine Z.region ?_
          refine Z.l rfl rfl (by rfl) (Z.keepS hs) (Z.Yd.add rfl rfl (fun hG => Z.wi64 (by first | omega | (have hG' := Z.gh rfl hG; simp at hG'; omega)))) ?_
          refine Z.lb 1 rfl ?_
          refine Z.lnil ?_
          refine Z.only [0, 1, 2, 3, 31, 32] rfl ?_
          refine Z.nthen ?_
          exact Z.again (k + 1) (by refine ⟨?_, ?_, ?_, ?_, ?_, ?_, trivial⟩ <;> (first | rfl | (refine Z.lookv rfl ?_; simp; done) | (refine Z.lookv rfl ?_; simp; omega))) ⟨by omega, hs⟩ (by omega)
          )
    · first
        | (exfalso; simp at hc6 <;> omega)
        | (
          (try simp at hc6)
          refine Z.exit ?_
          refine Z.xthen ?_
          refine Z.xthen ?_
          refine Z.xblock ?_
          refine Z.nthen ?_
          refine Z.seq ?_
          refine Z.drawK (fun j => j != 8) mixed hs ?_
          clear hs; intro wd10 hs
          refine Z.t 0 rfl rfl rfl (by rfl) (by kernel_rfl) ⟨_, hs, by first | (simp; done) | exact fun e he => List.mem_append_right _ he⟩ (by first | exact Z.Yd.loadA _ rfl Try.isAgg68 (fun _ => Z.cellsB (by first | ((repeat (first | exact List.mem_cons_self | refine List.mem_cons_of_mem _ ?_ | refine List.mem_append_right _ ?_)); done) | fail)) (by exact Try.sizeOf68) | fail "load 10.0") ?_
          refine Z.t 1 rfl rfl rfl (by rfl) (by kernel_rfl) ⟨_, hs, by first | (simp; done) | exact fun e he => List.mem_append_right _ he⟩ (Z.Yd.fieldA (m := 1) rfl (by kernel_rfl)) ?_
          refine Z.t 2 rfl rfl rfl (by rfl) (by kernel_rfl) ⟨_, hs, by first | (simp; done) | exact fun e he => List.mem_append_right _ he⟩ (Z.Yd.load rfl Try.isAgg3 (fun _ => Z.cellO hc.1 (by simp) (hc.2 1 _ rfl))) ?_
          refine Z.t 3 rfl rfl rfl (by rfl) (by kernel_rfl) ⟨_, hs, by first | (simp; done) | exact fun e he => List.mem_append_right _ he⟩ (Z.Yd.elemA rfl rfl Try.underlying26 Try.sizeOf3 (fun hG => ⟨(by first | omega | (have hG' := Z.gh rfl hG; simp at hG'; omega)), (by first | omega | (have hG' := Z.gh rfl hG; simp at hG'; omega))⟩)) ?_
          refine Z.t 4 rfl rfl rfl (by rfl) (by kernel_rfl) ⟨_, hs, by first | (simp; done) | exact fun e he => List.mem_append_right _ he⟩ (Z.Yd.load rfl Try.isAgg3 (fun _ => Z.cellB (cs := r.lvs.toArray) (by first | ((repeat (first | exact List.mem_cons_self | refine List.mem_cons_of_mem _ ?_ | refine List.mem_append_right _ ?_)); done) | fail) hget)) ?_
          refine Z.tn 5 rfl rfl (by kernel_rfl) rfl trivial ?_
          refine Z.ZO.call rfl rfl (by rfl) rfl rfl Try.call37 rfl (level_ok _ _ hv) ?_
          rintro v10_5 w10_5 ⟨rfl, hy⟩
          replace hs := hs.call hy
          clear hy
          try simp only [List.cons_append, List.nil_append, List.append_nil] at hs
          refine Z.tk (Dn := fun j => j != 8) (i := 5) (fun _ => ⟨_, hs, by first | (simp; done) | exact fun e he => List.mem_append_right _ he⟩) ?_
          refine Z.tn 6 rfl rfl (by kernel_rfl) rfl trivial ?_
          refine Z.ZO.litL (T' := 68) [(0, 2), (2, 2)] [.int .u64 0, .int .i64 0, .int .u64 0, .int .i64 0] rfl rfl (by rfl) rfl rfl (by intro W; kernel_rfl) hs ?_
          clear hs; intro g52 w52 hs
          refine Z.tk (Dn := fun j => j != 8) (i := 6) (fun _ => ⟨_, hs, by first | (simp; done) | exact fun e he => List.mem_append_right _ he⟩) ?_
          have hsx := Z.blk_lentj (L1 := []) hs (j := 0) rfl
          refine Z.tn 7 rfl rfl (by kernel_rfl) rfl trivial ?_
          refine Z.ZO.call rfl rfl (by rfl) rfl rfl Try.call36 rfl (built_ok 29 _ 2 2 [(r.group, 2), (r.lv r.group.toNat, 6)] _ hsx rfl (by omega) (by simp [fg.1, fv.1]) (by simp [chkA, fg.2, fv.2])) ?_
          rintro v10_7 w10_7 ⟨B, co, rfl, hy⟩
          replace hs := hs.call hy
          clear hy
          try simp only [List.cons_append, List.nil_append, List.append_nil] at hs
          rw [short_bytes _ _ hg hv] at hs ⊢
          refine Z.tk (Dn := fun j => j != 8) (i := 7) (fun _ => ⟨_, hs, by first | (simp; done) | exact fun e he => List.mem_append_right _ he⟩) ?_
          refine Z.tn 8 rfl rfl (by kernel_rfl) rfl trivial ?_
          refine Z.ZO.storeA rfl rfl hs rfl rfl (by kernel_rfl) (by simp [Value.oneCell']) (by first | exact SX.at0 | exact SX.at1 | exact SX.at2 | exact SX.at3 | exact SX.at4 | exact SX.at5 | exact Z.at6 | exact Z.at7 | exact Z.at8 | exact Z.at9 | exact Z.at10 | exact Z.at11 | exact Z.at12) (by rfl) ?_
          clear hs; intro ws hs
          simp only [Nat.zero_add, Nat.add_zero, Nat.reduceAdd, Int.reduceToNat, Nat.reduceMul, List.set_cons_zero, List.set_cons_succ, List.setIfInBounds_toArray] at hs
          refine Z.tk (Dn := fun j => j != 8) (i := 8) (fun h => absurd h (by decide)) ?_
          refine Z.td (by rfl) (by kernel_rfl) ?_
          refine Z.only [1] rfl ?_
          refine Z.nthen ?_
          refine Z.ret ?_
          -- ret#0
          refine Z.out1 (by exact ⟨⟨_, rfl, Z.rvcA hs Try.isAgg31 (by first | ((repeat (first | exact List.mem_cons_self | refine List.mem_cons_of_mem _ ?_ | refine List.mem_append_right _ ?_)); done) | fail) (by exact Try.sizeOf31)⟩, trivial⟩) ?_
          exact ⟨_, rfl, B, co, rfl, hs.sel [0] (by decide)⟩
          )

set_option maxRecDepth 100000 in
theorem encrep1_bad (g : Nat) (r : RepV) (w : World) (hc : Cel w g r.cells) (hr : ¬ r.ok) :
    Calls Try.prog 33 #[.pointer (some ⟨g, 0, none⟩)] w (PanE 2 fun w' => SX.St w [] w' []) := by
  have hs := SX.St.start w
  by_cases hg : 0 ≤ r.group ∧ r.group ≤ 3
  · skip
    have hget : Z.nth r.lvs (0 + r.group.toNat * 1) = some (.int .i64 (r.lv r.group.toNat)) := by rw [Nat.zero_add, Nat.mul_one]; exact lvs_nth r _ (by omega)
    refine Z.enter Try.func33 rfl Try.ntmps33 rfl rfl ?_
    refine Z.seq ?_
    refine Z.region ?_
    refine Z.le rfl trivial ?_
    refine Z.ZO.alloc rfl rfl (by rfl) Try.zeroValue31 rfl hs ?_
    clear hs; intro g1 w1 hs
    refine Z.lnil ?_
    refine Z.only [0, 1] rfl ?_
    refine Z.nthen ?_
    refine Z.seq ?_
    refine Z.cutt (ι := Nat × Nat) [0, 1] rfl (fun x => [(2, [], .pointer (some ⟨x.1, 0, none⟩)), (3, [], .pointer (some ⟨x.2, 0, none⟩))]) (fun x wr => SX.St w [] wr [SX.Ent.blk x.2 26 r.lvs.toArray, SX.Ent.blk x.1 68 #[.int .u64 r.group, .int .i64 2], SX.Ent.blk g1 31 #[.int .i64 0, .slice none 0 0]]) ?_ ?_
    · skip
      refine Z.drawK (fun _ => true) mixed hs ?_
      clear hs; intro wd1 hs
      refine Z.t 0 rfl rfl rfl (by rfl) (by kernel_rfl) ⟨_, hs, by first | (simp; done) | exact fun e he => List.mem_append_right _ he⟩ (Z.Yd.fieldA (m := 1) rfl (by kernel_rfl)) ?_
      refine Z.t 1 rfl rfl rfl (by rfl) (by kernel_rfl) ⟨_, hs, by first | (simp; done) | exact fun e he => List.mem_append_right _ he⟩ (Z.Yd.load rfl Try.isAgg3 (fun _ => Z.cellO hc.1 (by simp) (hc.2 1 _ rfl))) ?_
      refine Z.t 3 rfl rfl rfl (by rfl) (by kernel_rfl) ⟨_, hs, by first | (simp; done) | exact fun e he => List.mem_append_right _ he⟩ (Z.Yd.fieldA (m := 2) rfl (by kernel_rfl)) ?_
      refine Z.t 4 rfl rfl rfl (by rfl) (by kernel_rfl) ⟨_, hs, by first | (simp; done) | exact fun e he => List.mem_append_right _ he⟩ (Z.Yd.loadA _ rfl Try.isAgg26 (fun _ w' hk j u hu => Z.cellO hc.1 (by simp) (Cel.lvs hc j u hu) w' hk) (by exact Try.sizeOf26)) ?_
      refine Z.forkD [2, 5, 6] rfl (by kernel_rfl) rfl ⟨⟨_, _, rfl, rfl, trivial, ?_⟩, ⟨_, _, rfl, rfl, trivial, ?_⟩, ⟨_, _, rfl, rfl, trivial, ?_⟩, trivial⟩
      · skip
        refine Z.ZO.call rfl rfl (by rfl) rfl rfl Try.call34 rfl (group_ok r.group _ hg) ?_
        rintro v1_2 w1_2 ⟨rfl, hy⟩
        replace hs := hs.call hy
        clear hy
        try simp only [List.cons_append, List.nil_append, List.append_nil] at hs
        refine Z.tk (Dn := fun _ => true) (i := 2) (fun _ => ⟨_, hs, by first | (simp; done) | exact fun e he => List.mem_append_right _ he⟩) ?_
        refine Z.fork2 5 6 rfl rfl rfl (by kernel_rfl) rfl rfl trivial trivial ?_ ?_
        · skip
          refine Z.ZO.alloc rfl rfl (by rfl) Try.zeroValue68 rfl hs ?_
          clear hs; intro g2 w2 hs
          refine Z.tk (Dn := fun _ => true) (i := 5) (fun _ => ⟨_, hs, by first | (simp; done) | exact fun e he => List.mem_append_right _ he⟩) ?_
          refine Z.tn 6 rfl rfl (by kernel_rfl) rfl trivial ?_
          refine Z.ZO.alloc rfl rfl (by rfl) Try.zeroValue26 rfl hs ?_
          clear hs; intro g3 w3 hs
          refine Z.tk (Dn := fun _ => true) (i := 6) (fun _ => ⟨_, hs, by first | (simp; done) | exact fun e he => List.mem_append_right _ he⟩) ?_
          refine Z.tn 7 rfl rfl (by kernel_rfl) rfl trivial ?_
          refine Z.ZO.storeA rfl rfl hs rfl rfl (by kernel_rfl) (by simp [Value.oneCell']) (by first | exact SX.at0 | exact SX.at1 | exact SX.at2 | exact SX.at3 | exact SX.at4 | exact SX.at5 | exact Z.at6 | exact Z.at7 | exact Z.at8 | exact Z.at9 | exact Z.at10 | exact Z.at11 | exact Z.at12) (by rfl) ?_
          clear hs; intro ws hs
          simp only [Nat.zero_add, Nat.add_zero, Nat.reduceAdd, Int.reduceToNat, Nat.reduceMul, List.set_cons_zero, List.set_cons_succ, List.setIfInBounds_toArray] at hs
          refine Z.tk (Dn := fun _ => true) (i := 7) (fun _ => ⟨_, hs, by first | (simp; done) | exact fun e he => List.mem_append_right _ he⟩) ?_
          refine Z.tn 8 rfl rfl (by kernel_rfl) rfl trivial ?_
          refine Z.ZO.storeA rfl rfl hs rfl rfl (by kernel_rfl) (by simp [Value.oneCell']) (by first | exact SX.at0 | exact SX.at1 | exact SX.at2 | exact SX.at3 | exact SX.at4 | exact SX.at5 | exact Z.at6 | exact Z.at7 | exact Z.at8 | exact Z.at9 | exact Z.at10 | exact Z.at11 | exact Z.at12) (by rfl) ?_
          clear hs; intro ws hs
          simp only [Nat.zero_add, Nat.add_zero, Nat.reduceAdd, Int.reduceToNat, Nat.reduceMul, List.set_cons_zero, List.set_cons_succ, List.setIfInBounds_toArray] at hs
          refine Z.tk (Dn := fun _ => true) (i := 8) (fun _ => ⟨_, hs, by first | (simp; done) | exact fun e he => List.mem_append_right _ he⟩) ?_
          refine Z.td (by rfl) (by kernel_rfl) ?_
          refine Z.only [0, 1, 2, 3] rfl ?_
          refine Z.nthen ?_
          exact Z.meet (g2, g3) (by refine ⟨?_, ?_, ?_, ?_, trivial⟩ <;> (first | rfl | (refine Z.lookv rfl ?_; simp; done) | (refine Z.lookv rfl ?_; simp; omega))) (by first | exact hs | exact hs.sel [1, 0, 2] (by decide))
        · skip
          refine Z.ZO.alloc rfl rfl (by rfl) Try.zeroValue26 rfl hs ?_
          clear hs; intro g3 w3 hs
          refine Z.tk (Dn := fun _ => true) (i := 6) (fun _ => ⟨_, hs, by first | (simp; done) | exact fun e he => List.mem_append_right _ he⟩) ?_
          refine Z.tn 5 rfl rfl (by kernel_rfl) rfl trivial ?_
          refine Z.ZO.alloc rfl rfl (by rfl) Try.zeroValue68 rfl hs ?_
          clear hs; intro g2 w2 hs
          refine Z.tk (Dn := fun _ => true) (i := 5) (fun _ => ⟨_, hs, by first | (simp; done) | exact fun e he => List.mem_append_right _ he⟩) ?_
          refine Z.tn 7 rfl rfl (by kernel_rfl) rfl trivial ?_
          refine Z.ZO.storeA rfl rfl hs rfl rfl (by kernel_rfl) (by simp [Value.oneCell']) (by first | exact SX.at0 | exact SX.at1 | exact SX.at2 | exact SX.at3 | exact SX.at4 | exact SX.at5 | exact Z.at6 | exact Z.at7 | exact Z.at8 | exact Z.at9 | exact Z.at10 | exact Z.at11 | exact Z.at12) (by rfl) ?_
          clear hs; intro ws hs
          simp only [Nat.zero_add, Nat.add_zero, Nat.reduceAdd, Int.reduceToNat, Nat.reduceMul, List.set_cons_zero, List.set_cons_succ, List.setIfInBounds_toArray] at hs
          refine Z.tk (Dn := fun _ => true) (i := 7) (fun _ => ⟨_, hs, by first | (simp; done) | exact fun e he => List.mem_append_right _ he⟩) ?_
          refine Z.tn 8 rfl rfl (by kernel_rfl) rfl trivial ?_
          refine Z.ZO.storeA rfl rfl hs rfl rfl (by kernel_rfl) (by simp [Value.oneCell']) (by first | exact SX.at0 | exact SX.at1 | exact SX.at2 | exact SX.at3 | exact SX.at4 | exact SX.at5 | exact Z.at6 | exact Z.at7 | exact Z.at8 | exact Z.at9 | exact Z.at10 | exact Z.at11 | exact Z.at12) (by rfl) ?_
          clear hs; intro ws hs
          simp only [Nat.zero_add, Nat.add_zero, Nat.reduceAdd, Int.reduceToNat, Nat.reduceMul, List.set_cons_zero, List.set_cons_succ, List.setIfInBounds_toArray] at hs
          refine Z.tk (Dn := fun _ => true) (i := 8) (fun _ => ⟨_, hs, by first | (simp; done) | exact fun e he => List.mem_append_right _ he⟩) ?_
          refine Z.td (by rfl) (by kernel_rfl) ?_
          refine Z.only [0, 1, 2, 3] rfl ?_
          refine Z.nthen ?_
          exact Z.meet (g2, g3) (by refine ⟨?_, ?_, ?_, ?_, trivial⟩ <;> (first | rfl | (refine Z.lookv rfl ?_; simp; done) | (refine Z.lookv rfl ?_; simp; omega))) (by first | exact hs | exact hs.sel [1, 0, 2] (by decide))
      · skip
        refine Z.ZO.alloc rfl rfl (by rfl) Try.zeroValue68 rfl hs ?_
        clear hs; intro g2 w2 hs
        refine Z.tk (Dn := fun _ => true) (i := 5) (fun _ => ⟨_, hs, by first | (simp; done) | exact fun e he => List.mem_append_right _ he⟩) ?_
        refine Z.fork2 2 6 rfl rfl rfl (by kernel_rfl) rfl rfl trivial trivial ?_ ?_
        · skip
          refine Z.ZO.call rfl rfl (by rfl) rfl rfl Try.call34 rfl (group_ok r.group _ hg) ?_
          rintro v1_2 w1_2 ⟨rfl, hy⟩
          replace hs := hs.call hy
          clear hy
          try simp only [List.cons_append, List.nil_append, List.append_nil] at hs
          refine Z.tk (Dn := fun _ => true) (i := 2) (fun _ => ⟨_, hs, by first | (simp; done) | exact fun e he => List.mem_append_right _ he⟩) ?_
          refine Z.tn 6 rfl rfl (by kernel_rfl) rfl trivial ?_
          refine Z.ZO.alloc rfl rfl (by rfl) Try.zeroValue26 rfl hs ?_
          clear hs; intro g3 w3 hs
          refine Z.tk (Dn := fun _ => true) (i := 6) (fun _ => ⟨_, hs, by first | (simp; done) | exact fun e he => List.mem_append_right _ he⟩) ?_
          refine Z.tn 7 rfl rfl (by kernel_rfl) rfl trivial ?_
          refine Z.ZO.storeA rfl rfl hs rfl rfl (by kernel_rfl) (by simp [Value.oneCell']) (by first | exact SX.at0 | exact SX.at1 | exact SX.at2 | exact SX.at3 | exact SX.at4 | exact SX.at5 | exact Z.at6 | exact Z.at7 | exact Z.at8 | exact Z.at9 | exact Z.at10 | exact Z.at11 | exact Z.at12) (by rfl) ?_
          clear hs; intro ws hs
          simp only [Nat.zero_add, Nat.add_zero, Nat.reduceAdd, Int.reduceToNat, Nat.reduceMul, List.set_cons_zero, List.set_cons_succ, List.setIfInBounds_toArray] at hs
          refine Z.tk (Dn := fun _ => true) (i := 7) (fun _ => ⟨_, hs, by first | (simp; done) | exact fun e he => List.mem_append_right _ he⟩) ?_
          refine Z.tn 8 rfl rfl (by kernel_rfl) rfl trivial ?_
          refine Z.ZO.storeA rfl rfl hs rfl rfl (by kernel_rfl) (by simp [Value.oneCell']) (by first | exact SX.at0 | exact SX.at1 | exact SX.at2 | exact SX.at3 | exact SX.at4 | exact SX.at5 | exact Z.at6 | exact Z.at7 | exact Z.at8 | exact Z.at9 | exact Z.at10 | exact Z.at11 | exact Z.at12) (by rfl) ?_
          clear hs; intro ws hs
          simp only [Nat.zero_add, Nat.add_zero, Nat.reduceAdd, Int.reduceToNat, Nat.reduceMul, List.set_cons_zero, List.set_cons_succ, List.setIfInBounds_toArray] at hs
          refine Z.tk (Dn := fun _ => true) (i := 8) (fun _ => ⟨_, hs, by first | (simp; done) | exact fun e he => List.mem_append_right _ he⟩) ?_
          refine Z.td (by rfl) (by kernel_rfl) ?_
          refine Z.only [0, 1, 2, 3] rfl ?_
          refine Z.nthen ?_
          exact Z.meet (g2, g3) (by refine ⟨?_, ?_, ?_, ?_, trivial⟩ <;> (first | rfl | (refine Z.lookv rfl ?_; simp; done) | (refine Z.lookv rfl ?_; simp; omega))) (by first | exact hs | exact hs.sel [1, 0, 2] (by decide))
        · skip
          refine Z.ZO.alloc rfl rfl (by rfl) Try.zeroValue26 rfl hs ?_
          clear hs; intro g3 w3 hs
          refine Z.tk (Dn := fun _ => true) (i := 6) (fun _ => ⟨_, hs, by first | (simp; done) | exact fun e he => List.mem_append_right _ he⟩) ?_
          refine Z.tn 2 rfl rfl (by kernel_rfl) rfl trivial ?_
          refine Z.ZO.call rfl rfl (by rfl) rfl rfl Try.call34 rfl (group_ok r.group _ hg) ?_
          rintro v1_2 w1_2 ⟨rfl, hy⟩
          replace hs := hs.call hy
          clear hy
          try simp only [List.cons_append, List.nil_append, List.append_nil] at hs
          refine Z.tk (Dn := fun _ => true) (i := 2) (fun _ => ⟨_, hs, by first | (simp; done) | exact fun e he => List.mem_append_right _ he⟩) ?_
          refine Z.tn 7 rfl rfl (by kernel_rfl) rfl trivial ?_
          refine Z.ZO.storeA rfl rfl hs rfl rfl (by kernel_rfl) (by simp [Value.oneCell']) (by first | exact SX.at0 | exact SX.at1 | exact SX.at2 | exact SX.at3 | exact SX.at4 | exact SX.at5 | exact Z.at6 | exact Z.at7 | exact Z.at8 | exact Z.at9 | exact Z.at10 | exact Z.at11 | exact Z.at12) (by rfl) ?_
          clear hs; intro ws hs
          simp only [Nat.zero_add, Nat.add_zero, Nat.reduceAdd, Int.reduceToNat, Nat.reduceMul, List.set_cons_zero, List.set_cons_succ, List.setIfInBounds_toArray] at hs
          refine Z.tk (Dn := fun _ => true) (i := 7) (fun _ => ⟨_, hs, by first | (simp; done) | exact fun e he => List.mem_append_right _ he⟩) ?_
          refine Z.tn 8 rfl rfl (by kernel_rfl) rfl trivial ?_
          refine Z.ZO.storeA rfl rfl hs rfl rfl (by kernel_rfl) (by simp [Value.oneCell']) (by first | exact SX.at0 | exact SX.at1 | exact SX.at2 | exact SX.at3 | exact SX.at4 | exact SX.at5 | exact Z.at6 | exact Z.at7 | exact Z.at8 | exact Z.at9 | exact Z.at10 | exact Z.at11 | exact Z.at12) (by rfl) ?_
          clear hs; intro ws hs
          simp only [Nat.zero_add, Nat.add_zero, Nat.reduceAdd, Int.reduceToNat, Nat.reduceMul, List.set_cons_zero, List.set_cons_succ, List.setIfInBounds_toArray] at hs
          refine Z.tk (Dn := fun _ => true) (i := 8) (fun _ => ⟨_, hs, by first | (simp; done) | exact fun e he => List.mem_append_right _ he⟩) ?_
          refine Z.td (by rfl) (by kernel_rfl) ?_
          refine Z.only [0, 1, 2, 3] rfl ?_
          refine Z.nthen ?_
          exact Z.meet (g2, g3) (by refine ⟨?_, ?_, ?_, ?_, trivial⟩ <;> (first | rfl | (refine Z.lookv rfl ?_; simp; done) | (refine Z.lookv rfl ?_; simp; omega))) (by first | exact hs | exact hs.sel [1, 0, 2] (by decide))
      · skip
        refine Z.ZO.alloc rfl rfl (by rfl) Try.zeroValue26 rfl hs ?_
        clear hs; intro g3 w3 hs
        refine Z.tk (Dn := fun _ => true) (i := 6) (fun _ => ⟨_, hs, by first | (simp; done) | exact fun e he => List.mem_append_right _ he⟩) ?_
        refine Z.fork2 2 5 rfl rfl rfl (by kernel_rfl) rfl rfl trivial trivial ?_ ?_
        · skip
          refine Z.ZO.call rfl rfl (by rfl) rfl rfl Try.call34 rfl (group_ok r.group _ hg) ?_
          rintro v1_2 w1_2 ⟨rfl, hy⟩
          replace hs := hs.call hy
          clear hy
          try simp only [List.cons_append, List.nil_append, List.append_nil] at hs
          refine Z.tk (Dn := fun _ => true) (i := 2) (fun _ => ⟨_, hs, by first | (simp; done) | exact fun e he => List.mem_append_right _ he⟩) ?_
          refine Z.tn 5 rfl rfl (by kernel_rfl) rfl trivial ?_
          refine Z.ZO.alloc rfl rfl (by rfl) Try.zeroValue68 rfl hs ?_
          clear hs; intro g2 w2 hs
          refine Z.tk (Dn := fun _ => true) (i := 5) (fun _ => ⟨_, hs, by first | (simp; done) | exact fun e he => List.mem_append_right _ he⟩) ?_
          refine Z.tn 7 rfl rfl (by kernel_rfl) rfl trivial ?_
          refine Z.ZO.storeA rfl rfl hs rfl rfl (by kernel_rfl) (by simp [Value.oneCell']) (by first | exact SX.at0 | exact SX.at1 | exact SX.at2 | exact SX.at3 | exact SX.at4 | exact SX.at5 | exact Z.at6 | exact Z.at7 | exact Z.at8 | exact Z.at9 | exact Z.at10 | exact Z.at11 | exact Z.at12) (by rfl) ?_
          clear hs; intro ws hs
          simp only [Nat.zero_add, Nat.add_zero, Nat.reduceAdd, Int.reduceToNat, Nat.reduceMul, List.set_cons_zero, List.set_cons_succ, List.setIfInBounds_toArray] at hs
          refine Z.tk (Dn := fun _ => true) (i := 7) (fun _ => ⟨_, hs, by first | (simp; done) | exact fun e he => List.mem_append_right _ he⟩) ?_
          refine Z.tn 8 rfl rfl (by kernel_rfl) rfl trivial ?_
          refine Z.ZO.storeA rfl rfl hs rfl rfl (by kernel_rfl) (by simp [Value.oneCell']) (by first | exact SX.at0 | exact SX.at1 | exact SX.at2 | exact SX.at3 | exact SX.at4 | exact SX.at5 | exact Z.at6 | exact Z.at7 | exact Z.at8 | exact Z.at9 | exact Z.at10 | exact Z.at11 | exact Z.at12) (by rfl) ?_
          clear hs; intro ws hs
          simp only [Nat.zero_add, Nat.add_zero, Nat.reduceAdd, Int.reduceToNat, Nat.reduceMul, List.set_cons_zero, List.set_cons_succ, List.setIfInBounds_toArray] at hs
          refine Z.tk (Dn := fun _ => true) (i := 8) (fun _ => ⟨_, hs, by first | (simp; done) | exact fun e he => List.mem_append_right _ he⟩) ?_
          refine Z.td (by rfl) (by kernel_rfl) ?_
          refine Z.only [0, 1, 2, 3] rfl ?_
          refine Z.nthen ?_
          exact Z.meet (g2, g3) (by refine ⟨?_, ?_, ?_, ?_, trivial⟩ <;> (first | rfl | (refine Z.lookv rfl ?_; simp; done) | (refine Z.lookv rfl ?_; simp; omega))) (by first | exact hs | exact hs.sel [1, 0, 2] (by decide))
        · skip
          refine Z.ZO.alloc rfl rfl (by rfl) Try.zeroValue68 rfl hs ?_
          clear hs; intro g2 w2 hs
          refine Z.tk (Dn := fun _ => true) (i := 5) (fun _ => ⟨_, hs, by first | (simp; done) | exact fun e he => List.mem_append_right _ he⟩) ?_
          refine Z.tn 2 rfl rfl (by kernel_rfl) rfl trivial ?_
          refine Z.ZO.call rfl rfl (by rfl) rfl rfl Try.call34 rfl (group_ok r.group _ hg) ?_
          rintro v1_2 w1_2 ⟨rfl, hy⟩
          replace hs := hs.call hy
          clear hy
          try simp only [List.cons_append, List.nil_append, List.append_nil] at hs
          refine Z.tk (Dn := fun _ => true) (i := 2) (fun _ => ⟨_, hs, by first | (simp; done) | exact fun e he => List.mem_append_right _ he⟩) ?_
          refine Z.tn 7 rfl rfl (by kernel_rfl) rfl trivial ?_
          refine Z.ZO.storeA rfl rfl hs rfl rfl (by kernel_rfl) (by simp [Value.oneCell']) (by first | exact SX.at0 | exact SX.at1 | exact SX.at2 | exact SX.at3 | exact SX.at4 | exact SX.at5 | exact Z.at6 | exact Z.at7 | exact Z.at8 | exact Z.at9 | exact Z.at10 | exact Z.at11 | exact Z.at12) (by rfl) ?_
          clear hs; intro ws hs
          simp only [Nat.zero_add, Nat.add_zero, Nat.reduceAdd, Int.reduceToNat, Nat.reduceMul, List.set_cons_zero, List.set_cons_succ, List.setIfInBounds_toArray] at hs
          refine Z.tk (Dn := fun _ => true) (i := 7) (fun _ => ⟨_, hs, by first | (simp; done) | exact fun e he => List.mem_append_right _ he⟩) ?_
          refine Z.tn 8 rfl rfl (by kernel_rfl) rfl trivial ?_
          refine Z.ZO.storeA rfl rfl hs rfl rfl (by kernel_rfl) (by simp [Value.oneCell']) (by first | exact SX.at0 | exact SX.at1 | exact SX.at2 | exact SX.at3 | exact SX.at4 | exact SX.at5 | exact Z.at6 | exact Z.at7 | exact Z.at8 | exact Z.at9 | exact Z.at10 | exact Z.at11 | exact Z.at12) (by rfl) ?_
          clear hs; intro ws hs
          simp only [Nat.zero_add, Nat.add_zero, Nat.reduceAdd, Int.reduceToNat, Nat.reduceMul, List.set_cons_zero, List.set_cons_succ, List.setIfInBounds_toArray] at hs
          refine Z.tk (Dn := fun _ => true) (i := 8) (fun _ => ⟨_, hs, by first | (simp; done) | exact fun e he => List.mem_append_right _ he⟩) ?_
          refine Z.td (by rfl) (by kernel_rfl) ?_
          refine Z.only [0, 1, 2, 3] rfl ?_
          refine Z.nthen ?_
          exact Z.meet (g2, g3) (by refine ⟨?_, ?_, ?_, ?_, trivial⟩ <;> (first | rfl | (refine Z.lookv rfl ?_; simp; done) | (refine Z.lookv rfl ?_; simp; omega))) (by first | exact hs | exact hs.sel [1, 0, 2] (by decide))
    · clear hs
      rintro ⟨g2, g3⟩ w2 hs
      refine Z.only [0, 1, 2, 3] rfl ?_
      (try dsimp only at hs)
      refine Z.seq ?_
      refine Z.seq ?_
      refine Z.region ?_
      refine Z.l rfl rfl (by rfl) (Z.keepS hs) (Z.Yd.fieldA (m := 0) rfl (by kernel_rfl)) ?_
      refine Z.l rfl rfl (by rfl) (Z.keepS hs) (Z.Yd.load rfl Try.isAgg4 (fun _ => Z.cellO hc.1 (by simp) (hc.2 0 _ rfl))) ?_
      refine Z.lnil ?_
      refine Z.only [0, 1, 2, 3, 12] rfl ?_
      refine Z.nthen ?_
      refine Z.cond rfl (fun hc2 => ?_) (fun hc2 => ?_)
      · first
          | (exfalso; simp at hc2 <;> omega)
          | (
            (try simp at hc2)
            refine Z.seq ?_
            refine Z.region ?_
            refine Z.l rfl rfl (by rfl) (Z.keepS hs) (Z.Yd.fieldA (m := 1) rfl (by kernel_rfl)) ?_
            refine Z.l rfl rfl (by rfl) (Z.keepS hs) (Z.Yd.load rfl Try.isAgg3 (fun _ => Z.cellO hc.1 (by simp) (hc.2 1 _ rfl))) ?_
            refine Z.lb 1 rfl ?_
            refine Z.le rfl trivial ?_
            refine Z.ZO.callB rfl rfl (by rfl) rfl rfl Try.call35 rfl (must_any _ 2 _) ?_ ?_
            · skip
              rintro v3_3 w3_3 ⟨hb3, rfl, hy⟩
              replace hs := hs.call hy
              clear hy
              try simp only [List.cons_append, List.nil_append, List.append_nil] at hs
              refine Z.lnil ?_
              refine Z.only [1, 3] rfl ?_
              refine Z.nthen ?_
              refine Z.seq ?_
              refine Z.drawPK (fun j => j != 14) mixed hs ?_
              clear hs; intro wd4 hs
              refine Z.tXP 0 [0, 1, 2, 5, 8, 11, 12, 13, 14] (fun _ _ _ _ _ h => h) rfl rfl rfl (by rfl) (by kernel_rfl) ⟨_, hs, by first | (simp; done) | exact fun e he => List.mem_append_right _ he⟩ (Z.Yd.elemA rfl rfl Try.underlying26 Try.sizeOf3 (fun hG => ⟨(by first | omega | (have hG' := Z.gh rfl hG; simp at hG'; omega)), (by first | omega | (have hG' := Z.gh rfl hG; simp at hG'; omega))⟩)) ?_
              refine Z.tXP 1 [1, 2, 5, 8, 11, 12, 13, 14] (fun _ _ _ _ _ h => h) rfl rfl rfl (by rfl) (by kernel_rfl) ⟨_, hs, by first | (simp; done) | exact fun e he => List.mem_append_right _ he⟩ (by first | exact Z.Yd.load rfl Try.isAgg3 (fun _ => Z.cellB (by first | ((repeat (first | exact List.mem_cons_self | refine List.mem_cons_of_mem _ ?_ | refine List.mem_append_right _ ?_)); done) | fail) rfl) | exact Z.Yd.load rfl Try.isAgg3 (fun hG => Z.cellR (by first | ((repeat (first | exact List.mem_cons_self | refine List.mem_cons_of_mem _ ?_ | refine List.mem_append_right _ ?_)); done) | fail) (Z.ints_at (by first | omega | (have hG' := Z.gh rfl hG; simp at hG'; omega)) (by first | omega | (have hG' := Z.gh rfl hG; simp at hG'; omega)))) | exact Z.Yd.load rfl Try.isAgg3 (fun hG => Z.cellXi (by assumption) (by first | omega | (have hG' := Z.gh rfl hG; simp at hG'; omega)) (by first | omega | (have hG' := Z.gh rfl hG; simp at hG'; omega))) | exact Z.Yd.load rfl Try.isAgg3 (fun hG => Z.cellS (by assumption) rfl (by first | omega | (have hG' := Z.gh rfl hG; simp at hG'; omega)) (by first | omega | (have hG' := Z.gh rfl hG; simp at hG'; omega))) | fail "load 4.1") ?_
              refine Z.tXP 3 [3, 4, 5, 8, 11, 12, 13, 14] (fun _ _ _ _ _ h => h) rfl rfl rfl (by rfl) (by kernel_rfl) ⟨_, hs, by first | (simp; done) | exact fun e he => List.mem_append_right _ he⟩ (Z.Yd.elemA rfl rfl Try.underlying26 Try.sizeOf3 (fun hG => ⟨(by first | omega | (have hG' := Z.gh rfl hG; simp at hG'; omega)), (by first | omega | (have hG' := Z.gh rfl hG; simp at hG'; omega))⟩)) ?_
              refine Z.tXP 4 [4, 5, 8, 11, 12, 13, 14] (fun _ _ _ _ _ h => h) rfl rfl rfl (by rfl) (by kernel_rfl) ⟨_, hs, by first | (simp; done) | exact fun e he => List.mem_append_right _ he⟩ (by first | exact Z.Yd.load rfl Try.isAgg3 (fun _ => Z.cellB (by first | ((repeat (first | exact List.mem_cons_self | refine List.mem_cons_of_mem _ ?_ | refine List.mem_append_right _ ?_)); done) | fail) rfl) | exact Z.Yd.load rfl Try.isAgg3 (fun hG => Z.cellR (by first | ((repeat (first | exact List.mem_cons_self | refine List.mem_cons_of_mem _ ?_ | refine List.mem_append_right _ ?_)); done) | fail) (Z.ints_at (by first | omega | (have hG' := Z.gh rfl hG; simp at hG'; omega)) (by first | omega | (have hG' := Z.gh rfl hG; simp at hG'; omega)))) | exact Z.Yd.load rfl Try.isAgg3 (fun hG => Z.cellXi (by assumption) (by first | omega | (have hG' := Z.gh rfl hG; simp at hG'; omega)) (by first | omega | (have hG' := Z.gh rfl hG; simp at hG'; omega))) | exact Z.Yd.load rfl Try.isAgg3 (fun hG => Z.cellS (by assumption) rfl (by first | omega | (have hG' := Z.gh rfl hG; simp at hG'; omega)) (by first | omega | (have hG' := Z.gh rfl hG; simp at hG'; omega))) | fail "load 4.4") ?_
              refine Z.tXP 6 [6, 7, 8, 11, 12, 13, 14] (fun _ _ _ _ _ h => h) rfl rfl rfl (by rfl) (by kernel_rfl) ⟨_, hs, by first | (simp; done) | exact fun e he => List.mem_append_right _ he⟩ (Z.Yd.elemA rfl rfl Try.underlying26 Try.sizeOf3 (fun hG => ⟨(by first | omega | (have hG' := Z.gh rfl hG; simp at hG'; omega)), (by first | omega | (have hG' := Z.gh rfl hG; simp at hG'; omega))⟩)) ?_
              refine Z.tXP 7 [7, 8, 11, 12, 13, 14] (fun _ _ _ _ _ h => h) rfl rfl rfl (by rfl) (by kernel_rfl) ⟨_, hs, by first | (simp; done) | exact fun e he => List.mem_append_right _ he⟩ (by first | exact Z.Yd.load rfl Try.isAgg3 (fun _ => Z.cellB (by first | ((repeat (first | exact List.mem_cons_self | refine List.mem_cons_of_mem _ ?_ | refine List.mem_append_right _ ?_)); done) | fail) rfl) | exact Z.Yd.load rfl Try.isAgg3 (fun hG => Z.cellR (by first | ((repeat (first | exact List.mem_cons_self | refine List.mem_cons_of_mem _ ?_ | refine List.mem_append_right _ ?_)); done) | fail) (Z.ints_at (by first | omega | (have hG' := Z.gh rfl hG; simp at hG'; omega)) (by first | omega | (have hG' := Z.gh rfl hG; simp at hG'; omega)))) | exact Z.Yd.load rfl Try.isAgg3 (fun hG => Z.cellXi (by assumption) (by first | omega | (have hG' := Z.gh rfl hG; simp at hG'; omega)) (by first | omega | (have hG' := Z.gh rfl hG; simp at hG'; omega))) | exact Z.Yd.load rfl Try.isAgg3 (fun hG => Z.cellS (by assumption) rfl (by first | omega | (have hG' := Z.gh rfl hG; simp at hG'; omega)) (by first | omega | (have hG' := Z.gh rfl hG; simp at hG'; omega))) | fail "load 4.7") ?_
              refine Z.tXP 9 [9, 10, 11, 12, 13, 14] (fun _ _ _ _ _ h => h) rfl rfl rfl (by rfl) (by kernel_rfl) ⟨_, hs, by first | (simp; done) | exact fun e he => List.mem_append_right _ he⟩ (Z.Yd.elemA rfl rfl Try.underlying26 Try.sizeOf3 (fun hG => ⟨(by first | omega | (have hG' := Z.gh rfl hG; simp at hG'; omega)), (by first | omega | (have hG' := Z.gh rfl hG; simp at hG'; omega))⟩)) ?_
              refine Z.tXP 10 [10, 11, 12, 13, 14] (fun _ _ _ _ _ h => h) rfl rfl rfl (by rfl) (by kernel_rfl) ⟨_, hs, by first | (simp; done) | exact fun e he => List.mem_append_right _ he⟩ (by first | exact Z.Yd.load rfl Try.isAgg3 (fun _ => Z.cellB (by first | ((repeat (first | exact List.mem_cons_self | refine List.mem_cons_of_mem _ ?_ | refine List.mem_append_right _ ?_)); done) | fail) rfl) | exact Z.Yd.load rfl Try.isAgg3 (fun hG => Z.cellR (by first | ((repeat (first | exact List.mem_cons_self | refine List.mem_cons_of_mem _ ?_ | refine List.mem_append_right _ ?_)); done) | fail) (Z.ints_at (by first | omega | (have hG' := Z.gh rfl hG; simp at hG'; omega)) (by first | omega | (have hG' := Z.gh rfl hG; simp at hG'; omega)))) | exact Z.Yd.load rfl Try.isAgg3 (fun hG => Z.cellXi (by assumption) (by first | omega | (have hG' := Z.gh rfl hG; simp at hG'; omega)) (by first | omega | (have hG' := Z.gh rfl hG; simp at hG'; omega))) | exact Z.Yd.load rfl Try.isAgg3 (fun hG => Z.cellS (by assumption) rfl (by first | omega | (have hG' := Z.gh rfl hG; simp at hG'; omega)) (by first | omega | (have hG' := Z.gh rfl hG; simp at hG'; omega))) | fail "load 4.10") ?_
              refine Z.tnP 2 rfl rfl (by kernel_rfl) rfl trivial ?_
              refine Z.ZO.callB rfl rfl (by rfl) rfl rfl Try.call37 rfl (level_any _ _) ?_ ?_
              · skip
                rintro v4_2 w4_2 ⟨hb4, rfl, hy⟩
                replace hs := hs.call hy
                clear hy
                try simp only [List.cons_append, List.nil_append, List.append_nil] at hs
                refine Z.tkP (Dn := fun j => j != 14) (i := 2) (fun _ => ⟨_, hs, by first | (simp; done) | exact fun e he => List.mem_append_right _ he⟩) ?_
                refine Z.tnP 5 rfl rfl (by kernel_rfl) rfl trivial ?_
                refine Z.ZO.callB rfl rfl (by rfl) rfl rfl Try.call37 rfl (level_any _ _) ?_ ?_
                · skip
                  rintro v4_5 w4_5 ⟨hb5, rfl, hy⟩
                  replace hs := hs.call hy
                  clear hy
                  try simp only [List.cons_append, List.nil_append, List.append_nil] at hs
                  refine Z.tkP (Dn := fun j => j != 14) (i := 5) (fun _ => ⟨_, hs, by first | (simp; done) | exact fun e he => List.mem_append_right _ he⟩) ?_
                  refine Z.tnP 8 rfl rfl (by kernel_rfl) rfl trivial ?_
                  refine Z.ZO.callB rfl rfl (by rfl) rfl rfl Try.call37 rfl (level_any _ _) ?_ ?_
                  · skip
                    rintro v4_8 w4_8 ⟨hb6, rfl, hy⟩
                    replace hs := hs.call hy
                    clear hy
                    try simp only [List.cons_append, List.nil_append, List.append_nil] at hs
                    refine Z.tkP (Dn := fun j => j != 14) (i := 8) (fun _ => ⟨_, hs, by first | (simp; done) | exact fun e he => List.mem_append_right _ he⟩) ?_
                    refine Z.tnP 11 rfl rfl (by kernel_rfl) rfl trivial ?_
                    refine Z.ZO.callB rfl rfl (by rfl) rfl rfl Try.call37 rfl (level_any _ _) ?_ ?_
                    · skip
                      rintro v4_11 w4_11 ⟨hb7, rfl, hy⟩
                      replace hs := hs.call hy
                      clear hy
                      try simp only [List.cons_append, List.nil_append, List.append_nil] at hs
                      refine Z.tkP (Dn := fun j => j != 14) (i := 11) (fun _ => ⟨_, hs, by first | (simp; done) | exact fun e he => List.mem_append_right _ he⟩) ?_
                      exact absurd ⟨hg, by rw [if_pos hc2]; exact ⟨by simpa using hb3, hb4, hb5, hb6, hb7⟩⟩ hr
                    · skip
                      rintro c4_11 w4_11 ⟨hb7, rfl, hy⟩
                      replace hs := hs.call hy
                      clear hy
                      try simp only [List.cons_append, List.nil_append, List.append_nil] at hs
                      repeat (first | refine Z.pthen ?_ | refine Z.pblock ?_ | refine Z.pscope ?_)
                      -- ret#0
                      refine Z.outp ?_
                      exact ⟨_, rfl, rfl, hs.sub (List.nil_sublist _)⟩
                  · skip
                    rintro c4_8 w4_8 ⟨hb6, rfl, hy⟩
                    replace hs := hs.call hy
                    clear hy
                    try simp only [List.cons_append, List.nil_append, List.append_nil] at hs
                    repeat (first | refine Z.pthen ?_ | refine Z.pblock ?_ | refine Z.pscope ?_)
                    -- ret#1
                    refine Z.outp ?_
                    exact ⟨_, rfl, rfl, hs.sub (List.nil_sublist _)⟩
                · skip
                  rintro c4_5 w4_5 ⟨hb5, rfl, hy⟩
                  replace hs := hs.call hy
                  clear hy
                  try simp only [List.cons_append, List.nil_append, List.append_nil] at hs
                  repeat (first | refine Z.pthen ?_ | refine Z.pblock ?_ | refine Z.pscope ?_)
                  -- ret#2
                  refine Z.outp ?_
                  exact ⟨_, rfl, rfl, hs.sub (List.nil_sublist _)⟩
              · skip
                rintro c4_2 w4_2 ⟨hb4, rfl, hy⟩
                replace hs := hs.call hy
                clear hy
                try simp only [List.cons_append, List.nil_append, List.append_nil] at hs
                repeat (first | refine Z.pthen ?_ | refine Z.pblock ?_ | refine Z.pscope ?_)
                -- ret#3
                refine Z.outp ?_
                exact ⟨_, rfl, rfl, hs.sub (List.nil_sublist _)⟩
            · skip
              rintro c3_3 w3_3 ⟨hb3, rfl, hy⟩
              replace hs := hs.call hy
              clear hy
              try simp only [List.cons_append, List.nil_append, List.append_nil] at hs
              repeat (first | refine Z.pthen ?_ | refine Z.pblock ?_ | refine Z.pscope ?_)
              -- ret#4
              refine Z.outp ?_
              exact ⟨_, rfl, rfl, hs.sub (List.nil_sublist _)⟩
            )
      · first
          | (exfalso; simp at hc2 <;> omega)
          | (
            (try simp at hc2)
            refine Z.skip ?_
            refine Z.nthen ?_
            refine Z.seq ?_
            refine Z.seq ?_
            refine Z.region ?_
            refine Z.l rfl rfl (by rfl) (Z.keepS hs) (by first | exact Z.Yd.loadA _ rfl Try.isAgg26 (fun _ => Z.cellsB (by first | ((repeat (first | exact List.mem_cons_self | refine List.mem_cons_of_mem _ ?_ | refine List.mem_append_right _ ?_)); done) | fail)) (by exact Try.sizeOf26) | fail "load 5.0") ?_
            refine Z.lb 1 rfl ?_
            refine Z.lnil ?_
            refine Z.only [0, 1, 2, 3, 31, 32] rfl ?_
            refine Z.nthen ?_
            refine Z.block ?_
            refine Z.loopk (ι := Nat) [0, 1, 2, 3, 31] rfl (fun k => [(32, [], .int .i64 (k : Int))]) (fun k wr => (k ≤ 4 ∧ ∀ j : Nat, j < k → r.lv j = 0 ∨ (j : Int) = r.group) ∧ SX.St w [] wr [SX.Ent.blk g3 26 r.lvs.toArray, SX.Ent.blk g2 68 #[.int .u64 r.group, .int .i64 2], SX.Ent.blk g1 31 #[.int .i64 0, .slice none 0 0]]) (fun k => 4 - k) 0 (by refine ⟨?_, trivial⟩ <;> (first | rfl | (refine Z.lookv rfl ?_; simp; done) | (refine Z.lookv rfl ?_; simp; omega))) ⟨⟨by omega, fun j hj => by omega⟩, hs⟩ ?_
            clear hs
            rintro k w3 ⟨⟨hk, hj⟩, hs⟩
            refine Z.only [0, 1, 2, 3, 31, 32] rfl ?_
            refine Z.seq ?_
            refine Z.region ?_
            refine Z.lb 1 rfl ?_
            refine Z.lnil ?_
            refine Z.only [0, 1, 2, 3, 31, 32, 33] rfl ?_
            refine Z.nthen ?_
            refine Z.seq ?_
            refine Z.cond rfl (fun hc6 => ?_) (fun hc6 => ?_)
            · first
                | (exfalso; simp at hc6 <;> omega)
                | (
                  (try simp at hc6)
                  have hgk := lvs_get r k (by omega)
                  refine Z.skip ?_
                  refine Z.nthen ?_
                  refine Z.seq ?_
                  refine Z.block ?_
                  refine Z.seq ?_
                  refine Z.region ?_
                  refine Z.lb 1 rfl ?_
                  refine Z.l rfl rfl (by rfl) (Z.keepS hs) (Z.Yd.idx1 rfl rfl Try.underlying26 Try.sizeOf3 Try.isAgg3 (fun _ => ⟨by omega, by omega, hgk⟩)) ?_
                  refine Z.lb 2 rfl ?_
                  refine Z.lnil ?_
                  refine Z.only [0, 1, 2, 3, 4, 5, 31, 32] rfl ?_
                  refine Z.nthen ?_
                  refine Z.region ?_
                  refine Z.lb 4 rfl ?_
                  refine Z.l rfl rfl (by rfl) (Z.keepS hs) (Z.Yd.fieldA (m := 1) rfl (by kernel_rfl)) ?_
                  refine Z.l rfl rfl (by rfl) (Z.keepS hs) (Z.Yd.load rfl Try.isAgg3 (fun _ => Z.cellO hc.1 (by simp) (hc.2 1 _ rfl))) ?_
                  refine Z.lb 2 rfl ?_
                  refine Z.le rfl trivial ?_
                  refine Z.ZO.callB rfl rfl (by rfl) rfl rfl Try.call35 rfl (must_any _ 2 _) ?_ ?_
                  · skip
                    rintro v8_8 w8_8 ⟨hb8, rfl, hy⟩
                    replace hs := hs.call hy
                    clear hy
                    try simp only [List.cons_append, List.nil_append, List.append_nil] at hs
                    refine Z.lnil ?_
                    refine Z.only [0, 1, 2, 3, 31, 32] rfl ?_
                    refine Z.nblock ?_
                    refine Z.nthen ?_
                    refine Z.region ?_
                    refine Z.l rfl rfl (by rfl) (Z.keepS hs) (Z.Yd.add rfl rfl (fun hG => Z.wi64 (by first | omega | (have hG' := Z.gh rfl hG; simp at hG'; omega)))) ?_
                    refine Z.lb 1 rfl ?_
                    refine Z.lnil ?_
                    refine Z.only [0, 1, 2, 3, 31, 32] rfl ?_
                    refine Z.nthen ?_
                    simp only [Bool.or_eq_true, beq_iff_eq, decide_eq_true_eq] at hb8
                    exact Z.again (k + 1) (by refine ⟨?_, ?_, ?_, ?_, ?_, ?_, trivial⟩ <;> (first | rfl | (refine Z.lookv rfl ?_; simp; done) | (refine Z.lookv rfl ?_; simp; omega))) ⟨⟨by omega, fun j hjk => by
                      by_cases e : j = k
                      · subst e; exact hb8
                      · exact hj j (by omega)⟩, hs⟩ (by omega)
                  · skip
                    rintro c8_8 w8_8 ⟨hb8, rfl, hy⟩
                    replace hs := hs.call hy
                    clear hy
                    try simp only [List.cons_append, List.nil_append, List.append_nil] at hs
                    repeat (first | refine Z.pthen ?_ | refine Z.pblock ?_ | refine Z.pscope ?_)
                    -- ret#5
                    refine Z.outp ?_
                    exact ⟨_, rfl, rfl, hs.sub (List.nil_sublist _)⟩
                  )
            · first
                | (exfalso; simp at hc6 <;> omega)
                | (
                  (try simp at hc6)
                  refine Z.exit ?_
                  refine Z.xthen ?_
                  refine Z.xthen ?_
                  refine Z.xblock ?_
                  refine Z.nthen ?_
                  refine Z.seq ?_
                  refine Z.drawPK (fun j => j != 8) mixed hs ?_
                  clear hs; intro wd10 hs
                  obtain rfl : k = 4 := by omega
                  refine Z.tXP 0 [0, 6, 7, 8] (fun _ _ _ _ _ h => h) rfl rfl rfl (by rfl) (by kernel_rfl) ⟨_, hs, by first | (simp; done) | exact fun e he => List.mem_append_right _ he⟩ (by first | exact Z.Yd.loadA _ rfl Try.isAgg68 (fun _ => Z.cellsB (by first | ((repeat (first | exact List.mem_cons_self | refine List.mem_cons_of_mem _ ?_ | refine List.mem_append_right _ ?_)); done) | fail)) (by exact Try.sizeOf68) | fail "load 10.0") ?_
                  refine Z.tXP 1 [1, 2, 3, 4, 5, 6, 7, 8] (fun _ _ _ _ _ h => h) rfl rfl rfl (by rfl) (by kernel_rfl) ⟨_, hs, by first | (simp; done) | exact fun e he => List.mem_append_right _ he⟩ (Z.Yd.fieldA (m := 1) rfl (by kernel_rfl)) ?_
                  refine Z.tXP 2 [2, 3, 4, 5, 6, 7, 8] (fun _ _ _ _ _ h => h) rfl rfl rfl (by rfl) (by kernel_rfl) ⟨_, hs, by first | (simp; done) | exact fun e he => List.mem_append_right _ he⟩ (Z.Yd.load rfl Try.isAgg3 (fun _ => Z.cellO hc.1 (by simp) (hc.2 1 _ rfl))) ?_
                  refine Z.tXP 3 [3, 4, 5, 6, 7, 8] (fun _ _ _ _ _ h => h) rfl rfl rfl (by rfl) (by kernel_rfl) ⟨_, hs, by first | (simp; done) | exact fun e he => List.mem_append_right _ he⟩ (Z.Yd.elemA rfl rfl Try.underlying26 Try.sizeOf3 (fun hG => ⟨(by first | omega | (have hG' := Z.gh rfl hG; simp at hG'; omega)), (by first | omega | (have hG' := Z.gh rfl hG; simp at hG'; omega))⟩)) ?_
                  refine Z.tXP 4 [4, 5, 6, 7, 8] (fun _ _ _ _ _ h => h) rfl rfl rfl (by rfl) (by kernel_rfl) ⟨_, hs, by first | (simp; done) | exact fun e he => List.mem_append_right _ he⟩ (Z.Yd.load rfl Try.isAgg3 (fun _ => Z.cellB (cs := r.lvs.toArray) (by first | ((repeat (first | exact List.mem_cons_self | refine List.mem_cons_of_mem _ ?_ | refine List.mem_append_right _ ?_)); done) | fail) hget)) ?_
                  refine Z.tnP 5 rfl rfl (by kernel_rfl) rfl trivial ?_
                  refine Z.ZO.callP rfl rfl rfl Try.call37 rfl (level_bad _ _ (fun h ↦ hr ⟨hg, by rw [if_neg (by simp [hc2])]; exact ⟨hj, h⟩⟩)) ?_
                  rintro c10_5 w10_5 ⟨rfl, hy⟩
                  replace hs := hs.call hy
                  clear hy
                  try simp only [List.cons_append, List.nil_append, List.append_nil] at hs
                  repeat (first | refine Z.pthen ?_ | refine Z.pblock ?_ | refine Z.pscope ?_)
                  -- ret#6
                  refine Z.outp ?_
                  exact ⟨_, rfl, rfl, hs.sub (List.nil_sublist _)⟩
                  )
            )
  · skip
    refine Z.enter Try.func33 rfl Try.ntmps33 rfl rfl ?_
    refine Z.seq ?_
    refine Z.region ?_
    refine Z.le rfl trivial ?_
    refine Z.ZO.alloc rfl rfl (by rfl) Try.zeroValue31 rfl hs ?_
    clear hs; intro g1 w1 hs
    refine Z.lnil ?_
    refine Z.only [0, 1] rfl ?_
    refine Z.nthen ?_
    refine Z.seq ?_
    refine Z.drawPK (fun _ => true) mixed hs ?_
    clear hs; intro wd1 hs
    refine Z.tXP 0 [0, 1, 2, 7, 8] (fun _ _ _ _ _ h => h) rfl rfl rfl (by rfl) (by kernel_rfl) ⟨_, hs, by first | (simp; done) | exact fun e he => List.mem_append_right _ he⟩ (Z.Yd.fieldA (m := 1) rfl (by kernel_rfl)) ?_
    refine Z.tXP 1 [1, 2, 7, 8] (fun _ _ _ _ _ h => h) rfl rfl rfl (by rfl) (by kernel_rfl) ⟨_, hs, by first | (simp; done) | exact fun e he => List.mem_append_right _ he⟩ (Z.Yd.load rfl Try.isAgg3 (fun _ => Z.cellO hc.1 (by simp) (hc.2 1 _ rfl))) ?_
    refine Z.tXP 3 [3, 4, 8] (fun _ _ _ _ _ h => h) rfl rfl rfl (by rfl) (by kernel_rfl) ⟨_, hs, by first | (simp; done) | exact fun e he => List.mem_append_right _ he⟩ (Z.Yd.fieldA (m := 2) rfl (by kernel_rfl)) ?_
    refine Z.tXP 4 [4, 8] (fun _ _ _ _ _ h => h) rfl rfl rfl (by rfl) (by kernel_rfl) ⟨_, hs, by first | (simp; done) | exact fun e he => List.mem_append_right _ he⟩ (Z.Yd.loadA _ rfl Try.isAgg26 (fun _ w' hk j u hu => Z.cellO hc.1 (by simp) (Cel.lvs hc j u hu) w' hk) (by exact Try.sizeOf26)) ?_
    refine Z.forkP [2, 5, 6] rfl (by kernel_rfl) rfl ⟨⟨_, _, rfl, rfl, trivial, ?_⟩, ⟨_, _, rfl, rfl, trivial, ?_⟩, ⟨_, _, rfl, rfl, trivial, ?_⟩, trivial⟩
    · skip
      refine Z.ZO.callP rfl rfl rfl Try.call34 rfl (group_bad r.group _ hg) ?_
      rintro c1_2 w1_2 ⟨rfl, hy⟩
      replace hs := hs.call hy
      clear hy
      try simp only [List.cons_append, List.nil_append, List.append_nil] at hs
      repeat (first | refine Z.pthen ?_ | refine Z.pblock ?_ | refine Z.pscope ?_)
      -- ret#0
      refine Z.outp ?_
      exact ⟨_, rfl, rfl, hs.sub (List.nil_sublist _)⟩
    · skip
      refine Z.ZO.alloc rfl rfl (by rfl) Try.zeroValue68 rfl hs ?_
      clear hs; intro g2 w2 hs
      refine Z.tkP (Dn := fun _ => true) (i := 5) (fun _ => ⟨_, hs, by first | (simp; done) | exact fun e he => List.mem_append_right _ he⟩) ?_
      refine Z.forkP [2, 6] rfl (by kernel_rfl) rfl ⟨⟨_, _, rfl, rfl, trivial, ?_⟩, ⟨_, _, rfl, rfl, trivial, ?_⟩, trivial⟩
      · skip
        refine Z.ZO.callP rfl rfl rfl Try.call34 rfl (group_bad r.group _ hg) ?_
        rintro c1_2 w1_2 ⟨rfl, hy⟩
        replace hs := hs.call hy
        clear hy
        try simp only [List.cons_append, List.nil_append, List.append_nil] at hs
        repeat (first | refine Z.pthen ?_ | refine Z.pblock ?_ | refine Z.pscope ?_)
        -- ret#1
        refine Z.outp ?_
        exact ⟨_, rfl, rfl, hs.sub (List.nil_sublist _)⟩
      · skip
        refine Z.ZO.alloc rfl rfl (by rfl) Try.zeroValue26 rfl hs ?_
        clear hs; intro g3 w3 hs
        refine Z.tkP (Dn := fun _ => true) (i := 6) (fun _ => ⟨_, hs, by first | (simp; done) | exact fun e he => List.mem_append_right _ he⟩) ?_
        refine Z.tnP 2 rfl rfl (by kernel_rfl) rfl trivial ?_
        refine Z.ZO.callP rfl rfl rfl Try.call34 rfl (group_bad r.group _ hg) ?_
        rintro c1_2 w1_2 ⟨rfl, hy⟩
        replace hs := hs.call hy
        clear hy
        try simp only [List.cons_append, List.nil_append, List.append_nil] at hs
        repeat (first | refine Z.pthen ?_ | refine Z.pblock ?_ | refine Z.pscope ?_)
        -- ret#2
        refine Z.outp ?_
        exact ⟨_, rfl, rfl, hs.sub (List.nil_sublist _)⟩
    · skip
      refine Z.ZO.alloc rfl rfl (by rfl) Try.zeroValue26 rfl hs ?_
      clear hs; intro g3 w3 hs
      refine Z.tkP (Dn := fun _ => true) (i := 6) (fun _ => ⟨_, hs, by first | (simp; done) | exact fun e he => List.mem_append_right _ he⟩) ?_
      refine Z.forkP [2, 5] rfl (by kernel_rfl) rfl ⟨⟨_, _, rfl, rfl, trivial, ?_⟩, ⟨_, _, rfl, rfl, trivial, ?_⟩, trivial⟩
      · skip
        refine Z.ZO.callP rfl rfl rfl Try.call34 rfl (group_bad r.group _ hg) ?_
        rintro c1_2 w1_2 ⟨rfl, hy⟩
        replace hs := hs.call hy
        clear hy
        try simp only [List.cons_append, List.nil_append, List.append_nil] at hs
        repeat (first | refine Z.pthen ?_ | refine Z.pblock ?_ | refine Z.pscope ?_)
        -- ret#3
        refine Z.outp ?_
        exact ⟨_, rfl, rfl, hs.sub (List.nil_sublist _)⟩
      · skip
        refine Z.ZO.alloc rfl rfl (by rfl) Try.zeroValue68 rfl hs ?_
        clear hs; intro g2 w2 hs
        refine Z.tkP (Dn := fun _ => true) (i := 5) (fun _ => ⟨_, hs, by first | (simp; done) | exact fun e he => List.mem_append_right _ he⟩) ?_
        refine Z.tnP 2 rfl rfl (by kernel_rfl) rfl trivial ?_
        refine Z.ZO.callP rfl rfl rfl Try.call34 rfl (group_bad r.group _ hg) ?_
        rintro c1_2 w1_2 ⟨rfl, hy⟩
        replace hs := hs.call hy
        clear hy
        try simp only [List.cons_append, List.nil_append, List.append_nil] at hs
        repeat (first | refine Z.pthen ?_ | refine Z.pblock ?_ | refine Z.pscope ?_)
        -- ret#4
        refine Z.outp ?_
        exact ⟨_, rfl, rfl, hs.sub (List.nil_sublist _)⟩
end Go.Proofs.Yteabcdmgklhijaa
