/- Part 4 of the proofs that lead to the statement. -/
import Derived.Test.YtjejdlolgmhljaaY3
import Derived.SizedLaws
import Derived.ScopeJumps
/- Arguments of the chapter's laws, asz they are read. -/
namespace Go.Proofs.Ytjejdlolgmhljaa
open Go.RowKit
set_option linter.unusedSimpArgs false
set_option linter.unusedVariables false

end Go.Proofs.Ytjejdlolgmhljaa

/- FieldOwn. -/
namespace Go.Proofs.Ytjejdlolgmhljaa
open Go.RowKit
set_option linter.unusedSimpArgs false
set_option linter.unusedVariables false

end Go.Proofs.Ytjejdlolgmhljaa

/- Several reads, and back if one fails. -/
namespace Go.Proofs.Ytjejdlolgmhljaa
open Go.RowKit
set_option linter.unusedSimpArgs false
set_option linter.unusedVariables false

end Go.Proofs.Ytjejdlolgmhljaa

/- Several bytes read, and back if one fails. -/
namespace Go.Proofs.Ytjejdlolgmhljaa
open Go.RowKit
set_option linter.unusedSimpArgs false
set_option linter.unusedVariables false

end Go.Proofs.Ytjejdlolgmhljaa

/- The reader: GetAll, GetBytes. -/
namespace Go.Proofs.Ytjejdlolgmhljaa
open Go.RowKit
set_option linter.unusedSimpArgs false
set_option linter.unusedVariables false

end Go.Proofs.Ytjejdlolgmhljaa

/- The law's valid. -/
namespace Go.Proofs.Ytjejdlolgmhljaa
open Go.RowKit
set_option linter.unusedSimpArgs false
set_option linter.unusedVariables false

end Go.Proofs.Ytjejdlolgmhljaa

/- FieldCuts. -/
namespace Go.Proofs.Ytjejdlolgmhljaa
open Go.RowKit
set_option linter.unusedSimpArgs false
set_option linter.unusedVariables false

end Go.Proofs.Ytjejdlolgmhljaa

/- What is written is read back: plain facts. -/
namespace Go.Proofs.Ytjejdlolgmhljaa
open Go.RowKit
set_option linter.unusedSimpArgs false
set_option linter.unusedVariables false

theorem val_fld (v : Nat) : ∀ w, val (fld v w) = v % 2 ^ w := by
  have h : ∀ (bs cs : List Bool), val (bs ++ cs) = val bs * 2 ^ cs.length + val cs := by
    have key : ∀ (cs : List Bool) (a : Nat), cs.foldl (fun v b => 2 * v + b.toNat) a = a * 2 ^ cs.length + cs.foldl (fun v b => 2 * v + b.toNat) 0 := by
      intro cs
      induction cs with
      | nil => intro a; simp
      | cons c cs ih =>
        intro a
        simp only [List.foldl_cons, List.length_cons]
        rw [ih (2 * a + c.toNat), ih (2 * 0 + c.toNat), Nat.pow_succ, Nat.add_mul, Nat.mul_zero, Nat.zero_add, ← Nat.mul_assoc, Nat.mul_comm (a * 2 ^ cs.length) 2, ← Nat.mul_assoc, Nat.add_assoc]
    intro bs cs
    unfold val
    rw [List.foldl_append]
    exact key cs _
  intro w
  induction w with
  | zero => simp [fld, val, Nat.mod_one]
  | succ w ih =>
    have e : fld v (w + 1) = [v.testBit w] ++ fld v w := rfl
    rw [e, h, ih, fld_length]
    have e2 : val [v.testBit w] = (v.testBit w).toNat := by simp [val]
    rw [e2, Nat.toNat_testBit, Nat.pow_succ, Nat.mod_mul]
    rw [Nat.mul_comm (2 ^ w)]
    omega
theorem unb_pk (bs : List Bool) : unb (pk bs) = pad bs := by
  apply List.ext_getElem?
  intro k
  by_cases hk : k < (pk bs).length * 8
  · rw [unb_get hk]
    have hl := pk_length bs
    have e : elt (pk bs) ((k : Int) / 8) = (byt bs (k / 8) : Int) := by
      have := elt_pkn (bs := bs) (m := (bs.length + 7) / 8) (j := k / 8) (by omega)
      rw [← this]
      unfold pk
      congr 1
    rw [e, Int.toNat_natCast]
    have hb : (byt bs (k / 8)).testBit (7 - k % 8) = bt bs k := by
      have hn := bn_le bs
      have hbn : ∀ i, bn bs i = (bt bs i).toNat := fun _ => rfl
      have key : ∀ (b0 b1 b2 b3 b4 b5 b6 b7 : Bool) (r : Nat), r < 8 → (128 * b0.toNat + 64 * b1.toNat + 32 * b2.toNat + 16 * b3.toNat + 8 * b4.toNat + 4 * b5.toNat + 2 * b6.toNat + b7.toNat).testBit (7 - r) = [b0, b1, b2, b3, b4, b5, b6, b7].getD r false := by
        intro b0 b1 b2 b3 b4 b5 b6 b7 r hr
        have h8 : r = 0 ∨ r = 1 ∨ r = 2 ∨ r = 3 ∨ r = 4 ∨ r = 5 ∨ r = 6 ∨ r = 7 := by omega
        rcases h8 with rfl | rfl | rfl | rfl | rfl | rfl | rfl | rfl <;> revert b0 b1 b2 b3 b4 b5 b6 b7 <;> decide
      have := key (bt bs (8 * (k / 8))) (bt bs (8 * (k / 8) + 1)) (bt bs (8 * (k / 8) + 2)) (bt bs (8 * (k / 8) + 3)) (bt bs (8 * (k / 8) + 4)) (bt bs (8 * (k / 8) + 5)) (bt bs (8 * (k / 8) + 6)) (bt bs (8 * (k / 8) + 7)) (k % 8) (by omega)
      unfold byt bn
      rw [this]
      have h8 : k % 8 = 0 ∨ k % 8 = 1 ∨ k % 8 = 2 ∨ k % 8 = 3 ∨ k % 8 = 4 ∨ k % 8 = 5 ∨ k % 8 = 6 ∨ k % 8 = 7 := by omega
      rcases h8 with h | h | h | h | h | h | h | h <;> rw [h] <;> simp <;> congr 1 <;> omega
    rw [hb]
    unfold pad bt
    rw [List.getD_eq_getElem?_getD, List.getElem?_append]
    split
    · rename_i h
      rw [List.getElem?_eq_getElem h]
      rfl
    · rename_i h
      rw [List.getElem?_eq_none (by omega), List.getElem?_replicate, if_pos (by omega)]
      rfl
  · have h1 := unb_length (pk bs)
    have h2 := pad_length bs
    have h3 := pk_length bs
    rw [List.getElem?_eq_none (by omega), List.getElem?_eq_none (by omega)]
end Go.Proofs.Ytjejdlolgmhljaa

/- Numbers out of bytes and bits: plain facts. -/
namespace Go.Proofs.Ytjejdlolgmhljaa
open Go.RowKit
set_option linter.unusedSimpArgs false
set_option linter.unusedVariables false

theorem snoc_ind {α : Type} {p : List α → Prop} (h0 : p []) (h1 : ∀ l x, p l → p (l ++ [x])) (l : List α) : p l := by
  rw [← List.reverse_reverse l]
  induction l.reverse with
  | nil => exact h0
  | cons x r ih => rw [List.reverse_cons]; exact h1 _ _ ih
theorem val_app (a b : List Bool) : val (a ++ b) = val a * 2 ^ b.length + val b := by
  refine snoc_ind (p := fun b => val (a ++ b) = val a * 2 ^ b.length + val b) ?_ (fun b x ih => ?_) b
  · simp [val]
  · rw [← List.append_assoc, val_snoc, ih, val_snoc, List.length_append, List.length_singleton, Nat.pow_succ, ← Nat.mul_assoc]
    omega
/-- bytes asz a number -/
def num (l : List Int) : Int := l.foldl (fun v x => 256 * v + x) 0
theorem num_snoc (l : List Int) (x : Int) : num (l ++ [x]) = 256 * num l + x := by simp [num]
theorem unb_app (a b : List Int) : unb (a ++ b) = unb a ++ unb b := by simp [unb]
theorem val_unb {l : List Int} (hb : ∀ x ∈ l, 0 ≤ x ∧ x < 256) : (val (unb l) : Int) = num l := by
  refine snoc_ind (p := fun l => (∀ x ∈ l, 0 ≤ x ∧ x < 256) → (val (unb l) : Int) = num l) ?_ (fun l x ih hb => ?_) l hb
  · intro _; simp [val, unb, num]
  · have h1 := ih fun y hy => hb y (by simp [hy])
    have hx := hb x (by simp)
    rw [unb_app, val_app, num_snoc, ← h1]
    have e : unb [x] = fld x.toNat 8 := by simp [unb]
    rw [e, fld_length, val_fld]
    have : x.toNat % 2 ^ 8 = x.toNat := Nat.mod_eq_of_lt (by omega)
    rw [this]
    omega
/-- what is written -/
theorem pk_bytes {bs : List Bool} : ∀ x ∈ pk bs, 0 ≤ x ∧ x < 256 := by
  intro x hx
  simp only [pk, pkn, List.mem_map] at hx
  obtain ⟨j, _, rfl⟩ := hx
  have := byt_lt bs j
  omega
theorem pk_num {bs : List Bool} (h : bs.length % 8 = 0) : num (pk bs) = (val bs : Int) := by
  rw [← val_unb pk_bytes, unb_pk]
  unfold pad
  rw [h]
  simp
theorem flat_val {f : Int × Int} {fs : List (Int × Int)} : val ((f :: fs).flatMap fldF) = (f.1.toNat % 2 ^ f.2.toNat) * 2 ^ (fs.flatMap fldF).length + val (fs.flatMap fldF) := by
  rw [List.flatMap_cons, val_app]
  unfold fldF
  rw [val_fld]
end Go.Proofs.Ytjejdlolgmhljaa

/- Control elements: decoding. -/
namespace Go.Proofs.Ytjejdlolgmhljaa
open Go.RowKit
set_option linter.unusedSimpArgs false
set_option linter.unusedVariables false
--newlaws

def Byts (l : List Int) : Prop := ∀ x ∈ l, 0 ≤ x ∧ x < 256
end Go.Proofs.Ytjejdlolgmhljaa

/- Control elements: identities and reports decoded. -/
namespace Go.Proofs.Ytjejdlolgmhljaa
open Go.RowKit
set_option linter.unusedSimpArgs false
set_option linter.unusedVariables false
--newlaws

def isId (lc : Int) : Prop := lc = 27 ∨ lc = 28
instance (lc : Int) : Decidable (isId lc) := inferInstanceAs (Decidable (_ ∨ _))
end Go.Proofs.Ytjejdlolgmhljaa

/- Control elements: reports decoded. -/
namespace Go.Proofs.Ytjejdlolgmhljaa
open Go.RowKit
set_option linter.unusedSimpArgs false
set_option linter.unusedVariables false
--newlaws

/-- a report: long, group, levels -/
structure RepV where
  long : Bool
  group : Int
  a : Int
  b : Int
  c : Int
  d : Int
def RepV.cells (r : RepV) : List Value := [.bool r.long, .int .i64 r.group, .int .i64 r.a, .int .i64 r.b, .int .i64 r.c, .int .i64 r.d]
def RepV.zero : RepV := ⟨false, 0, 0, 0, 0, 0⟩
def RepV.short (g v : Int) : RepV := ⟨false, g, if g = 0 then v else 0, if g = 1 then v else 0, if g = 2 then v else 0, if g = 3 then v else 0⟩
def lcells (x : Nat → Int) (k : Nat) : List Value := [.bool true, .int .i64 0, .int .i64 (if 0 < k then x 0 else 0), .int .i64 (if 1 < k then x 1 else 0), .int .i64 (if 2 < k then x 2 else 0), .int .i64 (if 3 < k then x 3 else 0)]
@[simp] theorem lcells_len (x : Nat → Int) (k : Nat) : (lcells x k).length = 6 := rfl
end Go.Proofs.Ytjejdlolgmhljaa

/- Control elements: encoding. -/
namespace Go.Proofs.Ytjejdlolgmhljaa
open Go.RowKit
set_option linter.unusedSimpArgs false
set_option linter.unusedVariables false
--newlaws

theorem blkLater {w0 w W : World} {M : List Nat} {L L' : List SX.Ent} {g T j : Nat} {cs : Array Value} (hs : SX.St w0 M w L) (hj : L[j]? = some (SX.Ent.blk g T cs)) (hW : SX.St w [] W L') : g < W.heap.size ∧ ∀ i u, cs[i]? = some u → W.cell? ⟨g, i, none⟩ = some u := by
  have hr : w.heap[g]? = some (.cells cs T (0, 0)) := hs.get hj
  have hlt := SX.lt_of_some hr
  exact ⟨Nat.lt_of_lt_of_le hlt hW.size, fun i u hu => (hW.oldcell (p := ⟨g, i, none⟩) hlt (by simp)).trans ((SX.cell_blk hr i).trans hu)⟩
theorem IsPart.of {lc : Int} {l l' : List Int} {v : Value} {w w' : World} (h : IsPart lc l v w w') (e : l = l') : IsPart lc l' v w w' := e ▸ h

/-- the bytes of a headroom -/
theorem pow_bytes (h : Int) (h0 : 0 ≤ h) (h1 : h ≤ 63) : pk ([((0 : Int), (2 : Int)), (h, 6)].flatMap fldF) = [h] := by
  obtain ⟨n, rfl⟩ := Int.eq_ofNat_of_zero_le h0
  have hl : ([((0 : Int), (2 : Int)), ((n : Int), 6)].flatMap fldF).length = 8 := by simp [fldF, fld_length]
  have hp : (pk ([((0 : Int), (2 : Int)), ((n : Int), 6)].flatMap fldF)).length = 1 := by rw [pk_length, hl]
  have hn := pk_num (bs := [((0 : Int), (2 : Int)), ((n : Int), 6)].flatMap fldF) (by rw [hl])
  obtain ⟨x, hx⟩ := list1 hp
  rw [hx] at hn ⊢
  simp only [flat_val, num, List.foldl_cons, List.foldl_nil] at hn
  simp [fldF, fld_length, val] at hn
  simp only [List.cons.injEq, and_true]
  omega
set_option maxRecDepth 100000 in
theorem encpow1_ok (g : Nat) (h : Int) (w : World) (hg : g < w.heap.size) (hc : w.cell? ⟨g, 0, none⟩ = some (.int .i64 h)) (hh : 0 ≤ h ∧ h ≤ 63) :
    Calls Try.prog 50 #[.pointer (some ⟨g, 0, none⟩)] w (SX.Ret fun v w' => IsPart 26 [h] v w w') := by
  have hs := SX.St.start w
  refine Z.enter Try.func50 rfl Try.ntmps50 rfl rfl ?_
  refine Z.seq ?_
  refine Z.region ?_
  refine Z.le rfl trivial ?_
  refine Z.ZO.alloc rfl rfl (by rfl) Try.zeroValue51 rfl hs ?_
  clear hs; intro g1 w1 hs
  refine Z.lnil ?_
  refine Z.only [0, 1] rfl ?_
  refine Z.nthen ?_
  refine Z.seq ?_
  refine Z.drawK (fun j => j != 5) mixed hs ?_
  clear hs; intro wd1 hs
  refine Z.t 1 rfl rfl rfl (by rfl) (by kernel_rfl) ⟨_, hs, by first | (simp; done) | exact fun e he => List.mem_append_right _ he⟩ (Z.Yd.load rfl Try.isAgg3 (fun _ => Z.cellO hg (by simp) hc)) ?_
  refine Z.tn 0 rfl rfl (by kernel_rfl) rfl trivial ?_
  refine Z.ZO.call rfl rfl (by rfl) rfl rfl Try.call45 rfl (group_ok 0 _ (by omega)) ?_
  rintro v1_0 w1_0 ⟨rfl, hy⟩
  replace hs := hs.call hy
  clear hy
  try simp only [List.cons_append, List.nil_append, List.append_nil] at hs
  refine Z.tk (Dn := fun j => j != 5) (i := 0) (fun _ => ⟨_, hs, by first | (simp; done) | exact fun e he => List.mem_append_right _ he⟩) ?_
  refine Z.tn 2 rfl rfl (by kernel_rfl) rfl trivial ?_
  refine Z.ZO.call rfl rfl (by rfl) rfl rfl Try.call48 rfl (level_ok h _ hh) ?_
  rintro v1_2 w1_2 ⟨rfl, hy⟩
  replace hs := hs.call hy
  clear hy
  try simp only [List.cons_append, List.nil_append, List.append_nil] at hs
  refine Z.tk (Dn := fun j => j != 5) (i := 2) (fun _ => ⟨_, hs, by first | (simp; done) | exact fun e he => List.mem_append_right _ he⟩) ?_
  refine Z.tn 3 rfl rfl (by kernel_rfl) rfl trivial ?_
  refine Z.ZO.litL (T' := 88) [(0, 2), (2, 2)] [.int .u64 0, .int .i64 0, .int .u64 0, .int .i64 0] rfl rfl (by rfl) rfl rfl (by intro W; kernel_rfl) hs ?_
  clear hs; intro g5 w5 hs
  refine Z.tk (Dn := fun j => j != 5) (i := 3) (fun _ => ⟨_, hs, by first | (simp; done) | exact fun e he => List.mem_append_right _ he⟩) ?_
  have hsx := Z.blk_lentj (L1 := []) hs (j := 0) rfl
  refine Z.tn 4 rfl rfl (by kernel_rfl) rfl trivial ?_
  refine Z.ZO.call rfl rfl (by rfl) rfl rfl Try.call47 rfl (built_ok 26 _ 2 2 [(0, 2), (h, 6)] _ hsx rfl (by omega) (by simp [GoodF]; omega) (by simp [chkA, chkF, quoF]; omega)) ?_
  rintro v1_4 w1_4 ⟨B, co, rfl, hy⟩
  replace hs := hs.call hy
  clear hy
  try simp only [List.cons_append, List.nil_append, List.append_nil] at hs
  rw [pow_bytes h hh.1 hh.2] at hs ⊢
  refine Z.tk (Dn := fun j => j != 5) (i := 4) (fun _ => ⟨_, hs, by first | (simp; done) | exact fun e he => List.mem_append_right _ he⟩) ?_
  refine Z.tn 5 rfl rfl (by kernel_rfl) rfl trivial ?_
  first | refine Z.ZO.storeA rfl rfl hs rfl rfl (by kernel_rfl) (by first | (simp [Value.oneCell']; done) | (refine Z.all_one ?_; assumption)) (by first | exact SX.at0 | exact SX.at1 | exact SX.at2 | exact SX.at3 | exact SX.at4 | exact SX.at5 | exact Z.at6 | exact Z.at7 | exact Z.at8 | exact Z.at9 | exact Z.at10 | exact Z.at11 | exact Z.at12) (by rfl) ?_ | refine Z.ZO.storeP rfl rfl hs rfl rfl (by kernel_rfl) (by first | (simp [Value.oneCell']; done) | (refine Z.all_one ?_; assumption)) (by first | exact SX.at0 | exact SX.at1 | exact SX.at2 | exact SX.at3 | exact SX.at4 | exact SX.at5 | exact Z.at6 | exact Z.at7 | exact Z.at8 | exact Z.at9 | exact Z.at10 | exact Z.at11 | exact Z.at12) (by first | decide | (simp; done) | (simp; omega)) ?_ | refine Z.ZO.storePR rfl rfl hs rfl rfl (by kernel_rfl) (by first | (simp [Value.oneCell']; done) | (refine Z.all_one ?_; assumption)) (by first | exact SX.at0 | exact SX.at1 | exact SX.at2 | exact SX.at3 | exact SX.at4 | exact SX.at5 | exact Z.at6 | exact Z.at7 | exact Z.at8 | exact Z.at9 | exact Z.at10 | exact Z.at11 | exact Z.at12) (by first | decide | (simp; done) | (simp; omega)) ?_
  clear hs; intro ws hs
  simp only [Nat.zero_add, Nat.add_zero, Nat.reduceAdd, Int.reduceToNat, Nat.reduceMul, List.set_cons_zero, List.set_cons_succ, List.setIfInBounds_toArray] at hs
  try simp only [Z.putL, Nat.zero_add] at hs
  refine Z.tk (Dn := fun j => j != 5) (i := 5) (fun h => absurd h (by decide)) ?_
  refine Z.td (by rfl) (by kernel_rfl) ?_
  refine Z.only [1] rfl ?_
  refine Z.nthen ?_
  refine Z.ret ?_
  -- ret#0
  refine Z.out1 (by exact ⟨⟨_, rfl, Z.rvcA hs Try.isAgg51 (by first | ((repeat (first | exact List.mem_cons_self | refine List.mem_cons_of_mem _ ?_ | refine List.mem_append_right _ ?_)); done) | fail) (by exact Try.sizeOf51)⟩, trivial⟩) ?_
  exact ⟨_, rfl, B, co, rfl, hs.sel [0] (by decide)⟩
/-- n bytes of a number, the great one first -/
def be : Nat → Int → List Int
  | 0, _ => []
  | n + 1, v => be n (v / 256) ++ [v % 256]
@[simp] theorem be_length : ∀ (n : Nat) (v : Int), (be n v).length = n
  | 0, _ => rfl
  | n + 1, v => by simp [be, be_length n]
theorem be_num {l : List Int} (hb : Byts l) : be l.length (num l) = l := by
  refine snoc_ind (p := fun l => Byts l → be l.length (num l) = l) (fun _ => rfl) (fun l x ih hb => ?_) l hb
  have hx := hb x (by simp)
  rw [List.length_append, List.length_singleton, num_snoc]
  show be l.length ((256 * num l + x) / 256) ++ [(256 * num l + x) % 256] = _
  rw [show (256 * num l + x) / 256 = num l from by omega, show (256 * num l + x) % 256 = x from by omega, ih fun y hy => hb y (by simp [hy])]
theorem pk_be {bs : List Bool} {n : Nat} (h : bs.length = 8 * n) : pk bs = be n (val bs) := by
  have h1 := be_num (l := pk bs) pk_bytes
  rw [pk_num (by omega), pk_length, show (bs.length + 7) / 8 = n from by omega] at h1
  exact h1.symm
theorem be_bytes : ∀ (n : Nat) (v : Int), Byts (be n v)
  | 0, _ => by intro x hx; cases hx
  | n + 1, v => by
    intro x hx
    rcases List.mem_append.1 hx with hx | hx
    · exact be_bytes n _ x hx
    · obtain rfl : x = v % 256 := by simpa using hx
      omega
theorem encpow_ok (h : Int) (w : World) (hh : 0 ≤ h ∧ h ≤ 63) :
    Calls Try.prog 36 #[.int .i64 h] w (SX.Ret fun v w' => ∃ u, v = .tuple #[u, .int .i64 0] ∧ IsPart 26 [h] u w w') := by
  have hs := SX.St.start w
  refine Z.enter Try.func36 rfl Try.ntmps36 rfl rfl ?_
  refine Z.seq ?_
  refine Z.region ?_
  refine Z.le rfl trivial ?_
  refine Z.ZO.box rfl rfl (by rfl) rfl rfl hs ?_
  clear hs; intro g1 w1 hs
  refine Z.le rfl trivial ?_
  refine Z.ZO.alloc rfl rfl (by rfl) Try.zeroValue51 rfl hs ?_
  clear hs; intro g2 w2 hs
  refine Z.lb 1 rfl ?_
  refine Z.lnil ?_
  refine Z.only [1, 2] rfl ?_
  refine Z.nthen ?_
  refine Z.seq ?_
  refine Z.region ?_
  refine Z.lb 1 rfl ?_
  have hof : ∀ W L, SX.St w2 [] W L → Calls Try.prog 50 #[.pointer (some ⟨g1, 0, none⟩)] W (SX.Ret fun v w' => IsPart 26 [h] v W w') := fun W L hW => by
    obtain ⟨a1, a2⟩ := blkLater hs (j := 1) rfl hW
    exact encpow1_ok g1 h W a1 (a2 0 _ rfl) hh
  refine Z.le rfl trivial ?_
  refine Z.ZO.call rfl rfl (by rfl) rfl rfl Try.call43 rfl (element_ok _ _ 26 _ _ Try.call50 hof) ?_
  rintro v1_1 w1_1 ⟨u, rfl, B, co, rfl, hy⟩
  replace hs := hs.call hy
  clear hy
  try simp only [List.cons_append, List.nil_append, List.append_nil] at hs
  refine Z.lb 2 rfl ?_
  refine Z.le rfl trivial ?_
  first | refine Z.ZO.storeA rfl rfl hs rfl rfl (by kernel_rfl) (by first | (simp [Value.oneCell']; done) | (refine Z.all_one ?_; assumption)) (by first | exact SX.at0 | exact SX.at1 | exact SX.at2 | exact SX.at3 | exact SX.at4 | exact SX.at5 | exact Z.at6 | exact Z.at7 | exact Z.at8 | exact Z.at9 | exact Z.at10 | exact Z.at11 | exact Z.at12) (by rfl) ?_ | refine Z.ZO.storeP rfl rfl hs rfl rfl (by kernel_rfl) (by first | (simp [Value.oneCell']; done) | (refine Z.all_one ?_; assumption)) (by first | exact SX.at0 | exact SX.at1 | exact SX.at2 | exact SX.at3 | exact SX.at4 | exact SX.at5 | exact Z.at6 | exact Z.at7 | exact Z.at8 | exact Z.at9 | exact Z.at10 | exact Z.at11 | exact Z.at12) (by first | decide | (simp; done) | (simp; omega)) ?_ | refine Z.ZO.storePR rfl rfl hs rfl rfl (by kernel_rfl) (by first | (simp [Value.oneCell']; done) | (refine Z.all_one ?_; assumption)) (by first | exact SX.at0 | exact SX.at1 | exact SX.at2 | exact SX.at3 | exact SX.at4 | exact SX.at5 | exact Z.at6 | exact Z.at7 | exact Z.at8 | exact Z.at9 | exact Z.at10 | exact Z.at11 | exact Z.at12) (by first | decide | (simp; done) | (simp; omega)) ?_
  clear hs; intro ws hs
  simp only [Nat.zero_add, Nat.add_zero, Nat.reduceAdd, Int.reduceToNat, Nat.reduceMul, List.set_cons_zero, List.set_cons_succ, List.setIfInBounds_toArray] at hs
  try simp only [Z.putL, Nat.zero_add] at hs
  refine Z.lb 1 rfl ?_
  refine Z.lnil ?_
  refine Z.only [2, 3] rfl ?_
  refine Z.nthen ?_
  refine Z.ret ?_
  -- ret#0
  refine Z.out2 (by exact ⟨⟨_, rfl, Z.rvcA hs Try.isAgg51 (by first | ((repeat (first | exact List.mem_cons_self | refine List.mem_cons_of_mem _ ?_ | refine List.mem_append_right _ ?_)); done) | fail) (by exact Try.sizeOf51)⟩, rfl, trivial⟩) ?_
  exact ⟨_, rfl, _, rfl, B, co, rfl, hs.sel [0] (by decide)⟩
end Go.Proofs.Ytjejdlolgmhljaa

/- Control elements: reports encoded. -/
namespace Go.Proofs.Ytjejdlolgmhljaa
open Go.RowKit
set_option linter.unusedSimpArgs false
set_option linter.unusedVariables false
--newlaws

def RepV.lv (r : RepV) : Nat → Int
  | 0 => r.a
  | 1 => r.b
  | 2 => r.c
  | _ => r.d
def okL (x : Int) : Prop := 0 ≤ x ∧ x ≤ 63
instance (x : Int) : Decidable (okL x) := inferInstanceAs (Decidable (_ ∧ _))
/-- a report that can be encoded -/
def RepV.ok (r : RepV) : Prop := (0 ≤ r.group ∧ r.group ≤ 3) ∧ (if r.long = true then r.group = 0 ∧ okL r.a ∧ okL r.b ∧ okL r.c ∧ okL r.d else (∀ k : Nat, k < 4 → r.lv k = 0 ∨ (k : Int) = r.group) ∧ okL (r.lv r.group.toNat))
abbrev RepV.lvs (r : RepV) : List Value := [.int .i64 r.a, .int .i64 r.b, .int .i64 r.c, .int .i64 r.d]
theorem Cel.lvs {w : World} {g : Nat} {r : RepV} (h : Cel w g r.cells) : ∀ (j : Nat) (u : Value), r.lvs[j]? = some u → w.cell? ⟨g, 0 + 2 + j, none⟩ = some u := fun j u hu => by
  refine h.2 _ u ?_
  show (_ :: _ :: r.lvs)[0 + 2 + j]? = some u
  rw [show 0 + 2 + j = j + 1 + 1 from by omega]
  exact hu
theorem lvs_get (r : RepV) (k : Nat) (hk : k < 4) : r.lvs.toArray[k]? = some (.int .i64 (r.lv k)) := by
  have : k = 0 ∨ k = 1 ∨ k = 2 ∨ k = 3 := by omega
  rcases this with rfl | rfl | rfl | rfl <;> rfl
theorem lvs_nth (r : RepV) (k : Nat) (hk : k < 4) : Z.nth r.lvs k = some (.int .i64 (r.lv k)) := by
  have : k = 0 ∨ k = 1 ∨ k = 2 ∨ k = 3 := by omega
  rcases this with rfl | rfl | rfl | rfl <;> rfl
theorem long_bytes (r : RepV) (ha : okL r.a) (hb : okL r.b) (hc : okL r.c) (hd : okL r.d) : pk ([(r.a, (6 : Int)), (r.b, 6), (r.c, 6), (r.d, 6)].flatMap fldF) = be 3 (((r.a * 64 + r.b) * 64 + r.c) * 64 + r.d) := by
  unfold okL at *
  obtain ⟨a, hA⟩ := Int.eq_ofNat_of_zero_le ha.1
  obtain ⟨b, hB⟩ := Int.eq_ofNat_of_zero_le hb.1
  obtain ⟨c, hC⟩ := Int.eq_ofNat_of_zero_le hc.1
  obtain ⟨d, hD⟩ := Int.eq_ofNat_of_zero_le hd.1
  rw [pk_be (n := 3) (by simp [fldF, fld_length]), hA, hB, hC, hD]
  congr 1
  simp only [flat_val]
  simp [fldF, fld_length, val]
  omega
theorem short_bytes (g v : Int) (hg : 0 ≤ g ∧ g ≤ 3) (hv : okL v) : pk ([(g, (2 : Int)), (v, 6)].flatMap fldF) = [64 * g + v] := by
  unfold okL at *
  obtain ⟨a, rfl⟩ := Int.eq_ofNat_of_zero_le hg.1
  obtain ⟨b, rfl⟩ := Int.eq_ofNat_of_zero_le hv.1
  rw [pk_be (n := 1) (by simp [fldF, fld_length])]
  simp only [flat_val, be, List.nil_append]
  simp [fldF, fld_length, val]
  omega
theorem okF {v wd : Int} (hv : 0 ≤ v) (hw : 0 ≤ wd ∧ wd ≤ 8) (h : v < 2 ^ wd.toNat) : GoodF (v, wd) ∧ chkF (v, wd) = 0 := by
  obtain ⟨n, rfl⟩ := Int.eq_ofNat_of_zero_le hv
  have h1 : n < 2 ^ wd.toNat := by
    have : ((2 : Int) ^ wd.toNat) = ((2 ^ wd.toNat : Nat) : Int) := by rw [Int.natCast_pow]; rfl
    omega
  have h2 : 2 ^ wd.toNat ≤ 2 ^ 8 := Nat.pow_le_pow_right (by decide) (by omega)
  have h3 : (2 : Nat) ^ 8 = 256 := by decide
  refine ⟨by unfold GoodF; simp only; omega, ?_⟩
  unfold chkF quoF
  rw [if_neg (by simp only; omega), if_pos (by simpa using Nat.div_eq_of_lt h1)]

def encL (r : RepV) : List Int := if r.long = true then be 3 (((r.a * 64 + r.b) * 64 + r.c) * 64 + r.d) else [64 * r.group + r.lv r.group.toNat]
def encLc (r : RepV) : Int := if r.long = true then 30 else 29
set_option maxRecDepth 100000 in
theorem encrep1_long (g : Nat) (r : RepV) (w : World) (hc : Cel w g r.cells) (hr : r.ok) (hl : r.long = true) :
    Calls Try.prog 44 #[.pointer (some ⟨g, 0, none⟩)] w (SX.Ret fun v w' => IsPart 30 (be 3 (((r.a * 64 + r.b) * 64 + r.c) * 64 + r.d)) v w w') := by
  have hs := SX.St.start w
  obtain ⟨hg, hr⟩ := hr
  rw [if_pos hl] at hr
  obtain ⟨h0, ha, hb, hcc, hd⟩ := hr
  have fa := okF (v := r.a) (wd := 6) ha.1 (by omega) (by have := ha.2; simp; omega)
  have fb := okF (v := r.b) (wd := 6) hb.1 (by omega) (by have := hb.2; simp; omega)
  have fc := okF (v := r.c) (wd := 6) hcc.1 (by omega) (by have := hcc.2; simp; omega)
  have fd := okF (v := r.d) (wd := 6) hd.1 (by omega) (by have := hd.2; simp; omega)
  refine Z.enter Try.func44 rfl Try.ntmps44 rfl rfl ?_
  refine Z.seq ?_
  refine Z.region ?_
  refine Z.le rfl trivial ?_
  refine Z.ZO.alloc rfl rfl (by rfl) Try.zeroValue51 rfl hs ?_
  clear hs; intro g1 w1 hs
  refine Z.lnil ?_
  refine Z.only [0, 1] rfl ?_
  refine Z.nthen ?_
  refine Z.seq ?_
  refine Z.cutt (ι := Nat × Nat) [0, 1] rfl (fun x => [(2, [], .pointer (some ⟨x.1, 0, none⟩)), (3, [], .pointer (some ⟨x.2, 0, none⟩))]) (fun x wr => SX.St w [] wr [SX.Ent.blk x.2 22 r.lvs.toArray, SX.Ent.blk x.1 88 #[.int .u64 r.group, .int .i64 2], SX.Ent.blk g1 51 #[.int .i64 0, .slice none 0 0]]) ?_ ?_
  · skip
    refine Z.drawK (fun _ => true) mixed hs ?_
    clear hs; intro wd1 hs
    refine Z.t 0 rfl rfl rfl (by rfl) (by kernel_rfl) ⟨_, hs, by first | (simp; done) | exact fun e he => List.mem_append_right _ he⟩ (Z.Yd.fieldA (m := 1) rfl (by kernel_rfl)) ?_
    refine Z.t 1 rfl rfl rfl (by rfl) (by kernel_rfl) ⟨_, hs, by first | (simp; done) | exact fun e he => List.mem_append_right _ he⟩ (Z.Yd.load rfl Try.isAgg3 (fun _ => Z.cellO hc.1 (by simp) (hc.2 1 _ rfl))) ?_
    refine Z.t 3 rfl rfl rfl (by rfl) (by kernel_rfl) ⟨_, hs, by first | (simp; done) | exact fun e he => List.mem_append_right _ he⟩ (Z.Yd.fieldA (m := 2) rfl (by kernel_rfl)) ?_
    refine Z.t 4 rfl rfl rfl (by rfl) (by kernel_rfl) ⟨_, hs, by first | (simp; done) | exact fun e he => List.mem_append_right _ he⟩ (Z.Yd.loadA _ rfl Try.isAgg22 (fun _ w' hk j u hu => Z.cellO hc.1 (by simp) (Cel.lvs hc j u hu) w' hk) (by exact Try.sizeOf22)) ?_
    refine Z.forkD [2, 5, 6] rfl (by kernel_rfl) rfl ⟨⟨_, _, rfl, rfl, trivial, ?_⟩, ⟨_, _, rfl, rfl, trivial, ?_⟩, ⟨_, _, rfl, rfl, trivial, ?_⟩, trivial⟩
    · skip
      refine Z.ZO.call rfl rfl (by rfl) rfl rfl Try.call45 rfl (group_ok r.group _ hg) ?_
      rintro v1_2 w1_2 ⟨rfl, hy⟩
      replace hs := hs.call hy
      clear hy
      try simp only [List.cons_append, List.nil_append, List.append_nil] at hs
      refine Z.tk (Dn := fun _ => true) (i := 2) (fun _ => ⟨_, hs, by first | (simp; done) | exact fun e he => List.mem_append_right _ he⟩) ?_
      refine Z.fork2 5 6 rfl rfl rfl (by kernel_rfl) rfl rfl trivial trivial ?_ ?_
      · skip
        refine Z.ZO.alloc rfl rfl (by rfl) Try.zeroValue88 rfl hs ?_
        clear hs; intro g2 w2 hs
        refine Z.tk (Dn := fun _ => true) (i := 5) (fun _ => ⟨_, hs, by first | (simp; done) | exact fun e he => List.mem_append_right _ he⟩) ?_
        refine Z.tn 6 rfl rfl (by kernel_rfl) rfl trivial ?_
        refine Z.ZO.alloc rfl rfl (by rfl) Try.zeroValue22 rfl hs ?_
        clear hs; intro g3 w3 hs
        refine Z.tk (Dn := fun _ => true) (i := 6) (fun _ => ⟨_, hs, by first | (simp; done) | exact fun e he => List.mem_append_right _ he⟩) ?_
        refine Z.tn 7 rfl rfl (by kernel_rfl) rfl trivial ?_
        first | refine Z.ZO.storeA rfl rfl hs rfl rfl (by kernel_rfl) (by first | (simp [Value.oneCell']; done) | (refine Z.all_one ?_; assumption)) (by first | exact SX.at0 | exact SX.at1 | exact SX.at2 | exact SX.at3 | exact SX.at4 | exact SX.at5 | exact Z.at6 | exact Z.at7 | exact Z.at8 | exact Z.at9 | exact Z.at10 | exact Z.at11 | exact Z.at12) (by rfl) ?_ | refine Z.ZO.storeP rfl rfl hs rfl rfl (by kernel_rfl) (by first | (simp [Value.oneCell']; done) | (refine Z.all_one ?_; assumption)) (by first | exact SX.at0 | exact SX.at1 | exact SX.at2 | exact SX.at3 | exact SX.at4 | exact SX.at5 | exact Z.at6 | exact Z.at7 | exact Z.at8 | exact Z.at9 | exact Z.at10 | exact Z.at11 | exact Z.at12) (by first | decide | (simp; done) | (simp; omega)) ?_ | refine Z.ZO.storePR rfl rfl hs rfl rfl (by kernel_rfl) (by first | (simp [Value.oneCell']; done) | (refine Z.all_one ?_; assumption)) (by first | exact SX.at0 | exact SX.at1 | exact SX.at2 | exact SX.at3 | exact SX.at4 | exact SX.at5 | exact Z.at6 | exact Z.at7 | exact Z.at8 | exact Z.at9 | exact Z.at10 | exact Z.at11 | exact Z.at12) (by first | decide | (simp; done) | (simp; omega)) ?_
        clear hs; intro ws hs
        simp only [Nat.zero_add, Nat.add_zero, Nat.reduceAdd, Int.reduceToNat, Nat.reduceMul, List.set_cons_zero, List.set_cons_succ, List.setIfInBounds_toArray] at hs
        try simp only [Z.putL, Nat.zero_add] at hs
        refine Z.tk (Dn := fun _ => true) (i := 7) (fun _ => ⟨_, hs, by first | (simp; done) | exact fun e he => List.mem_append_right _ he⟩) ?_
        refine Z.tn 8 rfl rfl (by kernel_rfl) rfl trivial ?_
        first | refine Z.ZO.storeA rfl rfl hs rfl rfl (by kernel_rfl) (by first | (simp [Value.oneCell']; done) | (refine Z.all_one ?_; assumption)) (by first | exact SX.at0 | exact SX.at1 | exact SX.at2 | exact SX.at3 | exact SX.at4 | exact SX.at5 | exact Z.at6 | exact Z.at7 | exact Z.at8 | exact Z.at9 | exact Z.at10 | exact Z.at11 | exact Z.at12) (by rfl) ?_ | refine Z.ZO.storeP rfl rfl hs rfl rfl (by kernel_rfl) (by first | (simp [Value.oneCell']; done) | (refine Z.all_one ?_; assumption)) (by first | exact SX.at0 | exact SX.at1 | exact SX.at2 | exact SX.at3 | exact SX.at4 | exact SX.at5 | exact Z.at6 | exact Z.at7 | exact Z.at8 | exact Z.at9 | exact Z.at10 | exact Z.at11 | exact Z.at12) (by first | decide | (simp; done) | (simp; omega)) ?_ | refine Z.ZO.storePR rfl rfl hs rfl rfl (by kernel_rfl) (by first | (simp [Value.oneCell']; done) | (refine Z.all_one ?_; assumption)) (by first | exact SX.at0 | exact SX.at1 | exact SX.at2 | exact SX.at3 | exact SX.at4 | exact SX.at5 | exact Z.at6 | exact Z.at7 | exact Z.at8 | exact Z.at9 | exact Z.at10 | exact Z.at11 | exact Z.at12) (by first | decide | (simp; done) | (simp; omega)) ?_
        clear hs; intro ws hs
        simp only [Nat.zero_add, Nat.add_zero, Nat.reduceAdd, Int.reduceToNat, Nat.reduceMul, List.set_cons_zero, List.set_cons_succ, List.setIfInBounds_toArray] at hs
        try simp only [Z.putL, Nat.zero_add] at hs
        refine Z.tk (Dn := fun _ => true) (i := 8) (fun _ => ⟨_, hs, by first | (simp; done) | exact fun e he => List.mem_append_right _ he⟩) ?_
        refine Z.td (by rfl) (by kernel_rfl) ?_
        refine Z.only [0, 1, 2, 3] rfl ?_
        refine Z.nthen ?_
        exact Z.meet (g2, g3) (by refine ⟨?_, ?_, ?_, ?_, trivial⟩ <;> (first | rfl | (refine Z.lookv rfl ?_; simp; done) | (refine Z.lookv rfl ?_; simp; omega))) (by first | exact hs | exact hs.sel [1, 0, 2] (by decide))
      · skip
        refine Z.ZO.alloc rfl rfl (by rfl) Try.zeroValue22 rfl hs ?_
        clear hs; intro g3 w3 hs
        refine Z.tk (Dn := fun _ => true) (i := 6) (fun _ => ⟨_, hs, by first | (simp; done) | exact fun e he => List.mem_append_right _ he⟩) ?_
        refine Z.tn 5 rfl rfl (by kernel_rfl) rfl trivial ?_
        refine Z.ZO.alloc rfl rfl (by rfl) Try.zeroValue88 rfl hs ?_
        clear hs; intro g2 w2 hs
        refine Z.tk (Dn := fun _ => true) (i := 5) (fun _ => ⟨_, hs, by first | (simp; done) | exact fun e he => List.mem_append_right _ he⟩) ?_
        refine Z.tn 7 rfl rfl (by kernel_rfl) rfl trivial ?_
        first | refine Z.ZO.storeA rfl rfl hs rfl rfl (by kernel_rfl) (by first | (simp [Value.oneCell']; done) | (refine Z.all_one ?_; assumption)) (by first | exact SX.at0 | exact SX.at1 | exact SX.at2 | exact SX.at3 | exact SX.at4 | exact SX.at5 | exact Z.at6 | exact Z.at7 | exact Z.at8 | exact Z.at9 | exact Z.at10 | exact Z.at11 | exact Z.at12) (by rfl) ?_ | refine Z.ZO.storeP rfl rfl hs rfl rfl (by kernel_rfl) (by first | (simp [Value.oneCell']; done) | (refine Z.all_one ?_; assumption)) (by first | exact SX.at0 | exact SX.at1 | exact SX.at2 | exact SX.at3 | exact SX.at4 | exact SX.at5 | exact Z.at6 | exact Z.at7 | exact Z.at8 | exact Z.at9 | exact Z.at10 | exact Z.at11 | exact Z.at12) (by first | decide | (simp; done) | (simp; omega)) ?_ | refine Z.ZO.storePR rfl rfl hs rfl rfl (by kernel_rfl) (by first | (simp [Value.oneCell']; done) | (refine Z.all_one ?_; assumption)) (by first | exact SX.at0 | exact SX.at1 | exact SX.at2 | exact SX.at3 | exact SX.at4 | exact SX.at5 | exact Z.at6 | exact Z.at7 | exact Z.at8 | exact Z.at9 | exact Z.at10 | exact Z.at11 | exact Z.at12) (by first | decide | (simp; done) | (simp; omega)) ?_
        clear hs; intro ws hs
        simp only [Nat.zero_add, Nat.add_zero, Nat.reduceAdd, Int.reduceToNat, Nat.reduceMul, List.set_cons_zero, List.set_cons_succ, List.setIfInBounds_toArray] at hs
        try simp only [Z.putL, Nat.zero_add] at hs
        refine Z.tk (Dn := fun _ => true) (i := 7) (fun _ => ⟨_, hs, by first | (simp; done) | exact fun e he => List.mem_append_right _ he⟩) ?_
        refine Z.tn 8 rfl rfl (by kernel_rfl) rfl trivial ?_
        first | refine Z.ZO.storeA rfl rfl hs rfl rfl (by kernel_rfl) (by first | (simp [Value.oneCell']; done) | (refine Z.all_one ?_; assumption)) (by first | exact SX.at0 | exact SX.at1 | exact SX.at2 | exact SX.at3 | exact SX.at4 | exact SX.at5 | exact Z.at6 | exact Z.at7 | exact Z.at8 | exact Z.at9 | exact Z.at10 | exact Z.at11 | exact Z.at12) (by rfl) ?_ | refine Z.ZO.storeP rfl rfl hs rfl rfl (by kernel_rfl) (by first | (simp [Value.oneCell']; done) | (refine Z.all_one ?_; assumption)) (by first | exact SX.at0 | exact SX.at1 | exact SX.at2 | exact SX.at3 | exact SX.at4 | exact SX.at5 | exact Z.at6 | exact Z.at7 | exact Z.at8 | exact Z.at9 | exact Z.at10 | exact Z.at11 | exact Z.at12) (by first | decide | (simp; done) | (simp; omega)) ?_ | refine Z.ZO.storePR rfl rfl hs rfl rfl (by kernel_rfl) (by first | (simp [Value.oneCell']; done) | (refine Z.all_one ?_; assumption)) (by first | exact SX.at0 | exact SX.at1 | exact SX.at2 | exact SX.at3 | exact SX.at4 | exact SX.at5 | exact Z.at6 | exact Z.at7 | exact Z.at8 | exact Z.at9 | exact Z.at10 | exact Z.at11 | exact Z.at12) (by first | decide | (simp; done) | (simp; omega)) ?_
        clear hs; intro ws hs
        simp only [Nat.zero_add, Nat.add_zero, Nat.reduceAdd, Int.reduceToNat, Nat.reduceMul, List.set_cons_zero, List.set_cons_succ, List.setIfInBounds_toArray] at hs
        try simp only [Z.putL, Nat.zero_add] at hs
        refine Z.tk (Dn := fun _ => true) (i := 8) (fun _ => ⟨_, hs, by first | (simp; done) | exact fun e he => List.mem_append_right _ he⟩) ?_
        refine Z.td (by rfl) (by kernel_rfl) ?_
        refine Z.only [0, 1, 2, 3] rfl ?_
        refine Z.nthen ?_
        exact Z.meet (g2, g3) (by refine ⟨?_, ?_, ?_, ?_, trivial⟩ <;> (first | rfl | (refine Z.lookv rfl ?_; simp; done) | (refine Z.lookv rfl ?_; simp; omega))) (by first | exact hs | exact hs.sel [1, 0, 2] (by decide))
    · skip
      refine Z.ZO.alloc rfl rfl (by rfl) Try.zeroValue88 rfl hs ?_
      clear hs; intro g2 w2 hs
      refine Z.tk (Dn := fun _ => true) (i := 5) (fun _ => ⟨_, hs, by first | (simp; done) | exact fun e he => List.mem_append_right _ he⟩) ?_
      refine Z.fork2 2 6 rfl rfl rfl (by kernel_rfl) rfl rfl trivial trivial ?_ ?_
      · skip
        refine Z.ZO.call rfl rfl (by rfl) rfl rfl Try.call45 rfl (group_ok r.group _ hg) ?_
        rintro v1_2 w1_2 ⟨rfl, hy⟩
        replace hs := hs.call hy
        clear hy
        try simp only [List.cons_append, List.nil_append, List.append_nil] at hs
        refine Z.tk (Dn := fun _ => true) (i := 2) (fun _ => ⟨_, hs, by first | (simp; done) | exact fun e he => List.mem_append_right _ he⟩) ?_
        refine Z.tn 6 rfl rfl (by kernel_rfl) rfl trivial ?_
        refine Z.ZO.alloc rfl rfl (by rfl) Try.zeroValue22 rfl hs ?_
        clear hs; intro g3 w3 hs
        refine Z.tk (Dn := fun _ => true) (i := 6) (fun _ => ⟨_, hs, by first | (simp; done) | exact fun e he => List.mem_append_right _ he⟩) ?_
        refine Z.tn 7 rfl rfl (by kernel_rfl) rfl trivial ?_
        first | refine Z.ZO.storeA rfl rfl hs rfl rfl (by kernel_rfl) (by first | (simp [Value.oneCell']; done) | (refine Z.all_one ?_; assumption)) (by first | exact SX.at0 | exact SX.at1 | exact SX.at2 | exact SX.at3 | exact SX.at4 | exact SX.at5 | exact Z.at6 | exact Z.at7 | exact Z.at8 | exact Z.at9 | exact Z.at10 | exact Z.at11 | exact Z.at12) (by rfl) ?_ | refine Z.ZO.storeP rfl rfl hs rfl rfl (by kernel_rfl) (by first | (simp [Value.oneCell']; done) | (refine Z.all_one ?_; assumption)) (by first | exact SX.at0 | exact SX.at1 | exact SX.at2 | exact SX.at3 | exact SX.at4 | exact SX.at5 | exact Z.at6 | exact Z.at7 | exact Z.at8 | exact Z.at9 | exact Z.at10 | exact Z.at11 | exact Z.at12) (by first | decide | (simp; done) | (simp; omega)) ?_ | refine Z.ZO.storePR rfl rfl hs rfl rfl (by kernel_rfl) (by first | (simp [Value.oneCell']; done) | (refine Z.all_one ?_; assumption)) (by first | exact SX.at0 | exact SX.at1 | exact SX.at2 | exact SX.at3 | exact SX.at4 | exact SX.at5 | exact Z.at6 | exact Z.at7 | exact Z.at8 | exact Z.at9 | exact Z.at10 | exact Z.at11 | exact Z.at12) (by first | decide | (simp; done) | (simp; omega)) ?_
        clear hs; intro ws hs
        simp only [Nat.zero_add, Nat.add_zero, Nat.reduceAdd, Int.reduceToNat, Nat.reduceMul, List.set_cons_zero, List.set_cons_succ, List.setIfInBounds_toArray] at hs
        try simp only [Z.putL, Nat.zero_add] at hs
        refine Z.tk (Dn := fun _ => true) (i := 7) (fun _ => ⟨_, hs, by first | (simp; done) | exact fun e he => List.mem_append_right _ he⟩) ?_
        refine Z.tn 8 rfl rfl (by kernel_rfl) rfl trivial ?_
        first | refine Z.ZO.storeA rfl rfl hs rfl rfl (by kernel_rfl) (by first | (simp [Value.oneCell']; done) | (refine Z.all_one ?_; assumption)) (by first | exact SX.at0 | exact SX.at1 | exact SX.at2 | exact SX.at3 | exact SX.at4 | exact SX.at5 | exact Z.at6 | exact Z.at7 | exact Z.at8 | exact Z.at9 | exact Z.at10 | exact Z.at11 | exact Z.at12) (by rfl) ?_ | refine Z.ZO.storeP rfl rfl hs rfl rfl (by kernel_rfl) (by first | (simp [Value.oneCell']; done) | (refine Z.all_one ?_; assumption)) (by first | exact SX.at0 | exact SX.at1 | exact SX.at2 | exact SX.at3 | exact SX.at4 | exact SX.at5 | exact Z.at6 | exact Z.at7 | exact Z.at8 | exact Z.at9 | exact Z.at10 | exact Z.at11 | exact Z.at12) (by first | decide | (simp; done) | (simp; omega)) ?_ | refine Z.ZO.storePR rfl rfl hs rfl rfl (by kernel_rfl) (by first | (simp [Value.oneCell']; done) | (refine Z.all_one ?_; assumption)) (by first | exact SX.at0 | exact SX.at1 | exact SX.at2 | exact SX.at3 | exact SX.at4 | exact SX.at5 | exact Z.at6 | exact Z.at7 | exact Z.at8 | exact Z.at9 | exact Z.at10 | exact Z.at11 | exact Z.at12) (by first | decide | (simp; done) | (simp; omega)) ?_
        clear hs; intro ws hs
        simp only [Nat.zero_add, Nat.add_zero, Nat.reduceAdd, Int.reduceToNat, Nat.reduceMul, List.set_cons_zero, List.set_cons_succ, List.setIfInBounds_toArray] at hs
        try simp only [Z.putL, Nat.zero_add] at hs
        refine Z.tk (Dn := fun _ => true) (i := 8) (fun _ => ⟨_, hs, by first | (simp; done) | exact fun e he => List.mem_append_right _ he⟩) ?_
        refine Z.td (by rfl) (by kernel_rfl) ?_
        refine Z.only [0, 1, 2, 3] rfl ?_
        refine Z.nthen ?_
        exact Z.meet (g2, g3) (by refine ⟨?_, ?_, ?_, ?_, trivial⟩ <;> (first | rfl | (refine Z.lookv rfl ?_; simp; done) | (refine Z.lookv rfl ?_; simp; omega))) (by first | exact hs | exact hs.sel [1, 0, 2] (by decide))
      · skip
        refine Z.ZO.alloc rfl rfl (by rfl) Try.zeroValue22 rfl hs ?_
        clear hs; intro g3 w3 hs
        refine Z.tk (Dn := fun _ => true) (i := 6) (fun _ => ⟨_, hs, by first | (simp; done) | exact fun e he => List.mem_append_right _ he⟩) ?_
        refine Z.tn 2 rfl rfl (by kernel_rfl) rfl trivial ?_
        refine Z.ZO.call rfl rfl (by rfl) rfl rfl Try.call45 rfl (group_ok r.group _ hg) ?_
        rintro v1_2 w1_2 ⟨rfl, hy⟩
        replace hs := hs.call hy
        clear hy
        try simp only [List.cons_append, List.nil_append, List.append_nil] at hs
        refine Z.tk (Dn := fun _ => true) (i := 2) (fun _ => ⟨_, hs, by first | (simp; done) | exact fun e he => List.mem_append_right _ he⟩) ?_
        refine Z.tn 7 rfl rfl (by kernel_rfl) rfl trivial ?_
        first | refine Z.ZO.storeA rfl rfl hs rfl rfl (by kernel_rfl) (by first | (simp [Value.oneCell']; done) | (refine Z.all_one ?_; assumption)) (by first | exact SX.at0 | exact SX.at1 | exact SX.at2 | exact SX.at3 | exact SX.at4 | exact SX.at5 | exact Z.at6 | exact Z.at7 | exact Z.at8 | exact Z.at9 | exact Z.at10 | exact Z.at11 | exact Z.at12) (by rfl) ?_ | refine Z.ZO.storeP rfl rfl hs rfl rfl (by kernel_rfl) (by first | (simp [Value.oneCell']; done) | (refine Z.all_one ?_; assumption)) (by first | exact SX.at0 | exact SX.at1 | exact SX.at2 | exact SX.at3 | exact SX.at4 | exact SX.at5 | exact Z.at6 | exact Z.at7 | exact Z.at8 | exact Z.at9 | exact Z.at10 | exact Z.at11 | exact Z.at12) (by first | decide | (simp; done) | (simp; omega)) ?_ | refine Z.ZO.storePR rfl rfl hs rfl rfl (by kernel_rfl) (by first | (simp [Value.oneCell']; done) | (refine Z.all_one ?_; assumption)) (by first | exact SX.at0 | exact SX.at1 | exact SX.at2 | exact SX.at3 | exact SX.at4 | exact SX.at5 | exact Z.at6 | exact Z.at7 | exact Z.at8 | exact Z.at9 | exact Z.at10 | exact Z.at11 | exact Z.at12) (by first | decide | (simp; done) | (simp; omega)) ?_
        clear hs; intro ws hs
        simp only [Nat.zero_add, Nat.add_zero, Nat.reduceAdd, Int.reduceToNat, Nat.reduceMul, List.set_cons_zero, List.set_cons_succ, List.setIfInBounds_toArray] at hs
        try simp only [Z.putL, Nat.zero_add] at hs
        refine Z.tk (Dn := fun _ => true) (i := 7) (fun _ => ⟨_, hs, by first | (simp; done) | exact fun e he => List.mem_append_right _ he⟩) ?_
        refine Z.tn 8 rfl rfl (by kernel_rfl) rfl trivial ?_
        first | refine Z.ZO.storeA rfl rfl hs rfl rfl (by kernel_rfl) (by first | (simp [Value.oneCell']; done) | (refine Z.all_one ?_; assumption)) (by first | exact SX.at0 | exact SX.at1 | exact SX.at2 | exact SX.at3 | exact SX.at4 | exact SX.at5 | exact Z.at6 | exact Z.at7 | exact Z.at8 | exact Z.at9 | exact Z.at10 | exact Z.at11 | exact Z.at12) (by rfl) ?_ | refine Z.ZO.storeP rfl rfl hs rfl rfl (by kernel_rfl) (by first | (simp [Value.oneCell']; done) | (refine Z.all_one ?_; assumption)) (by first | exact SX.at0 | exact SX.at1 | exact SX.at2 | exact SX.at3 | exact SX.at4 | exact SX.at5 | exact Z.at6 | exact Z.at7 | exact Z.at8 | exact Z.at9 | exact Z.at10 | exact Z.at11 | exact Z.at12) (by first | decide | (simp; done) | (simp; omega)) ?_ | refine Z.ZO.storePR rfl rfl hs rfl rfl (by kernel_rfl) (by first | (simp [Value.oneCell']; done) | (refine Z.all_one ?_; assumption)) (by first | exact SX.at0 | exact SX.at1 | exact SX.at2 | exact SX.at3 | exact SX.at4 | exact SX.at5 | exact Z.at6 | exact Z.at7 | exact Z.at8 | exact Z.at9 | exact Z.at10 | exact Z.at11 | exact Z.at12) (by first | decide | (simp; done) | (simp; omega)) ?_
        clear hs; intro ws hs
        simp only [Nat.zero_add, Nat.add_zero, Nat.reduceAdd, Int.reduceToNat, Nat.reduceMul, List.set_cons_zero, List.set_cons_succ, List.setIfInBounds_toArray] at hs
        try simp only [Z.putL, Nat.zero_add] at hs
        refine Z.tk (Dn := fun _ => true) (i := 8) (fun _ => ⟨_, hs, by first | (simp; done) | exact fun e he => List.mem_append_right _ he⟩) ?_
        refine Z.td (by rfl) (by kernel_rfl) ?_
        refine Z.only [0, 1, 2, 3] rfl ?_
        refine Z.nthen ?_
        exact Z.meet (g2, g3) (by refine ⟨?_, ?_, ?_, ?_, trivial⟩ <;> (first | rfl | (refine Z.lookv rfl ?_; simp; done) | (refine Z.lookv rfl ?_; simp; omega))) (by first | exact hs | exact hs.sel [1, 0, 2] (by decide))
    · skip
      refine Z.ZO.alloc rfl rfl (by rfl) Try.zeroValue22 rfl hs ?_
      clear hs; intro g3 w3 hs
      refine Z.tk (Dn := fun _ => true) (i := 6) (fun _ => ⟨_, hs, by first | (simp; done) | exact fun e he => List.mem_append_right _ he⟩) ?_
      refine Z.fork2 2 5 rfl rfl rfl (by kernel_rfl) rfl rfl trivial trivial ?_ ?_
      · skip
        refine Z.ZO.call rfl rfl (by rfl) rfl rfl Try.call45 rfl (group_ok r.group _ hg) ?_
        rintro v1_2 w1_2 ⟨rfl, hy⟩
        replace hs := hs.call hy
        clear hy
        try simp only [List.cons_append, List.nil_append, List.append_nil] at hs
        refine Z.tk (Dn := fun _ => true) (i := 2) (fun _ => ⟨_, hs, by first | (simp; done) | exact fun e he => List.mem_append_right _ he⟩) ?_
        refine Z.tn 5 rfl rfl (by kernel_rfl) rfl trivial ?_
        refine Z.ZO.alloc rfl rfl (by rfl) Try.zeroValue88 rfl hs ?_
        clear hs; intro g2 w2 hs
        refine Z.tk (Dn := fun _ => true) (i := 5) (fun _ => ⟨_, hs, by first | (simp; done) | exact fun e he => List.mem_append_right _ he⟩) ?_
        refine Z.tn 7 rfl rfl (by kernel_rfl) rfl trivial ?_
        first | refine Z.ZO.storeA rfl rfl hs rfl rfl (by kernel_rfl) (by first | (simp [Value.oneCell']; done) | (refine Z.all_one ?_; assumption)) (by first | exact SX.at0 | exact SX.at1 | exact SX.at2 | exact SX.at3 | exact SX.at4 | exact SX.at5 | exact Z.at6 | exact Z.at7 | exact Z.at8 | exact Z.at9 | exact Z.at10 | exact Z.at11 | exact Z.at12) (by rfl) ?_ | refine Z.ZO.storeP rfl rfl hs rfl rfl (by kernel_rfl) (by first | (simp [Value.oneCell']; done) | (refine Z.all_one ?_; assumption)) (by first | exact SX.at0 | exact SX.at1 | exact SX.at2 | exact SX.at3 | exact SX.at4 | exact SX.at5 | exact Z.at6 | exact Z.at7 | exact Z.at8 | exact Z.at9 | exact Z.at10 | exact Z.at11 | exact Z.at12) (by first | decide | (simp; done) | (simp; omega)) ?_ | refine Z.ZO.storePR rfl rfl hs rfl rfl (by kernel_rfl) (by first | (simp [Value.oneCell']; done) | (refine Z.all_one ?_; assumption)) (by first | exact SX.at0 | exact SX.at1 | exact SX.at2 | exact SX.at3 | exact SX.at4 | exact SX.at5 | exact Z.at6 | exact Z.at7 | exact Z.at8 | exact Z.at9 | exact Z.at10 | exact Z.at11 | exact Z.at12) (by first | decide | (simp; done) | (simp; omega)) ?_
        clear hs; intro ws hs
        simp only [Nat.zero_add, Nat.add_zero, Nat.reduceAdd, Int.reduceToNat, Nat.reduceMul, List.set_cons_zero, List.set_cons_succ, List.setIfInBounds_toArray] at hs
        try simp only [Z.putL, Nat.zero_add] at hs
        refine Z.tk (Dn := fun _ => true) (i := 7) (fun _ => ⟨_, hs, by first | (simp; done) | exact fun e he => List.mem_append_right _ he⟩) ?_
        refine Z.tn 8 rfl rfl (by kernel_rfl) rfl trivial ?_
        first | refine Z.ZO.storeA rfl rfl hs rfl rfl (by kernel_rfl) (by first | (simp [Value.oneCell']; done) | (refine Z.all_one ?_; assumption)) (by first | exact SX.at0 | exact SX.at1 | exact SX.at2 | exact SX.at3 | exact SX.at4 | exact SX.at5 | exact Z.at6 | exact Z.at7 | exact Z.at8 | exact Z.at9 | exact Z.at10 | exact Z.at11 | exact Z.at12) (by rfl) ?_ | refine Z.ZO.storeP rfl rfl hs rfl rfl (by kernel_rfl) (by first | (simp [Value.oneCell']; done) | (refine Z.all_one ?_; assumption)) (by first | exact SX.at0 | exact SX.at1 | exact SX.at2 | exact SX.at3 | exact SX.at4 | exact SX.at5 | exact Z.at6 | exact Z.at7 | exact Z.at8 | exact Z.at9 | exact Z.at10 | exact Z.at11 | exact Z.at12) (by first | decide | (simp; done) | (simp; omega)) ?_ | refine Z.ZO.storePR rfl rfl hs rfl rfl (by kernel_rfl) (by first | (simp [Value.oneCell']; done) | (refine Z.all_one ?_; assumption)) (by first | exact SX.at0 | exact SX.at1 | exact SX.at2 | exact SX.at3 | exact SX.at4 | exact SX.at5 | exact Z.at6 | exact Z.at7 | exact Z.at8 | exact Z.at9 | exact Z.at10 | exact Z.at11 | exact Z.at12) (by first | decide | (simp; done) | (simp; omega)) ?_
        clear hs; intro ws hs
        simp only [Nat.zero_add, Nat.add_zero, Nat.reduceAdd, Int.reduceToNat, Nat.reduceMul, List.set_cons_zero, List.set_cons_succ, List.setIfInBounds_toArray] at hs
        try simp only [Z.putL, Nat.zero_add] at hs
        refine Z.tk (Dn := fun _ => true) (i := 8) (fun _ => ⟨_, hs, by first | (simp; done) | exact fun e he => List.mem_append_right _ he⟩) ?_
        refine Z.td (by rfl) (by kernel_rfl) ?_
        refine Z.only [0, 1, 2, 3] rfl ?_
        refine Z.nthen ?_
        exact Z.meet (g2, g3) (by refine ⟨?_, ?_, ?_, ?_, trivial⟩ <;> (first | rfl | (refine Z.lookv rfl ?_; simp; done) | (refine Z.lookv rfl ?_; simp; omega))) (by first | exact hs | exact hs.sel [1, 0, 2] (by decide))
      · skip
        refine Z.ZO.alloc rfl rfl (by rfl) Try.zeroValue88 rfl hs ?_
        clear hs; intro g2 w2 hs
        refine Z.tk (Dn := fun _ => true) (i := 5) (fun _ => ⟨_, hs, by first | (simp; done) | exact fun e he => List.mem_append_right _ he⟩) ?_
        refine Z.tn 2 rfl rfl (by kernel_rfl) rfl trivial ?_
        refine Z.ZO.call rfl rfl (by rfl) rfl rfl Try.call45 rfl (group_ok r.group _ hg) ?_
        rintro v1_2 w1_2 ⟨rfl, hy⟩
        replace hs := hs.call hy
        clear hy
        try simp only [List.cons_append, List.nil_append, List.append_nil] at hs
        refine Z.tk (Dn := fun _ => true) (i := 2) (fun _ => ⟨_, hs, by first | (simp; done) | exact fun e he => List.mem_append_right _ he⟩) ?_
        refine Z.tn 7 rfl rfl (by kernel_rfl) rfl trivial ?_
        first | refine Z.ZO.storeA rfl rfl hs rfl rfl (by kernel_rfl) (by first | (simp [Value.oneCell']; done) | (refine Z.all_one ?_; assumption)) (by first | exact SX.at0 | exact SX.at1 | exact SX.at2 | exact SX.at3 | exact SX.at4 | exact SX.at5 | exact Z.at6 | exact Z.at7 | exact Z.at8 | exact Z.at9 | exact Z.at10 | exact Z.at11 | exact Z.at12) (by rfl) ?_ | refine Z.ZO.storeP rfl rfl hs rfl rfl (by kernel_rfl) (by first | (simp [Value.oneCell']; done) | (refine Z.all_one ?_; assumption)) (by first | exact SX.at0 | exact SX.at1 | exact SX.at2 | exact SX.at3 | exact SX.at4 | exact SX.at5 | exact Z.at6 | exact Z.at7 | exact Z.at8 | exact Z.at9 | exact Z.at10 | exact Z.at11 | exact Z.at12) (by first | decide | (simp; done) | (simp; omega)) ?_ | refine Z.ZO.storePR rfl rfl hs rfl rfl (by kernel_rfl) (by first | (simp [Value.oneCell']; done) | (refine Z.all_one ?_; assumption)) (by first | exact SX.at0 | exact SX.at1 | exact SX.at2 | exact SX.at3 | exact SX.at4 | exact SX.at5 | exact Z.at6 | exact Z.at7 | exact Z.at8 | exact Z.at9 | exact Z.at10 | exact Z.at11 | exact Z.at12) (by first | decide | (simp; done) | (simp; omega)) ?_
        clear hs; intro ws hs
        simp only [Nat.zero_add, Nat.add_zero, Nat.reduceAdd, Int.reduceToNat, Nat.reduceMul, List.set_cons_zero, List.set_cons_succ, List.setIfInBounds_toArray] at hs
        try simp only [Z.putL, Nat.zero_add] at hs
        refine Z.tk (Dn := fun _ => true) (i := 7) (fun _ => ⟨_, hs, by first | (simp; done) | exact fun e he => List.mem_append_right _ he⟩) ?_
        refine Z.tn 8 rfl rfl (by kernel_rfl) rfl trivial ?_
        first | refine Z.ZO.storeA rfl rfl hs rfl rfl (by kernel_rfl) (by first | (simp [Value.oneCell']; done) | (refine Z.all_one ?_; assumption)) (by first | exact SX.at0 | exact SX.at1 | exact SX.at2 | exact SX.at3 | exact SX.at4 | exact SX.at5 | exact Z.at6 | exact Z.at7 | exact Z.at8 | exact Z.at9 | exact Z.at10 | exact Z.at11 | exact Z.at12) (by rfl) ?_ | refine Z.ZO.storeP rfl rfl hs rfl rfl (by kernel_rfl) (by first | (simp [Value.oneCell']; done) | (refine Z.all_one ?_; assumption)) (by first | exact SX.at0 | exact SX.at1 | exact SX.at2 | exact SX.at3 | exact SX.at4 | exact SX.at5 | exact Z.at6 | exact Z.at7 | exact Z.at8 | exact Z.at9 | exact Z.at10 | exact Z.at11 | exact Z.at12) (by first | decide | (simp; done) | (simp; omega)) ?_ | refine Z.ZO.storePR rfl rfl hs rfl rfl (by kernel_rfl) (by first | (simp [Value.oneCell']; done) | (refine Z.all_one ?_; assumption)) (by first | exact SX.at0 | exact SX.at1 | exact SX.at2 | exact SX.at3 | exact SX.at4 | exact SX.at5 | exact Z.at6 | exact Z.at7 | exact Z.at8 | exact Z.at9 | exact Z.at10 | exact Z.at11 | exact Z.at12) (by first | decide | (simp; done) | (simp; omega)) ?_
        clear hs; intro ws hs
        simp only [Nat.zero_add, Nat.add_zero, Nat.reduceAdd, Int.reduceToNat, Nat.reduceMul, List.set_cons_zero, List.set_cons_succ, List.setIfInBounds_toArray] at hs
        try simp only [Z.putL, Nat.zero_add] at hs
        refine Z.tk (Dn := fun _ => true) (i := 8) (fun _ => ⟨_, hs, by first | (simp; done) | exact fun e he => List.mem_append_right _ he⟩) ?_
        refine Z.td (by rfl) (by kernel_rfl) ?_
        refine Z.only [0, 1, 2, 3] rfl ?_
        refine Z.nthen ?_
        exact Z.meet (g2, g3) (by refine ⟨?_, ?_, ?_, ?_, trivial⟩ <;> (first | rfl | (refine Z.lookv rfl ?_; simp; done) | (refine Z.lookv rfl ?_; simp; omega))) (by first | exact hs | exact hs.sel [1, 0, 2] (by decide))
  · clear hs
    rintro ⟨g2, g3⟩ w2 hs
    refine Z.only [0, 1, 2, 3] rfl ?_
    (try dsimp only at hs)
    refine Z.seq ?_
    refine Z.seq ?_
    refine Z.region ?_
    refine Z.l rfl rfl (by rfl) (Z.keepS hs) (Z.Yd.fieldA (m := 0) rfl (by kernel_rfl)) ?_
    refine Z.l rfl rfl (by rfl) (Z.keepS hs) (Z.Yd.load rfl Try.isAgg4 (fun _ => Z.cellO hc.1 (by simp) (hc.2 0 _ rfl))) ?_
    refine Z.lnil ?_
    refine Z.only [0, 1, 2, 3, 12] rfl ?_
    refine Z.nthen ?_
    refine Z.cond rfl (fun hc2 => ?_) (fun h => absurd h (by simpa using hl))
    refine Z.seq ?_
    refine Z.region ?_
    refine Z.l rfl rfl (by rfl) (Z.keepS hs) (Z.Yd.fieldA (m := 1) rfl (by kernel_rfl)) ?_
    refine Z.l rfl rfl (by rfl) (Z.keepS hs) (Z.Yd.load rfl Try.isAgg3 (fun _ => Z.cellO hc.1 (by simp) (hc.2 1 _ rfl))) ?_
    refine Z.lb 1 rfl ?_
    refine Z.le rfl trivial ?_
    refine Z.ZO.call rfl rfl (by rfl) rfl rfl Try.call46 rfl (must_ok _ 2 _ (by simpa using h0)) ?_
    rintro v3_3 w3_3 ⟨rfl, hy⟩
    replace hs := hs.call hy
    clear hy
    try simp only [List.cons_append, List.nil_append, List.append_nil] at hs
    refine Z.lnil ?_
    refine Z.only [1, 3] rfl ?_
    refine Z.nthen ?_
    refine Z.seq ?_
    refine Z.drawK (fun j => j != 14) mixed hs ?_
    clear hs; intro wd4 hs
    refine Z.t 0 rfl rfl rfl (by rfl) (by kernel_rfl) ⟨_, hs, by first | (simp; done) | exact fun e he => List.mem_append_right _ he⟩ (Z.Yd.elemA rfl rfl Try.underlying22 Try.sizeOf3 (fun hG => ⟨(by first | omega | (have hG' := Z.gh rfl hG; simp at hG'; omega)), (by first | omega | (have hG' := Z.gh rfl hG; simp at hG'; omega))⟩)) ?_
    refine Z.t 1 rfl rfl rfl (by rfl) (by kernel_rfl) ⟨_, hs, by first | (simp; done) | exact fun e he => List.mem_append_right _ he⟩ (by first | exact Z.Yd.load rfl Try.isAgg3 (fun _ => Z.cellB (by first | ((repeat (first | exact List.mem_cons_self | refine List.mem_cons_of_mem _ ?_ | refine List.mem_append_right _ ?_)); done) | fail) rfl) | exact Z.Yd.load rfl Try.isAgg3 (fun hG => Z.cellR (by first | ((repeat (first | exact List.mem_cons_self | refine List.mem_cons_of_mem _ ?_ | refine List.mem_append_right _ ?_)); done) | fail) (Z.ints_at (by first | omega | (have hG' := Z.gh rfl hG; simp at hG'; omega)) (by first | omega | (have hG' := Z.gh rfl hG; simp at hG'; omega)))) | exact Z.Yd.load rfl Try.isAgg3 (fun hG => Z.cellXi (by assumption) (by first | omega | (have hG' := Z.gh rfl hG; simp at hG'; omega)) (by first | omega | (have hG' := Z.gh rfl hG; simp at hG'; omega))) | exact Z.Yd.load rfl Try.isAgg3 (fun hG => Z.cellS (by assumption) rfl (by first | omega | (have hG' := Z.gh rfl hG; simp at hG'; omega)) (by first | omega | (have hG' := Z.gh rfl hG; simp at hG'; omega))) | fail "load 4.1") ?_
    refine Z.t 3 rfl rfl rfl (by rfl) (by kernel_rfl) ⟨_, hs, by first | (simp; done) | exact fun e he => List.mem_append_right _ he⟩ (Z.Yd.elemA rfl rfl Try.underlying22 Try.sizeOf3 (fun hG => ⟨(by first | omega | (have hG' := Z.gh rfl hG; simp at hG'; omega)), (by first | omega | (have hG' := Z.gh rfl hG; simp at hG'; omega))⟩)) ?_
    refine Z.t 4 rfl rfl rfl (by rfl) (by kernel_rfl) ⟨_, hs, by first | (simp; done) | exact fun e he => List.mem_append_right _ he⟩ (by first | exact Z.Yd.load rfl Try.isAgg3 (fun _ => Z.cellB (by first | ((repeat (first | exact List.mem_cons_self | refine List.mem_cons_of_mem _ ?_ | refine List.mem_append_right _ ?_)); done) | fail) rfl) | exact Z.Yd.load rfl Try.isAgg3 (fun hG => Z.cellR (by first | ((repeat (first | exact List.mem_cons_self | refine List.mem_cons_of_mem _ ?_ | refine List.mem_append_right _ ?_)); done) | fail) (Z.ints_at (by first | omega | (have hG' := Z.gh rfl hG; simp at hG'; omega)) (by first | omega | (have hG' := Z.gh rfl hG; simp at hG'; omega)))) | exact Z.Yd.load rfl Try.isAgg3 (fun hG => Z.cellXi (by assumption) (by first | omega | (have hG' := Z.gh rfl hG; simp at hG'; omega)) (by first | omega | (have hG' := Z.gh rfl hG; simp at hG'; omega))) | exact Z.Yd.load rfl Try.isAgg3 (fun hG => Z.cellS (by assumption) rfl (by first | omega | (have hG' := Z.gh rfl hG; simp at hG'; omega)) (by first | omega | (have hG' := Z.gh rfl hG; simp at hG'; omega))) | fail "load 4.4") ?_
    refine Z.t 6 rfl rfl rfl (by rfl) (by kernel_rfl) ⟨_, hs, by first | (simp; done) | exact fun e he => List.mem_append_right _ he⟩ (Z.Yd.elemA rfl rfl Try.underlying22 Try.sizeOf3 (fun hG => ⟨(by first | omega | (have hG' := Z.gh rfl hG; simp at hG'; omega)), (by first | omega | (have hG' := Z.gh rfl hG; simp at hG'; omega))⟩)) ?_
    refine Z.t 7 rfl rfl rfl (by rfl) (by kernel_rfl) ⟨_, hs, by first | (simp; done) | exact fun e he => List.mem_append_right _ he⟩ (by first | exact Z.Yd.load rfl Try.isAgg3 (fun _ => Z.cellB (by first | ((repeat (first | exact List.mem_cons_self | refine List.mem_cons_of_mem _ ?_ | refine List.mem_append_right _ ?_)); done) | fail) rfl) | exact Z.Yd.load rfl Try.isAgg3 (fun hG => Z.cellR (by first | ((repeat (first | exact List.mem_cons_self | refine List.mem_cons_of_mem _ ?_ | refine List.mem_append_right _ ?_)); done) | fail) (Z.ints_at (by first | omega | (have hG' := Z.gh rfl hG; simp at hG'; omega)) (by first | omega | (have hG' := Z.gh rfl hG; simp at hG'; omega)))) | exact Z.Yd.load rfl Try.isAgg3 (fun hG => Z.cellXi (by assumption) (by first | omega | (have hG' := Z.gh rfl hG; simp at hG'; omega)) (by first | omega | (have hG' := Z.gh rfl hG; simp at hG'; omega))) | exact Z.Yd.load rfl Try.isAgg3 (fun hG => Z.cellS (by assumption) rfl (by first | omega | (have hG' := Z.gh rfl hG; simp at hG'; omega)) (by first | omega | (have hG' := Z.gh rfl hG; simp at hG'; omega))) | fail "load 4.7") ?_
    refine Z.t 9 rfl rfl rfl (by rfl) (by kernel_rfl) ⟨_, hs, by first | (simp; done) | exact fun e he => List.mem_append_right _ he⟩ (Z.Yd.elemA rfl rfl Try.underlying22 Try.sizeOf3 (fun hG => ⟨(by first | omega | (have hG' := Z.gh rfl hG; simp at hG'; omega)), (by first | omega | (have hG' := Z.gh rfl hG; simp at hG'; omega))⟩)) ?_
    refine Z.t 10 rfl rfl rfl (by rfl) (by kernel_rfl) ⟨_, hs, by first | (simp; done) | exact fun e he => List.mem_append_right _ he⟩ (by first | exact Z.Yd.load rfl Try.isAgg3 (fun _ => Z.cellB (by first | ((repeat (first | exact List.mem_cons_self | refine List.mem_cons_of_mem _ ?_ | refine List.mem_append_right _ ?_)); done) | fail) rfl) | exact Z.Yd.load rfl Try.isAgg3 (fun hG => Z.cellR (by first | ((repeat (first | exact List.mem_cons_self | refine List.mem_cons_of_mem _ ?_ | refine List.mem_append_right _ ?_)); done) | fail) (Z.ints_at (by first | omega | (have hG' := Z.gh rfl hG; simp at hG'; omega)) (by first | omega | (have hG' := Z.gh rfl hG; simp at hG'; omega)))) | exact Z.Yd.load rfl Try.isAgg3 (fun hG => Z.cellXi (by assumption) (by first | omega | (have hG' := Z.gh rfl hG; simp at hG'; omega)) (by first | omega | (have hG' := Z.gh rfl hG; simp at hG'; omega))) | exact Z.Yd.load rfl Try.isAgg3 (fun hG => Z.cellS (by assumption) rfl (by first | omega | (have hG' := Z.gh rfl hG; simp at hG'; omega)) (by first | omega | (have hG' := Z.gh rfl hG; simp at hG'; omega))) | fail "load 4.10") ?_
    refine Z.tn 2 rfl rfl (by kernel_rfl) rfl trivial ?_
    refine Z.ZO.call rfl rfl (by rfl) rfl rfl Try.call48 rfl (level_ok _ _ ha) ?_
    rintro v4_2 w4_2 ⟨rfl, hy⟩
    replace hs := hs.call hy
    clear hy
    try simp only [List.cons_append, List.nil_append, List.append_nil] at hs
    refine Z.tk (Dn := fun j => j != 14) (i := 2) (fun _ => ⟨_, hs, by first | (simp; done) | exact fun e he => List.mem_append_right _ he⟩) ?_
    refine Z.tn 5 rfl rfl (by kernel_rfl) rfl trivial ?_
    refine Z.ZO.call rfl rfl (by rfl) rfl rfl Try.call48 rfl (level_ok _ _ hb) ?_
    rintro v4_5 w4_5 ⟨rfl, hy⟩
    replace hs := hs.call hy
    clear hy
    try simp only [List.cons_append, List.nil_append, List.append_nil] at hs
    refine Z.tk (Dn := fun j => j != 14) (i := 5) (fun _ => ⟨_, hs, by first | (simp; done) | exact fun e he => List.mem_append_right _ he⟩) ?_
    refine Z.tn 8 rfl rfl (by kernel_rfl) rfl trivial ?_
    refine Z.ZO.call rfl rfl (by rfl) rfl rfl Try.call48 rfl (level_ok _ _ hcc) ?_
    rintro v4_8 w4_8 ⟨rfl, hy⟩
    replace hs := hs.call hy
    clear hy
    try simp only [List.cons_append, List.nil_append, List.append_nil] at hs
    refine Z.tk (Dn := fun j => j != 14) (i := 8) (fun _ => ⟨_, hs, by first | (simp; done) | exact fun e he => List.mem_append_right _ he⟩) ?_
    refine Z.tn 11 rfl rfl (by kernel_rfl) rfl trivial ?_
    refine Z.ZO.call rfl rfl (by rfl) rfl rfl Try.call48 rfl (level_ok _ _ hd) ?_
    rintro v4_11 w4_11 ⟨rfl, hy⟩
    replace hs := hs.call hy
    clear hy
    try simp only [List.cons_append, List.nil_append, List.append_nil] at hs
    refine Z.tk (Dn := fun j => j != 14) (i := 11) (fun _ => ⟨_, hs, by first | (simp; done) | exact fun e he => List.mem_append_right _ he⟩) ?_
    refine Z.tn 12 rfl rfl (by kernel_rfl) rfl trivial ?_
    refine Z.ZO.litL (T' := 88) [(0, 2), (2, 2), (4, 2), (6, 2)] [.int .u64 0, .int .i64 0, .int .u64 0, .int .i64 0, .int .u64 0, .int .i64 0, .int .u64 0, .int .i64 0] rfl rfl (by rfl) rfl rfl (by intro W; kernel_rfl) hs ?_
    clear hs; intro g29 w29 hs
    refine Z.tk (Dn := fun j => j != 14) (i := 12) (fun _ => ⟨_, hs, by first | (simp; done) | exact fun e he => List.mem_append_right _ he⟩) ?_
    have hsx := Z.blk_lentj (L1 := []) hs (j := 0) rfl
    refine Z.tn 13 rfl rfl (by kernel_rfl) rfl trivial ?_
    refine Z.ZO.call rfl rfl (by rfl) rfl rfl Try.call47 rfl (built_ok 30 _ 4 4 [(r.a, 6), (r.b, 6), (r.c, 6), (r.d, 6)] _ hsx rfl (by omega) (by simp [fa.1, fb.1, fc.1, fd.1]) (by simp [chkA, fa.2, fb.2, fc.2, fd.2])) ?_
    rintro v4_13 w4_13 ⟨B, co, rfl, hy⟩
    replace hs := hs.call hy
    clear hy
    try simp only [List.cons_append, List.nil_append, List.append_nil] at hs
    rw [long_bytes r ha hb hcc hd] at hs ⊢
    refine Z.tk (Dn := fun j => j != 14) (i := 13) (fun _ => ⟨_, hs, by first | (simp; done) | exact fun e he => List.mem_append_right _ he⟩) ?_
    refine Z.tn 14 rfl rfl (by kernel_rfl) rfl trivial ?_
    first | refine Z.ZO.storeA rfl rfl hs rfl rfl (by kernel_rfl) (by first | (simp [Value.oneCell']; done) | (refine Z.all_one ?_; assumption)) (by first | exact SX.at0 | exact SX.at1 | exact SX.at2 | exact SX.at3 | exact SX.at4 | exact SX.at5 | exact Z.at6 | exact Z.at7 | exact Z.at8 | exact Z.at9 | exact Z.at10 | exact Z.at11 | exact Z.at12) (by rfl) ?_ | refine Z.ZO.storeP rfl rfl hs rfl rfl (by kernel_rfl) (by first | (simp [Value.oneCell']; done) | (refine Z.all_one ?_; assumption)) (by first | exact SX.at0 | exact SX.at1 | exact SX.at2 | exact SX.at3 | exact SX.at4 | exact SX.at5 | exact Z.at6 | exact Z.at7 | exact Z.at8 | exact Z.at9 | exact Z.at10 | exact Z.at11 | exact Z.at12) (by first | decide | (simp; done) | (simp; omega)) ?_ | refine Z.ZO.storePR rfl rfl hs rfl rfl (by kernel_rfl) (by first | (simp [Value.oneCell']; done) | (refine Z.all_one ?_; assumption)) (by first | exact SX.at0 | exact SX.at1 | exact SX.at2 | exact SX.at3 | exact SX.at4 | exact SX.at5 | exact Z.at6 | exact Z.at7 | exact Z.at8 | exact Z.at9 | exact Z.at10 | exact Z.at11 | exact Z.at12) (by first | decide | (simp; done) | (simp; omega)) ?_
    clear hs; intro ws hs
    simp only [Nat.zero_add, Nat.add_zero, Nat.reduceAdd, Int.reduceToNat, Nat.reduceMul, List.set_cons_zero, List.set_cons_succ, List.setIfInBounds_toArray] at hs
    try simp only [Z.putL, Nat.zero_add] at hs
    refine Z.tk (Dn := fun j => j != 14) (i := 14) (fun h => absurd h (by decide)) ?_
    refine Z.td (by rfl) (by kernel_rfl) ?_
    refine Z.only [1] rfl ?_
    refine Z.nthen ?_
    refine Z.ret ?_
    repeat (first | refine Z.rthen ?_ | refine Z.rblock ?_ | refine Z.rscope ?_)
    -- ret#0
    refine Z.out1 (by exact ⟨⟨_, rfl, Z.rvcA hs Try.isAgg51 (by first | ((repeat (first | exact List.mem_cons_self | refine List.mem_cons_of_mem _ ?_ | refine List.mem_append_right _ ?_)); done) | fail) (by exact Try.sizeOf51)⟩, trivial⟩) ?_
    exact ⟨_, rfl, B, co, rfl, hs.sel [0] (by decide)⟩
set_option maxRecDepth 100000 in
theorem encrep1_short (g : Nat) (r : RepV) (w : World) (hc : Cel w g r.cells) (hr : r.ok) (hl : r.long = false) :
    Calls Try.prog 44 #[.pointer (some ⟨g, 0, none⟩)] w (SX.Ret fun v w' => IsPart 29 [64 * r.group + r.lv r.group.toNat] v w w') := by
  have hs := SX.St.start w
  obtain ⟨hg, hr⟩ := hr
  rw [if_neg (by simp [hl])] at hr
  obtain ⟨hz, hv⟩ := hr
  have fg := okF (v := r.group) (wd := 2) hg.1 (by omega) (by have := hg.2; simp; omega)
  have fv := okF (v := r.lv r.group.toNat) (wd := 6) hv.1 (by omega) (by have := hv.2; simp; omega)
  have hget : Z.nth r.lvs (0 + r.group.toNat * 1) = some (.int .i64 (r.lv r.group.toNat)) := by rw [Nat.zero_add, Nat.mul_one]; exact lvs_nth r _ (by omega)
  refine Z.enter Try.func44 rfl Try.ntmps44 rfl rfl ?_
  refine Z.seq ?_
  refine Z.region ?_
  refine Z.le rfl trivial ?_
  refine Z.ZO.alloc rfl rfl (by rfl) Try.zeroValue51 rfl hs ?_
  clear hs; intro g1 w1 hs
  refine Z.lnil ?_
  refine Z.only [0, 1] rfl ?_
  refine Z.nthen ?_
  refine Z.seq ?_
  refine Z.cutt (ι := Nat × Nat) [0, 1] rfl (fun x => [(2, [], .pointer (some ⟨x.1, 0, none⟩)), (3, [], .pointer (some ⟨x.2, 0, none⟩))]) (fun x wr => SX.St w [] wr [SX.Ent.blk x.2 22 r.lvs.toArray, SX.Ent.blk x.1 88 #[.int .u64 r.group, .int .i64 2], SX.Ent.blk g1 51 #[.int .i64 0, .slice none 0 0]]) ?_ ?_
  · skip
    refine Z.drawK (fun _ => true) mixed hs ?_
    clear hs; intro wd1 hs
    refine Z.t 0 rfl rfl rfl (by rfl) (by kernel_rfl) ⟨_, hs, by first | (simp; done) | exact fun e he => List.mem_append_right _ he⟩ (Z.Yd.fieldA (m := 1) rfl (by kernel_rfl)) ?_
    refine Z.t 1 rfl rfl rfl (by rfl) (by kernel_rfl) ⟨_, hs, by first | (simp; done) | exact fun e he => List.mem_append_right _ he⟩ (Z.Yd.load rfl Try.isAgg3 (fun _ => Z.cellO hc.1 (by simp) (hc.2 1 _ rfl))) ?_
    refine Z.t 3 rfl rfl rfl (by rfl) (by kernel_rfl) ⟨_, hs, by first | (simp; done) | exact fun e he => List.mem_append_right _ he⟩ (Z.Yd.fieldA (m := 2) rfl (by kernel_rfl)) ?_
    refine Z.t 4 rfl rfl rfl (by rfl) (by kernel_rfl) ⟨_, hs, by first | (simp; done) | exact fun e he => List.mem_append_right _ he⟩ (Z.Yd.loadA _ rfl Try.isAgg22 (fun _ w' hk j u hu => Z.cellO hc.1 (by simp) (Cel.lvs hc j u hu) w' hk) (by exact Try.sizeOf22)) ?_
    refine Z.forkD [2, 5, 6] rfl (by kernel_rfl) rfl ⟨⟨_, _, rfl, rfl, trivial, ?_⟩, ⟨_, _, rfl, rfl, trivial, ?_⟩, ⟨_, _, rfl, rfl, trivial, ?_⟩, trivial⟩
    · skip
      refine Z.ZO.call rfl rfl (by rfl) rfl rfl Try.call45 rfl (group_ok r.group _ hg) ?_
      rintro v1_2 w1_2 ⟨rfl, hy⟩
      replace hs := hs.call hy
      clear hy
      try simp only [List.cons_append, List.nil_append, List.append_nil] at hs
      refine Z.tk (Dn := fun _ => true) (i := 2) (fun _ => ⟨_, hs, by first | (simp; done) | exact fun e he => List.mem_append_right _ he⟩) ?_
      refine Z.fork2 5 6 rfl rfl rfl (by kernel_rfl) rfl rfl trivial trivial ?_ ?_
      · skip
        refine Z.ZO.alloc rfl rfl (by rfl) Try.zeroValue88 rfl hs ?_
        clear hs; intro g2 w2 hs
        refine Z.tk (Dn := fun _ => true) (i := 5) (fun _ => ⟨_, hs, by first | (simp; done) | exact fun e he => List.mem_append_right _ he⟩) ?_
        refine Z.tn 6 rfl rfl (by kernel_rfl) rfl trivial ?_
        refine Z.ZO.alloc rfl rfl (by rfl) Try.zeroValue22 rfl hs ?_
        clear hs; intro g3 w3 hs
        refine Z.tk (Dn := fun _ => true) (i := 6) (fun _ => ⟨_, hs, by first | (simp; done) | exact fun e he => List.mem_append_right _ he⟩) ?_
        refine Z.tn 7 rfl rfl (by kernel_rfl) rfl trivial ?_
        first | refine Z.ZO.storeA rfl rfl hs rfl rfl (by kernel_rfl) (by first | (simp [Value.oneCell']; done) | (refine Z.all_one ?_; assumption)) (by first | exact SX.at0 | exact SX.at1 | exact SX.at2 | exact SX.at3 | exact SX.at4 | exact SX.at5 | exact Z.at6 | exact Z.at7 | exact Z.at8 | exact Z.at9 | exact Z.at10 | exact Z.at11 | exact Z.at12) (by rfl) ?_ | refine Z.ZO.storeP rfl rfl hs rfl rfl (by kernel_rfl) (by first | (simp [Value.oneCell']; done) | (refine Z.all_one ?_; assumption)) (by first | exact SX.at0 | exact SX.at1 | exact SX.at2 | exact SX.at3 | exact SX.at4 | exact SX.at5 | exact Z.at6 | exact Z.at7 | exact Z.at8 | exact Z.at9 | exact Z.at10 | exact Z.at11 | exact Z.at12) (by first | decide | (simp; done) | (simp; omega)) ?_ | refine Z.ZO.storePR rfl rfl hs rfl rfl (by kernel_rfl) (by first | (simp [Value.oneCell']; done) | (refine Z.all_one ?_; assumption)) (by first | exact SX.at0 | exact SX.at1 | exact SX.at2 | exact SX.at3 | exact SX.at4 | exact SX.at5 | exact Z.at6 | exact Z.at7 | exact Z.at8 | exact Z.at9 | exact Z.at10 | exact Z.at11 | exact Z.at12) (by first | decide | (simp; done) | (simp; omega)) ?_
        clear hs; intro ws hs
        simp only [Nat.zero_add, Nat.add_zero, Nat.reduceAdd, Int.reduceToNat, Nat.reduceMul, List.set_cons_zero, List.set_cons_succ, List.setIfInBounds_toArray] at hs
        try simp only [Z.putL, Nat.zero_add] at hs
        refine Z.tk (Dn := fun _ => true) (i := 7) (fun _ => ⟨_, hs, by first | (simp; done) | exact fun e he => List.mem_append_right _ he⟩) ?_
        refine Z.tn 8 rfl rfl (by kernel_rfl) rfl trivial ?_
        first | refine Z.ZO.storeA rfl rfl hs rfl rfl (by kernel_rfl) (by first | (simp [Value.oneCell']; done) | (refine Z.all_one ?_; assumption)) (by first | exact SX.at0 | exact SX.at1 | exact SX.at2 | exact SX.at3 | exact SX.at4 | exact SX.at5 | exact Z.at6 | exact Z.at7 | exact Z.at8 | exact Z.at9 | exact Z.at10 | exact Z.at11 | exact Z.at12) (by rfl) ?_ | refine Z.ZO.storeP rfl rfl hs rfl rfl (by kernel_rfl) (by first | (simp [Value.oneCell']; done) | (refine Z.all_one ?_; assumption)) (by first | exact SX.at0 | exact SX.at1 | exact SX.at2 | exact SX.at3 | exact SX.at4 | exact SX.at5 | exact Z.at6 | exact Z.at7 | exact Z.at8 | exact Z.at9 | exact Z.at10 | exact Z.at11 | exact Z.at12) (by first | decide | (simp; done) | (simp; omega)) ?_ | refine Z.ZO.storePR rfl rfl hs rfl rfl (by kernel_rfl) (by first | (simp [Value.oneCell']; done) | (refine Z.all_one ?_; assumption)) (by first | exact SX.at0 | exact SX.at1 | exact SX.at2 | exact SX.at3 | exact SX.at4 | exact SX.at5 | exact Z.at6 | exact Z.at7 | exact Z.at8 | exact Z.at9 | exact Z.at10 | exact Z.at11 | exact Z.at12) (by first | decide | (simp; done) | (simp; omega)) ?_
        clear hs; intro ws hs
        simp only [Nat.zero_add, Nat.add_zero, Nat.reduceAdd, Int.reduceToNat, Nat.reduceMul, List.set_cons_zero, List.set_cons_succ, List.setIfInBounds_toArray] at hs
        try simp only [Z.putL, Nat.zero_add] at hs
        refine Z.tk (Dn := fun _ => true) (i := 8) (fun _ => ⟨_, hs, by first | (simp; done) | exact fun e he => List.mem_append_right _ he⟩) ?_
        refine Z.td (by rfl) (by kernel_rfl) ?_
        refine Z.only [0, 1, 2, 3] rfl ?_
        refine Z.nthen ?_
        exact Z.meet (g2, g3) (by refine ⟨?_, ?_, ?_, ?_, trivial⟩ <;> (first | rfl | (refine Z.lookv rfl ?_; simp; done) | (refine Z.lookv rfl ?_; simp; omega))) (by first | exact hs | exact hs.sel [1, 0, 2] (by decide))
      · skip
        refine Z.ZO.alloc rfl rfl (by rfl) Try.zeroValue22 rfl hs ?_
        clear hs; intro g3 w3 hs
        refine Z.tk (Dn := fun _ => true) (i := 6) (fun _ => ⟨_, hs, by first | (simp; done) | exact fun e he => List.mem_append_right _ he⟩) ?_
        refine Z.tn 5 rfl rfl (by kernel_rfl) rfl trivial ?_
        refine Z.ZO.alloc rfl rfl (by rfl) Try.zeroValue88 rfl hs ?_
        clear hs; intro g2 w2 hs
        refine Z.tk (Dn := fun _ => true) (i := 5) (fun _ => ⟨_, hs, by first | (simp; done) | exact fun e he => List.mem_append_right _ he⟩) ?_
        refine Z.tn 7 rfl rfl (by kernel_rfl) rfl trivial ?_
        first | refine Z.ZO.storeA rfl rfl hs rfl rfl (by kernel_rfl) (by first | (simp [Value.oneCell']; done) | (refine Z.all_one ?_; assumption)) (by first | exact SX.at0 | exact SX.at1 | exact SX.at2 | exact SX.at3 | exact SX.at4 | exact SX.at5 | exact Z.at6 | exact Z.at7 | exact Z.at8 | exact Z.at9 | exact Z.at10 | exact Z.at11 | exact Z.at12) (by rfl) ?_ | refine Z.ZO.storeP rfl rfl hs rfl rfl (by kernel_rfl) (by first | (simp [Value.oneCell']; done) | (refine Z.all_one ?_; assumption)) (by first | exact SX.at0 | exact SX.at1 | exact SX.at2 | exact SX.at3 | exact SX.at4 | exact SX.at5 | exact Z.at6 | exact Z.at7 | exact Z.at8 | exact Z.at9 | exact Z.at10 | exact Z.at11 | exact Z.at12) (by first | decide | (simp; done) | (simp; omega)) ?_ | refine Z.ZO.storePR rfl rfl hs rfl rfl (by kernel_rfl) (by first | (simp [Value.oneCell']; done) | (refine Z.all_one ?_; assumption)) (by first | exact SX.at0 | exact SX.at1 | exact SX.at2 | exact SX.at3 | exact SX.at4 | exact SX.at5 | exact Z.at6 | exact Z.at7 | exact Z.at8 | exact Z.at9 | exact Z.at10 | exact Z.at11 | exact Z.at12) (by first | decide | (simp; done) | (simp; omega)) ?_
        clear hs; intro ws hs
        simp only [Nat.zero_add, Nat.add_zero, Nat.reduceAdd, Int.reduceToNat, Nat.reduceMul, List.set_cons_zero, List.set_cons_succ, List.setIfInBounds_toArray] at hs
        try simp only [Z.putL, Nat.zero_add] at hs
        refine Z.tk (Dn := fun _ => true) (i := 7) (fun _ => ⟨_, hs, by first | (simp; done) | exact fun e he => List.mem_append_right _ he⟩) ?_
        refine Z.tn 8 rfl rfl (by kernel_rfl) rfl trivial ?_
        first | refine Z.ZO.storeA rfl rfl hs rfl rfl (by kernel_rfl) (by first | (simp [Value.oneCell']; done) | (refine Z.all_one ?_; assumption)) (by first | exact SX.at0 | exact SX.at1 | exact SX.at2 | exact SX.at3 | exact SX.at4 | exact SX.at5 | exact Z.at6 | exact Z.at7 | exact Z.at8 | exact Z.at9 | exact Z.at10 | exact Z.at11 | exact Z.at12) (by rfl) ?_ | refine Z.ZO.storeP rfl rfl hs rfl rfl (by kernel_rfl) (by first | (simp [Value.oneCell']; done) | (refine Z.all_one ?_; assumption)) (by first | exact SX.at0 | exact SX.at1 | exact SX.at2 | exact SX.at3 | exact SX.at4 | exact SX.at5 | exact Z.at6 | exact Z.at7 | exact Z.at8 | exact Z.at9 | exact Z.at10 | exact Z.at11 | exact Z.at12) (by first | decide | (simp; done) | (simp; omega)) ?_ | refine Z.ZO.storePR rfl rfl hs rfl rfl (by kernel_rfl) (by first | (simp [Value.oneCell']; done) | (refine Z.all_one ?_; assumption)) (by first | exact SX.at0 | exact SX.at1 | exact SX.at2 | exact SX.at3 | exact SX.at4 | exact SX.at5 | exact Z.at6 | exact Z.at7 | exact Z.at8 | exact Z.at9 | exact Z.at10 | exact Z.at11 | exact Z.at12) (by first | decide | (simp; done) | (simp; omega)) ?_
        clear hs; intro ws hs
        simp only [Nat.zero_add, Nat.add_zero, Nat.reduceAdd, Int.reduceToNat, Nat.reduceMul, List.set_cons_zero, List.set_cons_succ, List.setIfInBounds_toArray] at hs
        try simp only [Z.putL, Nat.zero_add] at hs
        refine Z.tk (Dn := fun _ => true) (i := 8) (fun _ => ⟨_, hs, by first | (simp; done) | exact fun e he => List.mem_append_right _ he⟩) ?_
        refine Z.td (by rfl) (by kernel_rfl) ?_
        refine Z.only [0, 1, 2, 3] rfl ?_
        refine Z.nthen ?_
        exact Z.meet (g2, g3) (by refine ⟨?_, ?_, ?_, ?_, trivial⟩ <;> (first | rfl | (refine Z.lookv rfl ?_; simp; done) | (refine Z.lookv rfl ?_; simp; omega))) (by first | exact hs | exact hs.sel [1, 0, 2] (by decide))
    · skip
      refine Z.ZO.alloc rfl rfl (by rfl) Try.zeroValue88 rfl hs ?_
      clear hs; intro g2 w2 hs
      refine Z.tk (Dn := fun _ => true) (i := 5) (fun _ => ⟨_, hs, by first | (simp; done) | exact fun e he => List.mem_append_right _ he⟩) ?_
      refine Z.fork2 2 6 rfl rfl rfl (by kernel_rfl) rfl rfl trivial trivial ?_ ?_
      · skip
        refine Z.ZO.call rfl rfl (by rfl) rfl rfl Try.call45 rfl (group_ok r.group _ hg) ?_
        rintro v1_2 w1_2 ⟨rfl, hy⟩
        replace hs := hs.call hy
        clear hy
        try simp only [List.cons_append, List.nil_append, List.append_nil] at hs
        refine Z.tk (Dn := fun _ => true) (i := 2) (fun _ => ⟨_, hs, by first | (simp; done) | exact fun e he => List.mem_append_right _ he⟩) ?_
        refine Z.tn 6 rfl rfl (by kernel_rfl) rfl trivial ?_
        refine Z.ZO.alloc rfl rfl (by rfl) Try.zeroValue22 rfl hs ?_
        clear hs; intro g3 w3 hs
        refine Z.tk (Dn := fun _ => true) (i := 6) (fun _ => ⟨_, hs, by first | (simp; done) | exact fun e he => List.mem_append_right _ he⟩) ?_
        refine Z.tn 7 rfl rfl (by kernel_rfl) rfl trivial ?_
        first | refine Z.ZO.storeA rfl rfl hs rfl rfl (by kernel_rfl) (by first | (simp [Value.oneCell']; done) | (refine Z.all_one ?_; assumption)) (by first | exact SX.at0 | exact SX.at1 | exact SX.at2 | exact SX.at3 | exact SX.at4 | exact SX.at5 | exact Z.at6 | exact Z.at7 | exact Z.at8 | exact Z.at9 | exact Z.at10 | exact Z.at11 | exact Z.at12) (by rfl) ?_ | refine Z.ZO.storeP rfl rfl hs rfl rfl (by kernel_rfl) (by first | (simp [Value.oneCell']; done) | (refine Z.all_one ?_; assumption)) (by first | exact SX.at0 | exact SX.at1 | exact SX.at2 | exact SX.at3 | exact SX.at4 | exact SX.at5 | exact Z.at6 | exact Z.at7 | exact Z.at8 | exact Z.at9 | exact Z.at10 | exact Z.at11 | exact Z.at12) (by first | decide | (simp; done) | (simp; omega)) ?_ | refine Z.ZO.storePR rfl rfl hs rfl rfl (by kernel_rfl) (by first | (simp [Value.oneCell']; done) | (refine Z.all_one ?_; assumption)) (by first | exact SX.at0 | exact SX.at1 | exact SX.at2 | exact SX.at3 | exact SX.at4 | exact SX.at5 | exact Z.at6 | exact Z.at7 | exact Z.at8 | exact Z.at9 | exact Z.at10 | exact Z.at11 | exact Z.at12) (by first | decide | (simp; done) | (simp; omega)) ?_
        clear hs; intro ws hs
        simp only [Nat.zero_add, Nat.add_zero, Nat.reduceAdd, Int.reduceToNat, Nat.reduceMul, List.set_cons_zero, List.set_cons_succ, List.setIfInBounds_toArray] at hs
        try simp only [Z.putL, Nat.zero_add] at hs
        refine Z.tk (Dn := fun _ => true) (i := 7) (fun _ => ⟨_, hs, by first | (simp; done) | exact fun e he => List.mem_append_right _ he⟩) ?_
        refine Z.tn 8 rfl rfl (by kernel_rfl) rfl trivial ?_
        first | refine Z.ZO.storeA rfl rfl hs rfl rfl (by kernel_rfl) (by first | (simp [Value.oneCell']; done) | (refine Z.all_one ?_; assumption)) (by first | exact SX.at0 | exact SX.at1 | exact SX.at2 | exact SX.at3 | exact SX.at4 | exact SX.at5 | exact Z.at6 | exact Z.at7 | exact Z.at8 | exact Z.at9 | exact Z.at10 | exact Z.at11 | exact Z.at12) (by rfl) ?_ | refine Z.ZO.storeP rfl rfl hs rfl rfl (by kernel_rfl) (by first | (simp [Value.oneCell']; done) | (refine Z.all_one ?_; assumption)) (by first | exact SX.at0 | exact SX.at1 | exact SX.at2 | exact SX.at3 | exact SX.at4 | exact SX.at5 | exact Z.at6 | exact Z.at7 | exact Z.at8 | exact Z.at9 | exact Z.at10 | exact Z.at11 | exact Z.at12) (by first | decide | (simp; done) | (simp; omega)) ?_ | refine Z.ZO.storePR rfl rfl hs rfl rfl (by kernel_rfl) (by first | (simp [Value.oneCell']; done) | (refine Z.all_one ?_; assumption)) (by first | exact SX.at0 | exact SX.at1 | exact SX.at2 | exact SX.at3 | exact SX.at4 | exact SX.at5 | exact Z.at6 | exact Z.at7 | exact Z.at8 | exact Z.at9 | exact Z.at10 | exact Z.at11 | exact Z.at12) (by first | decide | (simp; done) | (simp; omega)) ?_
        clear hs; intro ws hs
        simp only [Nat.zero_add, Nat.add_zero, Nat.reduceAdd, Int.reduceToNat, Nat.reduceMul, List.set_cons_zero, List.set_cons_succ, List.setIfInBounds_toArray] at hs
        try simp only [Z.putL, Nat.zero_add] at hs
        refine Z.tk (Dn := fun _ => true) (i := 8) (fun _ => ⟨_, hs, by first | (simp; done) | exact fun e he => List.mem_append_right _ he⟩) ?_
        refine Z.td (by rfl) (by kernel_rfl) ?_
        refine Z.only [0, 1, 2, 3] rfl ?_
        refine Z.nthen ?_
        exact Z.meet (g2, g3) (by refine ⟨?_, ?_, ?_, ?_, trivial⟩ <;> (first | rfl | (refine Z.lookv rfl ?_; simp; done) | (refine Z.lookv rfl ?_; simp; omega))) (by first | exact hs | exact hs.sel [1, 0, 2] (by decide))
      · skip
        refine Z.ZO.alloc rfl rfl (by rfl) Try.zeroValue22 rfl hs ?_
        clear hs; intro g3 w3 hs
        refine Z.tk (Dn := fun _ => true) (i := 6) (fun _ => ⟨_, hs, by first | (simp; done) | exact fun e he => List.mem_append_right _ he⟩) ?_
        refine Z.tn 2 rfl rfl (by kernel_rfl) rfl trivial ?_
        refine Z.ZO.call rfl rfl (by rfl) rfl rfl Try.call45 rfl (group_ok r.group _ hg) ?_
        rintro v1_2 w1_2 ⟨rfl, hy⟩
        replace hs := hs.call hy
        clear hy
        try simp only [List.cons_append, List.nil_append, List.append_nil] at hs
        refine Z.tk (Dn := fun _ => true) (i := 2) (fun _ => ⟨_, hs, by first | (simp; done) | exact fun e he => List.mem_append_right _ he⟩) ?_
        refine Z.tn 7 rfl rfl (by kernel_rfl) rfl trivial ?_
        first | refine Z.ZO.storeA rfl rfl hs rfl rfl (by kernel_rfl) (by first | (simp [Value.oneCell']; done) | (refine Z.all_one ?_; assumption)) (by first | exact SX.at0 | exact SX.at1 | exact SX.at2 | exact SX.at3 | exact SX.at4 | exact SX.at5 | exact Z.at6 | exact Z.at7 | exact Z.at8 | exact Z.at9 | exact Z.at10 | exact Z.at11 | exact Z.at12) (by rfl) ?_ | refine Z.ZO.storeP rfl rfl hs rfl rfl (by kernel_rfl) (by first | (simp [Value.oneCell']; done) | (refine Z.all_one ?_; assumption)) (by first | exact SX.at0 | exact SX.at1 | exact SX.at2 | exact SX.at3 | exact SX.at4 | exact SX.at5 | exact Z.at6 | exact Z.at7 | exact Z.at8 | exact Z.at9 | exact Z.at10 | exact Z.at11 | exact Z.at12) (by first | decide | (simp; done) | (simp; omega)) ?_ | refine Z.ZO.storePR rfl rfl hs rfl rfl (by kernel_rfl) (by first | (simp [Value.oneCell']; done) | (refine Z.all_one ?_; assumption)) (by first | exact SX.at0 | exact SX.at1 | exact SX.at2 | exact SX.at3 | exact SX.at4 | exact SX.at5 | exact Z.at6 | exact Z.at7 | exact Z.at8 | exact Z.at9 | exact Z.at10 | exact Z.at11 | exact Z.at12) (by first | decide | (simp; done) | (simp; omega)) ?_
        clear hs; intro ws hs
        simp only [Nat.zero_add, Nat.add_zero, Nat.reduceAdd, Int.reduceToNat, Nat.reduceMul, List.set_cons_zero, List.set_cons_succ, List.setIfInBounds_toArray] at hs
        try simp only [Z.putL, Nat.zero_add] at hs
        refine Z.tk (Dn := fun _ => true) (i := 7) (fun _ => ⟨_, hs, by first | (simp; done) | exact fun e he => List.mem_append_right _ he⟩) ?_
        refine Z.tn 8 rfl rfl (by kernel_rfl) rfl trivial ?_
        first | refine Z.ZO.storeA rfl rfl hs rfl rfl (by kernel_rfl) (by first | (simp [Value.oneCell']; done) | (refine Z.all_one ?_; assumption)) (by first | exact SX.at0 | exact SX.at1 | exact SX.at2 | exact SX.at3 | exact SX.at4 | exact SX.at5 | exact Z.at6 | exact Z.at7 | exact Z.at8 | exact Z.at9 | exact Z.at10 | exact Z.at11 | exact Z.at12) (by rfl) ?_ | refine Z.ZO.storeP rfl rfl hs rfl rfl (by kernel_rfl) (by first | (simp [Value.oneCell']; done) | (refine Z.all_one ?_; assumption)) (by first | exact SX.at0 | exact SX.at1 | exact SX.at2 | exact SX.at3 | exact SX.at4 | exact SX.at5 | exact Z.at6 | exact Z.at7 | exact Z.at8 | exact Z.at9 | exact Z.at10 | exact Z.at11 | exact Z.at12) (by first | decide | (simp; done) | (simp; omega)) ?_ | refine Z.ZO.storePR rfl rfl hs rfl rfl (by kernel_rfl) (by first | (simp [Value.oneCell']; done) | (refine Z.all_one ?_; assumption)) (by first | exact SX.at0 | exact SX.at1 | exact SX.at2 | exact SX.at3 | exact SX.at4 | exact SX.at5 | exact Z.at6 | exact Z.at7 | exact Z.at8 | exact Z.at9 | exact Z.at10 | exact Z.at11 | exact Z.at12) (by first | decide | (simp; done) | (simp; omega)) ?_
        clear hs; intro ws hs
        simp only [Nat.zero_add, Nat.add_zero, Nat.reduceAdd, Int.reduceToNat, Nat.reduceMul, List.set_cons_zero, List.set_cons_succ, List.setIfInBounds_toArray] at hs
        try simp only [Z.putL, Nat.zero_add] at hs
        refine Z.tk (Dn := fun _ => true) (i := 8) (fun _ => ⟨_, hs, by first | (simp; done) | exact fun e he => List.mem_append_right _ he⟩) ?_
        refine Z.td (by rfl) (by kernel_rfl) ?_
        refine Z.only [0, 1, 2, 3] rfl ?_
        refine Z.nthen ?_
        exact Z.meet (g2, g3) (by refine ⟨?_, ?_, ?_, ?_, trivial⟩ <;> (first | rfl | (refine Z.lookv rfl ?_; simp; done) | (refine Z.lookv rfl ?_; simp; omega))) (by first | exact hs | exact hs.sel [1, 0, 2] (by decide))
    · skip
      refine Z.ZO.alloc rfl rfl (by rfl) Try.zeroValue22 rfl hs ?_
      clear hs; intro g3 w3 hs
      refine Z.tk (Dn := fun _ => true) (i := 6) (fun _ => ⟨_, hs, by first | (simp; done) | exact fun e he => List.mem_append_right _ he⟩) ?_
      refine Z.fork2 2 5 rfl rfl rfl (by kernel_rfl) rfl rfl trivial trivial ?_ ?_
      · skip
        refine Z.ZO.call rfl rfl (by rfl) rfl rfl Try.call45 rfl (group_ok r.group _ hg) ?_
        rintro v1_2 w1_2 ⟨rfl, hy⟩
        replace hs := hs.call hy
        clear hy
        try simp only [List.cons_append, List.nil_append, List.append_nil] at hs
        refine Z.tk (Dn := fun _ => true) (i := 2) (fun _ => ⟨_, hs, by first | (simp; done) | exact fun e he => List.mem_append_right _ he⟩) ?_
        refine Z.tn 5 rfl rfl (by kernel_rfl) rfl trivial ?_
        refine Z.ZO.alloc rfl rfl (by rfl) Try.zeroValue88 rfl hs ?_
        clear hs; intro g2 w2 hs
        refine Z.tk (Dn := fun _ => true) (i := 5) (fun _ => ⟨_, hs, by first | (simp; done) | exact fun e he => List.mem_append_right _ he⟩) ?_
        refine Z.tn 7 rfl rfl (by kernel_rfl) rfl trivial ?_
        first | refine Z.ZO.storeA rfl rfl hs rfl rfl (by kernel_rfl) (by first | (simp [Value.oneCell']; done) | (refine Z.all_one ?_; assumption)) (by first | exact SX.at0 | exact SX.at1 | exact SX.at2 | exact SX.at3 | exact SX.at4 | exact SX.at5 | exact Z.at6 | exact Z.at7 | exact Z.at8 | exact Z.at9 | exact Z.at10 | exact Z.at11 | exact Z.at12) (by rfl) ?_ | refine Z.ZO.storeP rfl rfl hs rfl rfl (by kernel_rfl) (by first | (simp [Value.oneCell']; done) | (refine Z.all_one ?_; assumption)) (by first | exact SX.at0 | exact SX.at1 | exact SX.at2 | exact SX.at3 | exact SX.at4 | exact SX.at5 | exact Z.at6 | exact Z.at7 | exact Z.at8 | exact Z.at9 | exact Z.at10 | exact Z.at11 | exact Z.at12) (by first | decide | (simp; done) | (simp; omega)) ?_ | refine Z.ZO.storePR rfl rfl hs rfl rfl (by kernel_rfl) (by first | (simp [Value.oneCell']; done) | (refine Z.all_one ?_; assumption)) (by first | exact SX.at0 | exact SX.at1 | exact SX.at2 | exact SX.at3 | exact SX.at4 | exact SX.at5 | exact Z.at6 | exact Z.at7 | exact Z.at8 | exact Z.at9 | exact Z.at10 | exact Z.at11 | exact Z.at12) (by first | decide | (simp; done) | (simp; omega)) ?_
        clear hs; intro ws hs
        simp only [Nat.zero_add, Nat.add_zero, Nat.reduceAdd, Int.reduceToNat, Nat.reduceMul, List.set_cons_zero, List.set_cons_succ, List.setIfInBounds_toArray] at hs
        try simp only [Z.putL, Nat.zero_add] at hs
        refine Z.tk (Dn := fun _ => true) (i := 7) (fun _ => ⟨_, hs, by first | (simp; done) | exact fun e he => List.mem_append_right _ he⟩) ?_
        refine Z.tn 8 rfl rfl (by kernel_rfl) rfl trivial ?_
        first | refine Z.ZO.storeA rfl rfl hs rfl rfl (by kernel_rfl) (by first | (simp [Value.oneCell']; done) | (refine Z.all_one ?_; assumption)) (by first | exact SX.at0 | exact SX.at1 | exact SX.at2 | exact SX.at3 | exact SX.at4 | exact SX.at5 | exact Z.at6 | exact Z.at7 | exact Z.at8 | exact Z.at9 | exact Z.at10 | exact Z.at11 | exact Z.at12) (by rfl) ?_ | refine Z.ZO.storeP rfl rfl hs rfl rfl (by kernel_rfl) (by first | (simp [Value.oneCell']; done) | (refine Z.all_one ?_; assumption)) (by first | exact SX.at0 | exact SX.at1 | exact SX.at2 | exact SX.at3 | exact SX.at4 | exact SX.at5 | exact Z.at6 | exact Z.at7 | exact Z.at8 | exact Z.at9 | exact Z.at10 | exact Z.at11 | exact Z.at12) (by first | decide | (simp; done) | (simp; omega)) ?_ | refine Z.ZO.storePR rfl rfl hs rfl rfl (by kernel_rfl) (by first | (simp [Value.oneCell']; done) | (refine Z.all_one ?_; assumption)) (by first | exact SX.at0 | exact SX.at1 | exact SX.at2 | exact SX.at3 | exact SX.at4 | exact SX.at5 | exact Z.at6 | exact Z.at7 | exact Z.at8 | exact Z.at9 | exact Z.at10 | exact Z.at11 | exact Z.at12) (by first | decide | (simp; done) | (simp; omega)) ?_
        clear hs; intro ws hs
        simp only [Nat.zero_add, Nat.add_zero, Nat.reduceAdd, Int.reduceToNat, Nat.reduceMul, List.set_cons_zero, List.set_cons_succ, List.setIfInBounds_toArray] at hs
        try simp only [Z.putL, Nat.zero_add] at hs
        refine Z.tk (Dn := fun _ => true) (i := 8) (fun _ => ⟨_, hs, by first | (simp; done) | exact fun e he => List.mem_append_right _ he⟩) ?_
        refine Z.td (by rfl) (by kernel_rfl) ?_
        refine Z.only [0, 1, 2, 3] rfl ?_
        refine Z.nthen ?_
        exact Z.meet (g2, g3) (by refine ⟨?_, ?_, ?_, ?_, trivial⟩ <;> (first | rfl | (refine Z.lookv rfl ?_; simp; done) | (refine Z.lookv rfl ?_; simp; omega))) (by first | exact hs | exact hs.sel [1, 0, 2] (by decide))
      · skip
        refine Z.ZO.alloc rfl rfl (by rfl) Try.zeroValue88 rfl hs ?_
        clear hs; intro g2 w2 hs
        refine Z.tk (Dn := fun _ => true) (i := 5) (fun _ => ⟨_, hs, by first | (simp; done) | exact fun e he => List.mem_append_right _ he⟩) ?_
        refine Z.tn 2 rfl rfl (by kernel_rfl) rfl trivial ?_
        refine Z.ZO.call rfl rfl (by rfl) rfl rfl Try.call45 rfl (group_ok r.group _ hg) ?_
        rintro v1_2 w1_2 ⟨rfl, hy⟩
        replace hs := hs.call hy
        clear hy
        try simp only [List.cons_append, List.nil_append, List.append_nil] at hs
        refine Z.tk (Dn := fun _ => true) (i := 2) (fun _ => ⟨_, hs, by first | (simp; done) | exact fun e he => List.mem_append_right _ he⟩) ?_
        refine Z.tn 7 rfl rfl (by kernel_rfl) rfl trivial ?_
        first | refine Z.ZO.storeA rfl rfl hs rfl rfl (by kernel_rfl) (by first | (simp [Value.oneCell']; done) | (refine Z.all_one ?_; assumption)) (by first | exact SX.at0 | exact SX.at1 | exact SX.at2 | exact SX.at3 | exact SX.at4 | exact SX.at5 | exact Z.at6 | exact Z.at7 | exact Z.at8 | exact Z.at9 | exact Z.at10 | exact Z.at11 | exact Z.at12) (by rfl) ?_ | refine Z.ZO.storeP rfl rfl hs rfl rfl (by kernel_rfl) (by first | (simp [Value.oneCell']; done) | (refine Z.all_one ?_; assumption)) (by first | exact SX.at0 | exact SX.at1 | exact SX.at2 | exact SX.at3 | exact SX.at4 | exact SX.at5 | exact Z.at6 | exact Z.at7 | exact Z.at8 | exact Z.at9 | exact Z.at10 | exact Z.at11 | exact Z.at12) (by first | decide | (simp; done) | (simp; omega)) ?_ | refine Z.ZO.storePR rfl rfl hs rfl rfl (by kernel_rfl) (by first | (simp [Value.oneCell']; done) | (refine Z.all_one ?_; assumption)) (by first | exact SX.at0 | exact SX.at1 | exact SX.at2 | exact SX.at3 | exact SX.at4 | exact SX.at5 | exact Z.at6 | exact Z.at7 | exact Z.at8 | exact Z.at9 | exact Z.at10 | exact Z.at11 | exact Z.at12) (by first | decide | (simp; done) | (simp; omega)) ?_
        clear hs; intro ws hs
        simp only [Nat.zero_add, Nat.add_zero, Nat.reduceAdd, Int.reduceToNat, Nat.reduceMul, List.set_cons_zero, List.set_cons_succ, List.setIfInBounds_toArray] at hs
        try simp only [Z.putL, Nat.zero_add] at hs
        refine Z.tk (Dn := fun _ => true) (i := 7) (fun _ => ⟨_, hs, by first | (simp; done) | exact fun e he => List.mem_append_right _ he⟩) ?_
        refine Z.tn 8 rfl rfl (by kernel_rfl) rfl trivial ?_
        first | refine Z.ZO.storeA rfl rfl hs rfl rfl (by kernel_rfl) (by first | (simp [Value.oneCell']; done) | (refine Z.all_one ?_; assumption)) (by first | exact SX.at0 | exact SX.at1 | exact SX.at2 | exact SX.at3 | exact SX.at4 | exact SX.at5 | exact Z.at6 | exact Z.at7 | exact Z.at8 | exact Z.at9 | exact Z.at10 | exact Z.at11 | exact Z.at12) (by rfl) ?_ | refine Z.ZO.storeP rfl rfl hs rfl rfl (by kernel_rfl) (by first | (simp [Value.oneCell']; done) | (refine Z.all_one ?_; assumption)) (by first | exact SX.at0 | exact SX.at1 | exact SX.at2 | exact SX.at3 | exact SX.at4 | exact SX.at5 | exact Z.at6 | exact Z.at7 | exact Z.at8 | exact Z.at9 | exact Z.at10 | exact Z.at11 | exact Z.at12) (by first | decide | (simp; done) | (simp; omega)) ?_ | refine Z.ZO.storePR rfl rfl hs rfl rfl (by kernel_rfl) (by first | (simp [Value.oneCell']; done) | (refine Z.all_one ?_; assumption)) (by first | exact SX.at0 | exact SX.at1 | exact SX.at2 | exact SX.at3 | exact SX.at4 | exact SX.at5 | exact Z.at6 | exact Z.at7 | exact Z.at8 | exact Z.at9 | exact Z.at10 | exact Z.at11 | exact Z.at12) (by first | decide | (simp; done) | (simp; omega)) ?_
        clear hs; intro ws hs
        simp only [Nat.zero_add, Nat.add_zero, Nat.reduceAdd, Int.reduceToNat, Nat.reduceMul, List.set_cons_zero, List.set_cons_succ, List.setIfInBounds_toArray] at hs
        try simp only [Z.putL, Nat.zero_add] at hs
        refine Z.tk (Dn := fun _ => true) (i := 8) (fun _ => ⟨_, hs, by first | (simp; done) | exact fun e he => List.mem_append_right _ he⟩) ?_
        refine Z.td (by rfl) (by kernel_rfl) ?_
        refine Z.only [0, 1, 2, 3] rfl ?_
        refine Z.nthen ?_
        exact Z.meet (g2, g3) (by refine ⟨?_, ?_, ?_, ?_, trivial⟩ <;> (first | rfl | (refine Z.lookv rfl ?_; simp; done) | (refine Z.lookv rfl ?_; simp; omega))) (by first | exact hs | exact hs.sel [1, 0, 2] (by decide))
  · clear hs
    rintro ⟨g2, g3⟩ w2 hs
    refine Z.only [0, 1, 2, 3] rfl ?_
    (try dsimp only at hs)
    refine Z.seq ?_
    refine Z.seq ?_
    refine Z.region ?_
    refine Z.l rfl rfl (by rfl) (Z.keepS hs) (Z.Yd.fieldA (m := 0) rfl (by kernel_rfl)) ?_
    refine Z.l rfl rfl (by rfl) (Z.keepS hs) (Z.Yd.load rfl Try.isAgg4 (fun _ => Z.cellO hc.1 (by simp) (hc.2 0 _ rfl))) ?_
    refine Z.lnil ?_
    refine Z.only [0, 1, 2, 3, 12] rfl ?_
    refine Z.nthen ?_
    refine Z.cond rfl (fun h => absurd h (by simpa using hl)) (fun hc2 => ?_)
    refine Z.skip ?_
    refine Z.nthen ?_
    refine Z.seq ?_
    refine Z.seq ?_
    refine Z.region ?_
    refine Z.l rfl rfl (by rfl) (Z.keepS hs) (by first | exact Z.Yd.loadA _ rfl Try.isAgg22 (fun _ => Z.cellsB (by first | ((repeat (first | exact List.mem_cons_self | refine List.mem_cons_of_mem _ ?_ | refine List.mem_append_right _ ?_)); done) | fail)) (by exact Try.sizeOf22) | fail "load 5.0") ?_
    refine Z.lb 1 rfl ?_
    refine Z.lnil ?_
    refine Z.only [0, 1, 2, 3, 31, 32] rfl ?_
    refine Z.nthen ?_
    refine Z.block ?_
    refine Z.loopk (ι := Nat) [0, 1, 2, 3, 31] rfl (fun k => [(32, [], .int .i64 (k : Int))]) (fun k wr => k ≤ 4 ∧ SX.St w [] wr [SX.Ent.blk g3 22 r.lvs.toArray, SX.Ent.blk g2 88 #[.int .u64 r.group, .int .i64 2], SX.Ent.blk g1 51 #[.int .i64 0, .slice none 0 0]]) (fun k => 4 - k) 0 (by refine ⟨?_, trivial⟩ <;> (first | rfl | (refine Z.lookv rfl ?_; simp; done) | (refine Z.lookv rfl ?_; simp; omega))) ⟨by omega, hs⟩ ?_
    clear hs
    rintro k w3 ⟨hk, hs⟩
    refine Z.only [0, 1, 2, 3, 31, 32] rfl ?_
    refine Z.seq ?_
    refine Z.region ?_
    refine Z.lb 1 rfl ?_
    refine Z.lnil ?_
    refine Z.only [0, 1, 2, 3, 31, 32, 33] rfl ?_
    refine Z.nthen ?_
    refine Z.seq ?_
    refine Z.cond rfl (fun hc6 => ?_) (fun hc6 => ?_)
    · first
        | (exfalso; simp at hc6 <;> omega)
        | (
          (try simp at hc6)
          have hgk := lvs_get r k (by omega)
          have hzk := hz k (by omega)
          refine Z.skip ?_
          refine Z.nthen ?_
          refine Z.seq ?_
          refine Z.block ?_
          refine Z.seq ?_
          refine Z.region ?_
          refine Z.lb 1 rfl ?_
          refine Z.l rfl rfl (by rfl) (Z.keepS hs) (Z.Yd.idx1 rfl rfl Try.underlying22 Try.sizeOf3 Try.isAgg3 (fun _ => ⟨by omega, by omega, hgk⟩)) ?_
          refine Z.lb 2 rfl ?_
          refine Z.lnil ?_
          refine Z.only [0, 1, 2, 3, 4, 5, 31, 32] rfl ?_
          refine Z.nthen ?_
          refine Z.region ?_
          refine Z.lb 4 rfl ?_
          refine Z.l rfl rfl (by rfl) (Z.keepS hs) (Z.Yd.fieldA (m := 1) rfl (by kernel_rfl)) ?_
          refine Z.l rfl rfl (by rfl) (Z.keepS hs) (Z.Yd.load rfl Try.isAgg3 (fun _ => Z.cellO hc.1 (by simp) (hc.2 1 _ rfl))) ?_
          refine Z.lb 2 rfl ?_
          refine Z.le rfl trivial ?_
          refine Z.ZO.call rfl rfl (by rfl) rfl rfl Try.call46 rfl (must_ok _ 2 _ (by simp; omega)) ?_
          rintro v8_8 w8_8 ⟨rfl, hy⟩
          replace hs := hs.call hy
          clear hy
          try simp only [List.cons_append, List.nil_append, List.append_nil] at hs
          refine Z.lnil ?_
          refine Z.only [0, 1, 2, 3, 31, 32] rfl ?_
          refine Z.nblock ?_
          refine Z.nthen ?_
          refine Z.region ?_
          refine Z.l rfl rfl (by rfl) (Z.keepS hs) (Z.Yd.add rfl rfl (fun hG => Z.wi64 (by first | omega | (have hG' := Z.gh rfl hG; simp at hG'; omega)))) ?_
          refine Z.lb 1 rfl ?_
          refine Z.lnil ?_
          refine Z.only [0, 1, 2, 3, 31, 32] rfl ?_
          refine Z.nthen ?_
          exact Z.again (k + 1) (by refine ⟨?_, ?_, ?_, ?_, ?_, ?_, trivial⟩ <;> (first | rfl | (refine Z.lookv rfl ?_; simp; done) | (refine Z.lookv rfl ?_; simp; omega))) ⟨by omega, hs⟩ (by omega)
          )
    · first
        | (exfalso; simp at hc6 <;> omega)
        | (
          (try simp at hc6)
          refine Z.exit ?_
          refine Z.xthen ?_
          refine Z.xthen ?_
          refine Z.xblock ?_
          refine Z.nthen ?_
          refine Z.seq ?_
          refine Z.drawK (fun j => j != 8) mixed hs ?_
          clear hs; intro wd10 hs
          refine Z.t 0 rfl rfl rfl (by rfl) (by kernel_rfl) ⟨_, hs, by first | (simp; done) | exact fun e he => List.mem_append_right _ he⟩ (by first | exact Z.Yd.loadA _ rfl Try.isAgg88 (fun _ => Z.cellsB (by first | ((repeat (first | exact List.mem_cons_self | refine List.mem_cons_of_mem _ ?_ | refine List.mem_append_right _ ?_)); done) | fail)) (by exact Try.sizeOf88) | fail "load 10.0") ?_
          refine Z.t 1 rfl rfl rfl (by rfl) (by kernel_rfl) ⟨_, hs, by first | (simp; done) | exact fun e he => List.mem_append_right _ he⟩ (Z.Yd.fieldA (m := 1) rfl (by kernel_rfl)) ?_
          refine Z.t 2 rfl rfl rfl (by rfl) (by kernel_rfl) ⟨_, hs, by first | (simp; done) | exact fun e he => List.mem_append_right _ he⟩ (Z.Yd.load rfl Try.isAgg3 (fun _ => Z.cellO hc.1 (by simp) (hc.2 1 _ rfl))) ?_
          refine Z.t 3 rfl rfl rfl (by rfl) (by kernel_rfl) ⟨_, hs, by first | (simp; done) | exact fun e he => List.mem_append_right _ he⟩ (Z.Yd.elemA rfl rfl Try.underlying22 Try.sizeOf3 (fun hG => ⟨(by first | omega | (have hG' := Z.gh rfl hG; simp at hG'; omega)), (by first | omega | (have hG' := Z.gh rfl hG; simp at hG'; omega))⟩)) ?_
          refine Z.t 4 rfl rfl rfl (by rfl) (by kernel_rfl) ⟨_, hs, by first | (simp; done) | exact fun e he => List.mem_append_right _ he⟩ (Z.Yd.load rfl Try.isAgg3 (fun _ => Z.cellB (cs := r.lvs.toArray) (by first | ((repeat (first | exact List.mem_cons_self | refine List.mem_cons_of_mem _ ?_ | refine List.mem_append_right _ ?_)); done) | fail) hget)) ?_
          refine Z.tn 5 rfl rfl (by kernel_rfl) rfl trivial ?_
          refine Z.ZO.call rfl rfl (by rfl) rfl rfl Try.call48 rfl (level_ok _ _ hv) ?_
          rintro v10_5 w10_5 ⟨rfl, hy⟩
          replace hs := hs.call hy
          clear hy
          try simp only [List.cons_append, List.nil_append, List.append_nil] at hs
          refine Z.tk (Dn := fun j => j != 8) (i := 5) (fun _ => ⟨_, hs, by first | (simp; done) | exact fun e he => List.mem_append_right _ he⟩) ?_
          refine Z.tn 6 rfl rfl (by kernel_rfl) rfl trivial ?_
          refine Z.ZO.litL (T' := 88) [(0, 2), (2, 2)] [.int .u64 0, .int .i64 0, .int .u64 0, .int .i64 0] rfl rfl (by rfl) rfl rfl (by intro W; kernel_rfl) hs ?_
          clear hs; intro g52 w52 hs
          refine Z.tk (Dn := fun j => j != 8) (i := 6) (fun _ => ⟨_, hs, by first | (simp; done) | exact fun e he => List.mem_append_right _ he⟩) ?_
          have hsx := Z.blk_lentj (L1 := []) hs (j := 0) rfl
          refine Z.tn 7 rfl rfl (by kernel_rfl) rfl trivial ?_
          refine Z.ZO.call rfl rfl (by rfl) rfl rfl Try.call47 rfl (built_ok 29 _ 2 2 [(r.group, 2), (r.lv r.group.toNat, 6)] _ hsx rfl (by omega) (by simp [fg.1, fv.1]) (by simp [chkA, fg.2, fv.2])) ?_
          rintro v10_7 w10_7 ⟨B, co, rfl, hy⟩
          replace hs := hs.call hy
          clear hy
          try simp only [List.cons_append, List.nil_append, List.append_nil] at hs
          rw [short_bytes _ _ hg hv] at hs ⊢
          refine Z.tk (Dn := fun j => j != 8) (i := 7) (fun _ => ⟨_, hs, by first | (simp; done) | exact fun e he => List.mem_append_right _ he⟩) ?_
          refine Z.tn 8 rfl rfl (by kernel_rfl) rfl trivial ?_
          first | refine Z.ZO.storeA rfl rfl hs rfl rfl (by kernel_rfl) (by first | (simp [Value.oneCell']; done) | (refine Z.all_one ?_; assumption)) (by first | exact SX.at0 | exact SX.at1 | exact SX.at2 | exact SX.at3 | exact SX.at4 | exact SX.at5 | exact Z.at6 | exact Z.at7 | exact Z.at8 | exact Z.at9 | exact Z.at10 | exact Z.at11 | exact Z.at12) (by rfl) ?_ | refine Z.ZO.storeP rfl rfl hs rfl rfl (by kernel_rfl) (by first | (simp [Value.oneCell']; done) | (refine Z.all_one ?_; assumption)) (by first | exact SX.at0 | exact SX.at1 | exact SX.at2 | exact SX.at3 | exact SX.at4 | exact SX.at5 | exact Z.at6 | exact Z.at7 | exact Z.at8 | exact Z.at9 | exact Z.at10 | exact Z.at11 | exact Z.at12) (by first | decide | (simp; done) | (simp; omega)) ?_ | refine Z.ZO.storePR rfl rfl hs rfl rfl (by kernel_rfl) (by first | (simp [Value.oneCell']; done) | (refine Z.all_one ?_; assumption)) (by first | exact SX.at0 | exact SX.at1 | exact SX.at2 | exact SX.at3 | exact SX.at4 | exact SX.at5 | exact Z.at6 | exact Z.at7 | exact Z.at8 | exact Z.at9 | exact Z.at10 | exact Z.at11 | exact Z.at12) (by first | decide | (simp; done) | (simp; omega)) ?_
          clear hs; intro ws hs
          simp only [Nat.zero_add, Nat.add_zero, Nat.reduceAdd, Int.reduceToNat, Nat.reduceMul, List.set_cons_zero, List.set_cons_succ, List.setIfInBounds_toArray] at hs
          try simp only [Z.putL, Nat.zero_add] at hs
          refine Z.tk (Dn := fun j => j != 8) (i := 8) (fun h => absurd h (by decide)) ?_
          refine Z.td (by rfl) (by kernel_rfl) ?_
          refine Z.only [1] rfl ?_
          refine Z.nthen ?_
          refine Z.ret ?_
          -- ret#0
          refine Z.out1 (by exact ⟨⟨_, rfl, Z.rvcA hs Try.isAgg51 (by first | ((repeat (first | exact List.mem_cons_self | refine List.mem_cons_of_mem _ ?_ | refine List.mem_append_right _ ?_)); done) | fail) (by exact Try.sizeOf51)⟩, trivial⟩) ?_
          exact ⟨_, rfl, B, co, rfl, hs.sel [0] (by decide)⟩
          )

end Go.Proofs.Ytjejdlolgmhljaa

/- Control elements: levels and limits. -/
namespace Go.Proofs.Ytjejdlolgmhljaa
open Go.RowKit
set_option linter.unusedSimpArgs false
set_option linter.unusedVariables false
--newlaws

/-- the limit of a level -/
def lim : Nat → Int
  | 0 => 0
  | 1 => 10
  | k + 2 => lim (k + 1) + max 2 (lim (k + 1) / 6)
theorem lim_succ (k : Nat) (h : 1 ≤ k) : lim (k + 1) = lim k + max 2 (lim k / 6) := by
  obtain ⟨j, rfl⟩ : ∃ j, k = j + 1 := ⟨k - 1, by omega⟩
  rfl
theorem lim_mono1 (k : Nat) : lim k < lim (k + 1) := by
  by_cases h : 1 ≤ k
  · rw [lim_succ k h]; omega
  · obtain rfl : k = 0 := by omega
    decide
theorem lim_mono {i j : Nat} (h : i ≤ j) : lim i ≤ lim j := by
  induction h with
  | refl => exact Int.le_refl _
  | step h ih => exact Int.le_trans ih (Int.le_of_lt (lim_mono1 _))
theorem lim_bd {k : Nat} (h : k ≤ 62) : 0 ≤ lim k ∧ lim k ≤ 1000000 := by
  have h0 : lim 0 ≤ lim k := lim_mono (Nat.zero_le k)
  have h1 : lim k ≤ lim 62 := lim_mono h
  have h2 : lim 62 ≤ 1000000 := by decide +kernel
  have h3 : lim 0 = 0 := rfl
  omega
/-- the first k limits, in 63 cells -/
def lmI (k : Nat) : List Int := (List.range 63).map fun j => if j < k then lim j else 0
def lmC (k : Nat) : List Value := ints .i64 (lmI k)
@[simp] theorem lmC_len (k : Nat) : (lmC k).length = 63 := by simp [lmC, lmI, ints]
theorem lmI_get {k j : Nat} (hj : j < 63) (hk : j < k) : (lmI k)[j]? = some (lim j) := by simp [lmI, hj, hk]
theorem lmC_get {k j : Nat} (hj : j < 63) (hk : j < k) : (lmC k)[j]? = some (.int .i64 (lim j)) := by simp [lmC, ints, lmI_get hj hk]
theorem lmC_set {k : Nat} (hk : k < 63) : (lmC k).set k (.int .i64 (lim k)) = lmC (k + 1) := by
  apply List.ext_getElem?
  intro i
  rw [List.getElem?_set]
  simp only [lmC, lmI, ints, List.getElem?_map, List.length_map, List.length_range]
  by_cases h : k = i
  · subst h
    rw [if_pos rfl, if_pos hk, List.getElem?_range hk]
    simp
  · rw [if_neg h]
    by_cases hi : i < 63
    · rw [List.getElem?_range hi]
      simp only [Option.map_some, Option.some.injEq, Value.int.injEq, true_and]
      by_cases h2 : i < k
      · rw [if_pos h2, if_pos (by omega)]
      · rw [if_neg h2, if_neg (by omega)]
    · rw [List.getElem?_eq_none (by simpa using hi)]
      rfl
theorem lmC_one : ∀ (k : Nat), ∀ x ∈ lmC k, x.oneCell' = true := fun k => Z.ints_one
set_option maxRecDepth 100000 in
theorem limits_any (w : World) : Calls Try.prog 59 #[] w (SX.Ret fun v w' => v = .agg (lmC 63).toArray ∧ SX.St w [] w' []) := by
  have hs := SX.St.start w
  refine Z.enter Try.func59 rfl Try.ntmps59 rfl rfl ?_
  refine Z.seq ?_
  refine Z.region ?_
  refine Z.le rfl trivial ?_
  refine Z.ZO.alloc rfl rfl (by rfl) Try.zeroValue108 rfl hs ?_
  clear hs; intro g0 w0 hs
  refine Z.lnil ?_
  refine Z.only [0] rfl ?_
  refine Z.nthen ?_
  refine Z.seq ?_
  refine Z.region ?_
  refine Z.l rfl rfl (by rfl) (Z.keepS hs) (Z.Yd.elemA rfl rfl Try.underlying108 Try.sizeOf3 (fun hG => ⟨(by first | omega | (have hG' := Z.gh rfl hG; simp at hG'; omega)), (by first | omega | (have hG' := Z.gh rfl hG; simp at hG'; omega))⟩)) ?_
  refine Z.le rfl trivial ?_
  first | refine Z.ZO.store rfl rfl hs Try.sizeOf3 rfl rfl rfl (by first | exact SX.at0 | exact SX.at1 | exact SX.at2 | exact SX.at3 | exact SX.at4 | exact SX.at5 | exact Z.at6 | exact Z.at7 | exact Z.at8 | exact Z.at9 | exact Z.at10 | exact Z.at11 | exact Z.at12) (by first | (simp; done) | (simp; omega)) ?_ | refine Z.ZO.storeR rfl rfl hs Try.sizeOf3 rfl rfl rfl (by first | exact SX.at0 | exact SX.at1 | exact SX.at2 | exact SX.at3 | exact SX.at4 | exact SX.at5 | exact Z.at6 | exact Z.at7 | exact Z.at8 | exact Z.at9 | exact Z.at10 | exact Z.at11 | exact Z.at12) (by first | omega | (simp [ints_length]; done) | (simp [ints_length]; omega)) ?_
  clear hs; intro ws hs
  simp only [Nat.zero_add, Nat.add_zero, Nat.reduceAdd, Int.reduceToNat, Nat.reduceMul, List.set_cons_zero, List.set_cons_succ, List.setIfInBounds_toArray] at hs
  refine Z.lnil ?_
  refine Z.only [0] rfl ?_
  refine Z.nthen ?_
  refine Z.seq ?_
  refine Z.seq ?_
  refine Z.region ?_
  replace hs : SX.St w [] _ [SX.Ent.blk g0 108 (lmC 2).toArray] := hs
  refine Z.l rfl rfl (by rfl) (Z.keepS hs) (Z.Yd.pure rfl) ?_
  refine Z.lnil ?_
  refine Z.only [0, 1] rfl ?_
  refine Z.nthen ?_
  refine Z.block ?_
  refine Z.loopk (ι := Nat) [0] rfl (fun k => [(1, [], .int .i64 (k : Int))]) (fun k wr => (2 ≤ k ∧ k ≤ 63) ∧ SX.St w [] wr [SX.Ent.blk g0 108 (lmC k).toArray]) (fun k => 63 - k) 2 (by refine ⟨?_, trivial⟩ <;> (first | rfl | (refine Z.lookv rfl ?_; simp; done) | (refine Z.lookv rfl ?_; simp; omega))) ⟨by omega, hs⟩ ?_
  clear hs
  rintro k w1 ⟨hk, hs⟩
  refine Z.only [0, 1] rfl ?_
  refine Z.seq ?_
  refine Z.seq ?_
  refine Z.region ?_
  refine Z.lb 2 rfl ?_
  refine Z.lnil ?_
  refine Z.only [0, 1, 4] rfl ?_
  refine Z.nthen ?_
  refine Z.cond rfl (fun hc3 => ?_) (fun hc3 => ?_)
  · first
      | (exfalso; simp at hc3 <;> omega)
      | (
        (try simp at hc3)
        have hbd := lim_bd (k := k - 1) (by omega)
        have hget : Z.nth (lmC k) (0 + ((k : Int) - 1).toNat * 1) = some (.int .i64 (lim (k - 1))) := by
          rw [Z.nth_eq, show 0 + ((k : Int) - 1).toNat * 1 = k - 1 from by omega]
          exact lmC_get (by omega) (by omega)
        have hls := lim_succ (k - 1) (by omega)
        rw [show k - 1 + 1 = k from by omega] at hls
        refine Z.skip ?_
        refine Z.nthen ?_
        refine Z.seq ?_
        refine Z.block ?_
        refine Z.drawK (fun j => j != 13) mixed hs ?_
        clear hs; intro wd5 hs
        refine Z.tb [0, 1] (by kernel_rfl) rfl ⟨_, hs, by first | (simp; done) | exact fun e he => List.mem_append_right _ he⟩ rfl ?_
        refine Z.t 2 rfl rfl rfl (by rfl) (by kernel_rfl) ⟨_, hs, by first | (simp; done) | exact fun e he => List.mem_append_right _ he⟩ (Z.Yd.sub rfl rfl (fun hG => Z.wi64 (by first | omega | (have hG' := Z.gh rfl hG; simp at hG'; omega)))) ?_
        refine Z.t 3 rfl rfl rfl (by rfl) (by kernel_rfl) ⟨_, hs, by first | (simp; done) | exact fun e he => List.mem_append_right _ he⟩ (Z.Yd.elemA rfl rfl Try.underlying108 Try.sizeOf3 (fun hG => ⟨(by first | omega | (have hG' := Z.gh rfl hG; simp at hG'; omega)), (by first | omega | (have hG' := Z.gh rfl hG; simp at hG'; omega))⟩)) ?_
        refine Z.t 4 rfl rfl rfl (by rfl) (by kernel_rfl) ⟨_, hs, by first | (simp; done) | exact fun e he => List.mem_append_right _ he⟩ (Z.Yd.load rfl Try.isAgg3 (fun _ => Z.cellB (cs := (lmC k).toArray) (by first | ((repeat (first | exact List.mem_cons_self | refine List.mem_cons_of_mem _ ?_ | refine List.mem_append_right _ ?_)); done) | fail) hget)) ?_
        refine Z.tb [5] (by kernel_rfl) rfl ⟨_, hs, by first | (simp; done) | exact fun e he => List.mem_append_right _ he⟩ rfl ?_
        refine Z.t 6 rfl rfl rfl (by rfl) (by kernel_rfl) ⟨_, hs, by first | (simp; done) | exact fun e he => List.mem_append_right _ he⟩ (Z.Yd.sub rfl rfl (fun hG => Z.wi64 (by first | omega | (have hG' := Z.gh rfl hG; simp at hG'; omega)))) ?_
        refine Z.t 7 rfl rfl rfl (by rfl) (by kernel_rfl) ⟨_, hs, by first | (simp; done) | exact fun e he => List.mem_append_right _ he⟩ (Z.Yd.elemA rfl rfl Try.underlying108 Try.sizeOf3 (fun hG => ⟨(by first | omega | (have hG' := Z.gh rfl hG; simp at hG'; omega)), (by first | omega | (have hG' := Z.gh rfl hG; simp at hG'; omega))⟩)) ?_
        refine Z.t 8 rfl rfl rfl (by rfl) (by kernel_rfl) ⟨_, hs, by first | (simp; done) | exact fun e he => List.mem_append_right _ he⟩ (Z.Yd.load rfl Try.isAgg3 (fun _ => Z.cellB (cs := (lmC k).toArray) (by first | ((repeat (first | exact List.mem_cons_self | refine List.mem_cons_of_mem _ ?_ | refine List.mem_append_right _ ?_)); done) | fail) hget)) ?_
        refine Z.t 9 rfl rfl rfl (by rfl) (by kernel_rfl) ⟨_, hs, by first | (simp; done) | exact fun e he => List.mem_append_right _ he⟩ (Z.Yd.quo rfl rfl (by intro hG; first | decide | omega) (by intro hG; first | exact Z.qi64 ⟨by omega, by omega⟩ (by omega) | exact rfl)) ?_
        refine Z.t 10 rfl rfl rfl (by rfl) (by kernel_rfl) ⟨_, hs, by first | (simp; done) | exact fun e he => List.mem_append_right _ he⟩ (Z.Yd.max rfl rfl) ?_
        refine Z.t 11 rfl rfl rfl (by rfl) (by kernel_rfl) ⟨_, hs, by first | (simp; done) | exact fun e he => List.mem_append_right _ he⟩ (Z.Yd.add rfl rfl (fun hG => Z.wi64 (by first | omega | (have hG' := Z.gh rfl hG; simp at hG'; omega)))) ?_
        refine Z.t 12 rfl rfl rfl (by rfl) (by kernel_rfl) ⟨_, hs, by first | (simp; done) | exact fun e he => List.mem_append_right _ he⟩ (Z.Yd.elemA rfl rfl Try.underlying108 Try.sizeOf3 (fun hG => ⟨(by first | omega | (have hG' := Z.gh rfl hG; simp at hG'; omega)), (by first | omega | (have hG' := Z.gh rfl hG; simp at hG'; omega))⟩)) ?_
        refine Z.tn 13 rfl rfl (by kernel_rfl) rfl trivial ?_
        first | refine Z.ZO.store rfl rfl hs Try.sizeOf3 rfl rfl rfl (by first | exact SX.at0 | exact SX.at1 | exact SX.at2 | exact SX.at3 | exact SX.at4 | exact SX.at5 | exact Z.at6 | exact Z.at7 | exact Z.at8 | exact Z.at9 | exact Z.at10 | exact Z.at11 | exact Z.at12) (by first | (simp; done) | (simp; omega)) ?_ | refine Z.ZO.storeR rfl rfl hs Try.sizeOf3 rfl rfl rfl (by first | exact SX.at0 | exact SX.at1 | exact SX.at2 | exact SX.at3 | exact SX.at4 | exact SX.at5 | exact Z.at6 | exact Z.at7 | exact Z.at8 | exact Z.at9 | exact Z.at10 | exact Z.at11 | exact Z.at12) (by first | omega | (simp [ints_length]; done) | (simp [ints_length]; omega)) ?_
        clear hs; intro ws hs
        simp only [Nat.zero_add, Nat.add_zero, Nat.reduceAdd, Int.reduceToNat, Nat.reduceMul, List.set_cons_zero, List.set_cons_succ, List.setIfInBounds_toArray] at hs
        refine Z.tk (Dn := fun j => j != 13) (i := 13) (fun h => absurd h (by decide)) ?_
        refine Z.td (by rfl) (by kernel_rfl) ?_
        refine Z.only [0, 1] rfl ?_
        refine Z.nblock ?_
        refine Z.nthen ?_
        refine Z.region ?_
        refine Z.lb 1 rfl ?_
        refine Z.l rfl rfl (by rfl) (Z.keepS hs) (Z.Yd.add rfl rfl (fun hG => Z.wi64 (by first | omega | (have hG' := Z.gh rfl hG; simp at hG'; omega)))) ?_
        refine Z.lb 1 rfl ?_
        refine Z.lnil ?_
        refine Z.only [0, 1] rfl ?_
        refine Z.nthen ?_
        rw [show lim (k - 1) + max 2 (lim (k - 1) / 6) = lim k from hls.symm, show (k : Int).toNat * 1 = k from by omega, lmC_set (by omega)] at hs
        exact Z.again (k + 1) (by refine ⟨?_, ?_, trivial⟩ <;> (first | rfl | (refine Z.lookv rfl ?_; simp; done) | (refine Z.lookv rfl ?_; simp; omega))) ⟨by omega, hs⟩ (by omega)
        )
  · first
      | (exfalso; simp at hc3 <;> omega)
      | (
        (try simp at hc3)
        refine Z.exit ?_
        refine Z.xthen ?_
        refine Z.xthen ?_
        refine Z.xblock ?_
        refine Z.nthen ?_
        refine Z.seq ?_
        refine Z.region ?_
        obtain rfl : k = 63 := by omega
        refine Z.l rfl rfl (by rfl) (Z.keepS hs) (by first | exact Z.Yd.loadA _ rfl Try.isAgg108 (fun _ => Z.cellsB (by first | ((repeat (first | exact List.mem_cons_self | refine List.mem_cons_of_mem _ ?_ | refine List.mem_append_right _ ?_)); done) | fail)) (by exact Try.sizeOf108) | fail "load 6.0") ?_
        refine Z.le rfl trivial ?_
        refine Z.ZO.storeA rfl rfl hs rfl rfl (by kernel_rfl) (by rw [List.all_toArray]; exact List.all_eq_true.2 (lmC_one 63)) (by first | exact SX.at0 | exact SX.at1 | exact SX.at2 | exact SX.at3 | exact SX.at4 | exact SX.at5 | exact Z.at6 | exact Z.at7 | exact Z.at8 | exact Z.at9 | exact Z.at10 | exact Z.at11 | exact Z.at12) (by rfl) ?_
        clear hs; intro ws hs
        simp only [Nat.zero_add, Nat.add_zero, Nat.reduceAdd, Int.reduceToNat, Nat.reduceMul, List.set_cons_zero, List.set_cons_succ, List.setIfInBounds_toArray] at hs
        refine Z.lnil ?_
        refine Z.only [0] rfl ?_
        refine Z.nthen ?_
        refine Z.ret ?_
        -- ret#0
        refine Z.out1 (by exact ⟨⟨_, rfl, Z.rvcA hs Try.isAgg108 (by first | ((repeat (first | exact List.mem_cons_self | refine List.mem_cons_of_mem _ ?_ | refine List.mem_append_right _ ?_)); done) | fail) (by exact Try.sizeOf108)⟩, trivial⟩) ?_
        first | exact ⟨_, rfl, rfl, hs⟩ | exact ⟨_, rfl, rfl, hs.sub (List.nil_sublist _)⟩
        )
end Go.Proofs.Ytjejdlolgmhljaa

/- Control elements: levels. -/
namespace Go.Proofs.Ytjejdlolgmhljaa
open Go.RowKit
set_option linter.unusedSimpArgs false
set_option linter.unusedVariables false
--newlaws

theorem cnan_any (x : Int) (w : World) : Calls Try.prog 70 #[.int .i64 x] w (SX.Ret fun v w' => v = .bool false ∧ SX.St w [] w' []) := by
  have hs := SX.St.start w
  refine Z.enter Try.func70 rfl Try.ntmps70 rfl rfl ?_
  refine Z.seq ?_
  refine Z.region ?_
  refine Z.lb 1 rfl ?_
  refine Z.lnil ?_
  refine Z.only [0] rfl ?_
  refine Z.nthen ?_
  refine Z.seq ?_
  refine Z.region ?_
  refine Z.lb 4 rfl ?_
  refine Z.lnil ?_
  refine Z.only [2] rfl ?_
  refine Z.nthen ?_
  refine Z.ret ?_
  -- ret#0
  refine Z.out1 (by exact ⟨rfl, trivial⟩) ?_
  exact ⟨_, rfl, by simp, hs⟩
theorem snan_any (x : Int) (w : World) : Calls Try.prog 67 #[.int .i64 x] w (SX.Ret fun v w' => v = .bool false ∧ SX.St w [] w' []) := by
  have hs := SX.St.start w
  refine Z.enter Try.func67 rfl Try.ntmps67 rfl rfl ?_
  refine Z.seq ?_
  refine Z.region ?_
  refine Z.lb 1 rfl ?_
  refine Z.lnil ?_
  refine Z.only [0] rfl ?_
  refine Z.nthen ?_
  refine Z.seq ?_
  refine Z.region ?_
  refine Z.lb 4 rfl ?_
  refine Z.lnil ?_
  refine Z.only [2] rfl ?_
  refine Z.nthen ?_
  refine Z.ret ?_
  -- ret#0
  refine Z.out1 (by exact ⟨rfl, trivial⟩) ?_
  exact ⟨_, rfl, by simp, hs⟩
theorem less_any (x y : Int) (w : World) : Calls Try.prog 66 #[.int .i64 x, .int .i64 y] w (SX.Ret fun v w' => v = .bool (decide (x < y)) ∧ SX.St w [] w' []) := by
  have hs := SX.St.start w
  refine Z.enter Try.func66 rfl Try.ntmps66 rfl rfl ?_
  refine Z.seq ?_
  refine Z.region ?_
  refine Z.lb 1 rfl ?_
  refine Z.lnil ?_
  refine Z.only [0, 1] rfl ?_
  refine Z.nthen ?_
  refine Z.seq ?_
  refine Z.region ?_
  refine Z.lb 1 rfl ?_
  refine Z.le rfl trivial ?_
  refine Z.ZO.call rfl rfl (by rfl) rfl rfl Try.call70 rfl (cnan_any x _) ?_
  rintro v1_1 w1_1 ⟨rfl, hy⟩
  replace hs := hs.call hy
  clear hy
  try simp only [List.cons_append, List.nil_append, List.append_nil] at hs
  refine Z.lb 1 rfl ?_
  refine Z.yes (s := 7) (b := false) rfl (rfl) rfl ?_
  refine Z.ls rfl rfl rfl (by rfl) ?_
  refine Z.ls rfl rfl rfl (by rfl) ?_
  refine Z.ls rfl rfl rfl (by rfl) ?_
  refine Z.l rfl rfl (by rfl) (Z.keepS hs) (Z.Yd.pickF rfl rfl) ?_
  refine Z.lb 1 rfl ?_
  refine Z.yes (s := 12) (b := false) rfl (rfl) rfl ?_
  refine Z.lb 3 rfl ?_
  refine Z.yes (s := 12) (b := false) rfl rfl rfl ?_
  refine Z.l rfl rfl (by rfl) (Z.keepS hs) (Z.Yd.pickF rfl rfl) ?_
  refine Z.lb 1 rfl ?_
  refine Z.lnil ?_
  refine Z.only [4] rfl ?_
  refine Z.nthen ?_
  refine Z.ret ?_
  -- ret#0
  refine Z.out1 (by exact ⟨rfl, trivial⟩) ?_
  exact ⟨_, rfl, by simp, hs⟩
set_option maxRecDepth 100000 in
/-- the first place of a sorted list whose number is not less than x -/
theorem bsearch_any (A : Option Addr) (n c : Nat) (l : List Int) (x : Int) (w : World) (hx : Sl w A (ints .i64 l)) (hl : l.length = n) (hn : n ≤ 1000000) (hm : ∀ i j : Nat, i ≤ j → j < n → elt l (i : Int) ≤ elt l (j : Int)) :
    Calls Try.prog 60 #[.slice A n c, .int .i64 x] w (SX.Ret fun v w' => (∃ (i : Nat) (b : Bool), v = .tuple #[.int .i64 (i : Int), .bool b] ∧ i ≤ n ∧ (∀ j : Nat, j < i → elt l (j : Int) < x) ∧ ∀ j : Nat, i ≤ j → j < n → x ≤ elt l (j : Int)) ∧ SX.St w [] w' []) := by
  have hs := SX.St.start w
  refine Z.enter Try.func60 rfl Try.ntmps60 rfl rfl ?_
  refine Z.seq ?_
  refine Z.region ?_
  refine Z.lb 2 rfl ?_
  refine Z.lnil ?_
  refine Z.only [0, 1] rfl ?_
  refine Z.nthen ?_
  refine Z.seq ?_
  refine Z.region ?_
  refine Z.lb 1 rfl ?_
  refine Z.l rfl rfl (by rfl) (Z.keepS hs) (Z.Yd.lenS rfl Try.underlying35) ?_
  refine Z.lb 1 rfl ?_
  refine Z.lnil ?_
  refine Z.only [0, 1, 6] rfl ?_
  refine Z.nthen ?_
  refine Z.seq ?_
  refine Z.region ?_
  refine Z.lb 3 rfl ?_
  refine Z.lnil ?_
  refine Z.only [0, 1, 6, 7, 8] rfl ?_
  refine Z.nthen ?_
  refine Z.seq ?_
  refine Z.block ?_
  refine Z.loopk (ι := Nat × Nat) [0, 1, 6] rfl (fun p => [(7, [], .int .i64 (p.1 : Int)), (8, [], .int .i64 (p.2 : Int))]) (fun p wr => ((p.1 ≤ p.2 ∧ p.2 ≤ n) ∧ (∀ j : Nat, j < p.1 → elt l (j : Int) < x) ∧ ∀ j : Nat, p.2 ≤ j → j < n → x ≤ elt l (j : Int)) ∧ SX.St w [] wr []) (fun p => p.2 - p.1) (0, n) (by refine ⟨?_, ?_, trivial⟩ <;> (first | rfl | (refine Z.lookv rfl ?_; simp; done) | (refine Z.lookv rfl ?_; simp; omega))) ⟨⟨by simp, by simp, by simp only; intro j h1 h2; omega⟩, hs⟩ ?_
  clear hs
  rintro ⟨lo, hi⟩ w1 ⟨⟨hb, hlo, hhi⟩, hs⟩
  refine Z.only [0, 1, 6, 7, 8] rfl ?_
  (try dsimp only at hs)
  dsimp only at hb hlo hhi
  refine Z.seq ?_
  refine Z.seq ?_
  refine Z.region ?_
  refine Z.lb 3 rfl ?_
  refine Z.lnil ?_
  refine Z.only [0, 1, 6, 7, 8, 15] rfl ?_
  refine Z.nthen ?_
  refine Z.cond rfl (fun hc3 => ?_) (fun hc3 => ?_)
  · first
      | (exfalso; simp at hc3 <;> omega)
      | (
        (try simp at hc3)
        obtain ⟨bb, off, rfl, hbb, hx⟩ := Z.Sl.some hx (by simp [ints]; omega)
        obtain ⟨m, hmm⟩ : ∃ m : Nat, m = (lo + hi) / 2 := ⟨_, rfl⟩
        have hsum : ((lo : Int) + (hi : Int)) / 2 = (m : Int) := by omega
        have hm1 : lo ≤ m ∧ m < hi := by omega
        refine Z.skip ?_
        refine Z.nthen ?_
        refine Z.block ?_
        refine Z.seq ?_
        refine Z.region ?_
        refine Z.lb 2 rfl ?_
        refine Z.l rfl rfl (by rfl) (Z.keepS hs) (Z.Yd.add rfl rfl (fun hG => Z.wi64 (by first | omega | (have hG' := Z.gh rfl hG; simp at hG'; omega)))) ?_
        refine Z.l rfl rfl (by rfl) (Z.keepS hs) (Z.Yd.convI rfl ⟨_, Try.underlying3⟩ Try.underlying118 (fun hG => Z.wu64 (by first | omega | (have hG' := Z.gh rfl hG; simp at hG'; omega)))) ?_
        refine Z.l rfl rfl (by rfl) (Z.keepS hs) (Z.Yd.shr rfl rfl (by intro hG; decide) (fun _ => Z.shrl (c := 2) rfl)) ?_
        rw [hsum]
        refine Z.l rfl rfl (by rfl) (Z.keepS hs) (Z.Yd.convI rfl ⟨_, Try.underlying118⟩ Try.underlying3 (fun hG => Z.wi64 (by first | omega | (have hG' := Z.gh rfl hG; simp at hG'; omega)))) ?_
        refine Z.lb 1 rfl ?_
        refine Z.lnil ?_
        refine Z.only [0, 1, 6, 7, 8, 9] rfl ?_
        refine Z.nthen ?_
        refine Z.seq ?_
        refine Z.region ?_
        refine Z.lb 2 rfl ?_
        refine Z.l rfl rfl (by rfl) (Z.keepS hs) (Z.Yd.elem rfl rfl Try.underlying35 Try.sizeOf3 (fun hG => ⟨(by first | omega | (have hG' := Z.gh rfl hG; simp at hG'; omega)), (by first | omega | (have hG' := Z.gh rfl hG; simp at hG'; omega))⟩)) ?_
        refine Z.l rfl rfl (by rfl) (Z.keepS hs) (by first | exact Z.Yd.load rfl Try.isAgg3 (fun _ => Z.cellB (by first | ((repeat (first | exact List.mem_cons_self | refine List.mem_cons_of_mem _ ?_ | refine List.mem_append_right _ ?_)); done) | fail) rfl) | exact Z.Yd.load rfl Try.isAgg3 (fun hG => Z.cellR (by first | ((repeat (first | exact List.mem_cons_self | refine List.mem_cons_of_mem _ ?_ | refine List.mem_append_right _ ?_)); done) | fail) (Z.ints_at (by first | omega | (have hG' := Z.gh rfl hG; simp at hG'; omega)) (by first | omega | (have hG' := Z.gh rfl hG; simp at hG'; omega)))) | exact Z.Yd.load rfl Try.isAgg3 (fun hG => Z.cellXi (by assumption) (by first | omega | (have hG' := Z.gh rfl hG; simp at hG'; omega)) (by first | omega | (have hG' := Z.gh rfl hG; simp at hG'; omega))) | exact Z.Yd.load rfl Try.isAgg3 (fun hG => Z.cellS (by assumption) rfl (by first | omega | (have hG' := Z.gh rfl hG; simp at hG'; omega)) (by first | omega | (have hG' := Z.gh rfl hG; simp at hG'; omega))) | fail "load 5.3") ?_
        refine Z.lb 1 rfl ?_
        refine Z.le rfl trivial ?_
        refine Z.ZO.call rfl rfl (by rfl) rfl rfl Try.call66 rfl (less_any _ _ _) ?_
        rintro v5_5 w5_5 ⟨rfl, hy⟩
        replace hs := hs.call hy
        clear hy
        try simp only [List.cons_append, List.nil_append, List.append_nil] at hs
        refine Z.lnil ?_
        refine Z.only [0, 1, 6, 7, 8, 9, 27] rfl ?_
        refine Z.nthen ?_
        refine Z.cond rfl (fun hc5 => ?_) (fun hc5 => ?_)
        · first
            | (exfalso; simp at hc5 <;> omega)
            | (
              (try simp at hc5)
              refine Z.region ?_
              refine Z.lb 1 rfl ?_
              refine Z.l rfl rfl (by rfl) (Z.keepS hs) (Z.Yd.add rfl rfl (fun hG => Z.wi64 (by first | omega | (have hG' := Z.gh rfl hG; simp at hG'; omega)))) ?_
              refine Z.lb 1 rfl ?_
              refine Z.lnil ?_
              refine Z.only [0, 1, 6, 7, 8] rfl ?_
              refine Z.nblock ?_
              refine Z.nthen ?_
              first
              | exact Z.again (m + 1, hi) (by refine ⟨?_, ?_, ?_, ?_, ?_, trivial⟩ <;> (first | rfl | (refine Z.lookv rfl ?_; simp; done) | (refine Z.lookv rfl ?_; simp; omega))) ⟨⟨by simp only; omega, by
                  simp only
                  intro j hj
                  exact Int.lt_of_le_of_lt (hm j m (by omega) (by omega)) (by assumption), hhi⟩, hs⟩ (by simp only; omega)
              | exact Z.again (lo, m) (by refine ⟨?_, ?_, ?_, ?_, ?_, trivial⟩ <;> (first | rfl | (refine Z.lookv rfl ?_; simp; done) | (refine Z.lookv rfl ?_; simp; omega))) ⟨⟨by simp only; omega, hlo, by
                  simp only
                  intro j hj hjn
                  exact Int.le_trans (by assumption) (hm m j (by omega) (by omega))⟩, hs⟩ (by simp only; omega)
              )
        · first
            | (exfalso; simp at hc5 <;> omega)
            | (
              (try simp at hc5)
              refine Z.region ?_
              refine Z.lb 2 rfl ?_
              refine Z.lnil ?_
              refine Z.only [0, 1, 6, 7, 8] rfl ?_
              refine Z.nblock ?_
              refine Z.nthen ?_
              first
              | exact Z.again (m + 1, hi) (by refine ⟨?_, ?_, ?_, ?_, ?_, trivial⟩ <;> (first | rfl | (refine Z.lookv rfl ?_; simp; done) | (refine Z.lookv rfl ?_; simp; omega))) ⟨⟨by simp only; omega, by
                  simp only
                  intro j hj
                  exact Int.lt_of_le_of_lt (hm j m (by omega) (by omega)) (by assumption), hhi⟩, hs⟩ (by simp only; omega)
              | exact Z.again (lo, m) (by refine ⟨?_, ?_, ?_, ?_, ?_, trivial⟩ <;> (first | rfl | (refine Z.lookv rfl ?_; simp; done) | (refine Z.lookv rfl ?_; simp; omega))) ⟨⟨by simp only; omega, hlo, by
                  simp only
                  intro j hj hjn
                  exact Int.le_trans (by assumption) (hm m j (by omega) (by omega))⟩, hs⟩ (by simp only; omega)
              )
        )
  · first
      | (exfalso; simp at hc3 <;> omega)
      | (
        (try simp at hc3)
        refine Z.exit ?_
        refine Z.xthen ?_
        refine Z.xthen ?_
        refine Z.xblock ?_
        refine Z.nthen ?_
        refine Z.seq ?_
        refine Z.region ?_
        obtain rfl : lo = hi := by omega
        refine Z.l rfl rfl (by rfl) (Z.keepS hs) (Z.Yd.pure rfl) ?_
        refine Z.lb 4 rfl ?_
        refine Z.split (s := 35) rfl (fun hsp35 => ?_) (fun hsp35 => ?_)
        · first
            | (exfalso; simp at hsp35 <;> omega)
            | (
              refine Z.yes (s := 35) (b := true) rfl hsp35 rfl ?_
              (try simp at hsp35)
              obtain ⟨bb, off, rfl, hbb, hx⟩ := Z.Sl.some hx (by simp [ints]; omega)
              refine Z.lb 2 rfl ?_
              refine Z.l rfl rfl (by rfl) (Z.keepS hs) (Z.Yd.elem rfl rfl Try.underlying35 Try.sizeOf3 (fun hG => ⟨(by first | omega | (have hG' := Z.gh rfl hG; simp at hG'; omega)), (by first | omega | (have hG' := Z.gh rfl hG; simp at hG'; omega))⟩)) ?_
              refine Z.l rfl rfl (by rfl) (Z.keepS hs) (by first | exact Z.Yd.load rfl Try.isAgg3 (fun _ => Z.cellB (by first | ((repeat (first | exact List.mem_cons_self | refine List.mem_cons_of_mem _ ?_ | refine List.mem_append_right _ ?_)); done) | fail) rfl) | exact Z.Yd.load rfl Try.isAgg3 (fun hG => Z.cellR (by first | ((repeat (first | exact List.mem_cons_self | refine List.mem_cons_of_mem _ ?_ | refine List.mem_append_right _ ?_)); done) | fail) (Z.ints_at (by first | omega | (have hG' := Z.gh rfl hG; simp at hG'; omega)) (by first | omega | (have hG' := Z.gh rfl hG; simp at hG'; omega)))) | exact Z.Yd.load rfl Try.isAgg3 (fun hG => Z.cellXi (by assumption) (by first | omega | (have hG' := Z.gh rfl hG; simp at hG'; omega)) (by first | omega | (have hG' := Z.gh rfl hG; simp at hG'; omega))) | exact Z.Yd.load rfl Try.isAgg3 (fun hG => Z.cellS (by assumption) rfl (by first | omega | (have hG' := Z.gh rfl hG; simp at hG'; omega)) (by first | omega | (have hG' := Z.gh rfl hG; simp at hG'; omega))) | fail "load 8.8") ?_
              refine Z.lb 3 rfl ?_
              refine Z.yes (s := 35) (b := true) rfl rfl rfl ?_
              refine Z.split (s := 42) rfl (fun hsp42 => ?_) (fun hsp42 => ?_)
              · first
                  | (exfalso; simp at hsp42 <;> omega)
                  | (
                    refine Z.yes (s := 42) (b := true) rfl hsp42 rfl ?_
                    (try simp at hsp42)
                    refine Z.ls rfl rfl rfl (by rfl) ?_
                    refine Z.ls rfl rfl rfl (by rfl) ?_
                    refine Z.ls rfl rfl rfl (by rfl) ?_
                    refine Z.ls rfl rfl rfl (by rfl) ?_
                    refine Z.ls rfl rfl rfl (by rfl) ?_
                    refine Z.ls rfl rfl rfl (by rfl) ?_
                    refine Z.lsU rfl rfl rfl (by rfl) ?_
                    refine Z.lsU rfl rfl rfl (by rfl) ?_
                    refine Z.ls rfl rfl rfl (by rfl) ?_
                    refine Z.l rfl rfl (by rfl) (Z.keepS hs) (Z.Yd.pickT rfl rfl) ?_
                    refine Z.yes (s := 35) (b := true) rfl rfl rfl ?_
                    refine Z.l rfl rfl (by rfl) (Z.keepS hs) (Z.Yd.pickT rfl rfl) ?_
                    refine Z.lb 2 rfl ?_
                    refine Z.lnil ?_
                    refine Z.only [4, 5] rfl ?_
                    refine Z.nthen ?_
                    refine Z.ret ?_
                    -- ret#0
                    refine Z.out2 (by exact ⟨rfl, rfl, trivial⟩) ?_
                    exact ⟨_, rfl, ⟨lo, _, rfl, by omega, hlo, hhi⟩, hs⟩
                    )
              · first
                  | (exfalso; simp at hsp42 <;> omega)
                  | (
                    refine Z.yes (s := 42) (b := false) rfl hsp42 rfl ?_
                    (try simp at hsp42)
                    refine Z.lb 2 rfl ?_
                    refine Z.l rfl rfl (by rfl) (Z.keepS hs) (Z.Yd.elem rfl rfl Try.underlying35 Try.sizeOf3 (fun hG => ⟨(by first | omega | (have hG' := Z.gh rfl hG; simp at hG'; omega)), (by first | omega | (have hG' := Z.gh rfl hG; simp at hG'; omega))⟩)) ?_
                    refine Z.l rfl rfl (by rfl) (Z.keepS hs) (by first | exact Z.Yd.load rfl Try.isAgg3 (fun _ => Z.cellB (by first | ((repeat (first | exact List.mem_cons_self | refine List.mem_cons_of_mem _ ?_ | refine List.mem_append_right _ ?_)); done) | fail) rfl) | exact Z.Yd.load rfl Try.isAgg3 (fun hG => Z.cellR (by first | ((repeat (first | exact List.mem_cons_self | refine List.mem_cons_of_mem _ ?_ | refine List.mem_append_right _ ?_)); done) | fail) (Z.ints_at (by first | omega | (have hG' := Z.gh rfl hG; simp at hG'; omega)) (by first | omega | (have hG' := Z.gh rfl hG; simp at hG'; omega)))) | exact Z.Yd.load rfl Try.isAgg3 (fun hG => Z.cellXi (by assumption) (by first | omega | (have hG' := Z.gh rfl hG; simp at hG'; omega)) (by first | omega | (have hG' := Z.gh rfl hG; simp at hG'; omega))) | exact Z.Yd.load rfl Try.isAgg3 (fun hG => Z.cellS (by assumption) rfl (by first | omega | (have hG' := Z.gh rfl hG; simp at hG'; omega)) (by first | omega | (have hG' := Z.gh rfl hG; simp at hG'; omega))) | fail "load 8.15") ?_
                    refine Z.yes (s := 42) (b := false) rfl rfl rfl ?_
                    refine Z.le rfl (by exact ⟨rfl, trivial⟩) ?_
                    refine Z.ZO.call rfl rfl (by rfl) rfl rfl Try.call67 rfl (snan_any _ _) ?_
                    rintro v8_16 w8_16 ⟨rfl, hy⟩
                    replace hs := hs.call hy
                    clear hy
                    try simp only [List.cons_append, List.nil_append, List.append_nil] at hs
                    refine Z.lb 1 rfl ?_
                    refine Z.yes (s := 42) (b := false) rfl rfl rfl ?_
                    refine Z.yes (s := 48) (b := false) rfl (rfl) rfl ?_
                    refine Z.ls rfl rfl rfl (by rfl) ?_
                    refine Z.ls rfl rfl rfl (by rfl) ?_
                    refine Z.l rfl rfl (by rfl) (Z.keepS hs) (Z.Yd.pickF rfl rfl) ?_
                    refine Z.yes (s := 42) (b := false) rfl rfl rfl ?_
                    refine Z.l rfl rfl (by rfl) (Z.keepS hs) (Z.Yd.pickF rfl rfl) ?_
                    refine Z.yes (s := 35) (b := true) rfl rfl rfl ?_
                    refine Z.l rfl rfl (by rfl) (Z.keepS hs) (Z.Yd.pickT rfl rfl) ?_
                    refine Z.lb 2 rfl ?_
                    refine Z.lnil ?_
                    refine Z.only [4, 5] rfl ?_
                    refine Z.nthen ?_
                    refine Z.ret ?_
                    -- ret#1
                    refine Z.out2 (by exact ⟨rfl, rfl, trivial⟩) ?_
                    exact ⟨_, rfl, ⟨lo, _, rfl, by omega, hlo, hhi⟩, hs⟩
                    )
              )
        · first
            | (exfalso; simp at hsp35 <;> omega)
            | (
              refine Z.yes (s := 35) (b := false) rfl hsp35 rfl ?_
              (try simp at hsp35)
              refine Z.ls rfl rfl rfl (by rfl) ?_
              refine Z.ls rfl rfl rfl (by rfl) ?_
              refine Z.ls rfl rfl rfl (by rfl) ?_
              refine Z.ls rfl rfl rfl (by rfl) ?_
              refine Z.ls rfl rfl rfl (by rfl) ?_
              refine Z.ls rfl rfl rfl (by rfl) ?_
              refine Z.ls rfl rfl rfl (by rfl) ?_
              refine Z.lsU rfl rfl rfl (by rfl) ?_
              refine Z.lsU rfl rfl rfl (by rfl) ?_
              refine Z.lsU rfl rfl rfl (by rfl) ?_
              refine Z.lsU rfl rfl rfl (by rfl) ?_
              refine Z.lsU rfl rfl rfl (by rfl) ?_
              refine Z.lsU rfl rfl rfl (by rfl) ?_
              refine Z.lsU rfl rfl rfl (by rfl) ?_
              refine Z.lsU rfl rfl rfl (by rfl) ?_
              refine Z.lsU rfl rfl rfl (by rfl) ?_
              refine Z.ls rfl rfl rfl (by rfl) ?_
              refine Z.l rfl rfl (by rfl) (Z.keepS hs) (Z.Yd.pickF rfl rfl) ?_
              refine Z.lb 2 rfl ?_
              refine Z.lnil ?_
              refine Z.only [4, 5] rfl ?_
              refine Z.nthen ?_
              refine Z.ret ?_
              -- ret#2
              refine Z.out2 (by exact ⟨rfl, rfl, trivial⟩) ?_
              exact ⟨_, rfl, ⟨lo, _, rfl, by omega, hlo, hhi⟩, hs⟩
              )
        )
end Go.Proofs.Ytjejdlolgmhljaa

/- Control elements: Level, Limit, and the document's. -/
namespace Go.Proofs.Ytjejdlolgmhljaa
open Go.RowKit
set_option linter.unusedSimpArgs false
set_option linter.unusedVariables false
--newlaws

def lvl (x : Int) : Nat := (List.range 63).findIdx fun k => decide (x ≤ lim k)
theorem lvl_eq {x : Int} {i : Nat} (h : i ≤ 63) (h1 : ∀ j : Nat, j < i → lim j < x) (h2 : ∀ j : Nat, i ≤ j → j < 63 → x ≤ lim j) : lvl x = i := by
  unfold lvl
  by_cases hi : i < 63
  · rw [List.findIdx_eq (by simpa using hi)]
    refine ⟨by simpa using h2 i (Nat.le_refl i) hi, fun j hj => ?_⟩
    have := h1 j hj
    simp
    omega
  · obtain rfl : i = 63 := by omega
    have : (List.range 63).findIdx (fun k => decide (x ≤ lim k)) = (List.range 63).length := by
      rw [List.findIdx_eq_length]
      intro k hk
      have := h1 k (by simpa using hk)
      simp
      omega
    rw [this, List.length_range]
theorem lvl_spec (x : Int) : lvl x ≤ 63 ∧ (∀ j : Nat, j < lvl x → lim j < x) ∧ ∀ j : Nat, lvl x ≤ j → j < 63 → x ≤ lim j := by
  have key : ∃ i, i ≤ 63 ∧ (∀ j : Nat, j < i → lim j < x) ∧ ∀ j : Nat, i ≤ j → j < 63 → x ≤ lim j := by
    have : ∀ n, n ≤ 63 → ∃ i, i ≤ n ∧ (∀ j : Nat, j < i → lim j < x) ∧ ∀ j : Nat, i ≤ j → j < n → x ≤ lim j := by
      intro n
      induction n with
      | zero => intro _; exact ⟨0, by omega, fun j hj => by omega, fun j _ h => by omega⟩
      | succ n ih =>
        intro hn
        obtain ⟨i, h0, h1, h2⟩ := ih (by omega)
        by_cases hx : x ≤ lim n
        · refine ⟨i, by omega, h1, fun j hj hjn => ?_⟩
          by_cases e : j = n
          · rw [e]; exact hx
          · exact h2 j hj (by omega)
        · refine ⟨n + 1, Nat.le_refl _, fun j hj => ?_, fun j h1 h2 => by omega⟩
          have := lim_mono (show j ≤ n by omega)
          omega
    exact this 63 (Nat.le_refl _)
  obtain ⟨i, h0, h1, h2⟩ := key
  rw [lvl_eq h0 h1 h2]
  exact ⟨h0, h1, h2⟩
def levV (x : Int) : Int := if x < 0 then 0 else (lvl x : Int)
def levE (x : Int) : Int := if x < 0 then 2 else 0
theorem elt_lm {j : Nat} (hj : j < 63) : elt (lmI 63) (j : Int) = lim j := by
  unfold elt
  rw [List.getD_eq_getElem?_getD, Int.toNat_natCast, lmI_get hj hj]
  rfl
set_option maxRecDepth 100000 in
theorem clevel_any (x : Int) (w : World) : Calls Try.prog 49 #[.int .i64 x] w (SX.Ret fun v w' => v = .tuple #[.int .i64 (levV x), .int .i64 (levE x)] ∧ SX.St w [] w' []) := by
  have hs := SX.St.start w
  refine Z.enter Try.func49 rfl Try.ntmps49 rfl rfl ?_
  refine Z.seq ?_
  refine Z.region ?_
  refine Z.lb 2 rfl ?_
  refine Z.lnil ?_
  refine Z.only [0] rfl ?_
  refine Z.nthen ?_
  refine Z.seq ?_
  refine Z.seq ?_
  refine Z.region ?_
  refine Z.lb 2 rfl ?_
  refine Z.lnil ?_
  refine Z.only [0, 8] rfl ?_
  refine Z.nthen ?_
  refine Z.cond rfl (fun hc1 => ?_) (fun hc1 => ?_)
  · first
      | (exfalso; simp at hc1 <;> omega)
      | (
        (try simp at hc1)
        refine Z.seq ?_
        refine Z.region ?_
        refine Z.lb 2 rfl ?_
        refine Z.lnil ?_
        refine Z.only [2, 3] rfl ?_
        refine Z.nthen ?_
        refine Z.ret ?_
        repeat (first | refine Z.rthen ?_ | refine Z.rblock ?_ | refine Z.rscope ?_)
        -- ret#0
        refine Z.out2 (by exact ⟨rfl, rfl, trivial⟩) ?_
        exact ⟨_, rfl, by unfold levV levE; rw [if_pos (by omega), if_pos (by omega)], hs⟩
        )
  · first
      | (exfalso; simp at hc1 <;> omega)
      | (
        (try simp at hc1)
        refine Z.skip ?_
        refine Z.nthen ?_
        refine Z.seq ?_
        refine Z.region ?_
        refine Z.le rfl trivial ?_
        refine Z.ZO.call rfl rfl (by rfl) rfl rfl Try.call59 rfl (limits_any _) ?_
        rintro v3_0 w3_0 ⟨rfl, hy⟩
        replace hs := hs.call hy
        clear hy
        try simp only [List.cons_append, List.nil_append, List.append_nil] at hs
        refine Z.le rfl trivial ?_
        refine Z.ZO.alloc rfl rfl (by rfl) Try.zeroValue108 rfl hs ?_
        clear hs; intro g4 w4 hs
        refine Z.le rfl trivial ?_
        refine Z.ZO.storeA rfl rfl hs rfl rfl (by kernel_rfl) (by rw [List.all_toArray]; exact List.all_eq_true.2 (lmC_one 63)) SX.at0 (show (63 : Nat) = (lmC 63).length from (lmC_len 63).symm) ?_
        clear hs; intro ws hs
        simp only [Nat.zero_add, Nat.add_zero, Nat.reduceAdd, Int.reduceToNat, Nat.reduceMul, List.set_cons_zero, List.set_cons_succ, List.setIfInBounds_toArray] at hs
        refine Z.lnil ?_
        refine Z.only [0, 4] rfl ?_
        refine Z.nthen ?_
        refine Z.seq ?_
        refine Z.region ?_
        refine Z.l rfl rfl (by rfl) (Z.keepS hs) (Z.Yd.cutA rfl Try.underlying108 Try.sizeOf3) ?_
        refine Z.lb 1 rfl ?_
        have hsl := (Z.blk_lentj (L1 := []) hs (j := 0) rfl).sl
        refine Z.le rfl trivial ?_
        refine Z.ZO.call rfl rfl (by rfl) rfl rfl Try.call60 rfl (bsearch_any _ 63 63 (lmI 63) x _ hsl (by simp [lmI]) (by omega) (fun i j hij hj ↦ by rw [elt_lm (by omega), elt_lm (by omega)]; exact lim_mono hij)) ?_
        rintro v4_2 w4_2 ⟨⟨i, b, rfl, hi, h1, h2⟩, hy⟩
        replace hs := hs.call hy
        clear hy
        try simp only [List.cons_append, List.nil_append, List.append_nil] at hs
        refine Z.lb 5 rfl ?_
        refine Z.lnil ?_
        refine Z.only [5] rfl ?_
        refine Z.nthen ?_
        refine Z.seq ?_
        refine Z.region ?_
        refine Z.lb 3 rfl ?_
        refine Z.lnil ?_
        refine Z.only [2, 3] rfl ?_
        refine Z.nthen ?_
        refine Z.ret ?_
        -- ret#1
        refine Z.out2 (by exact ⟨rfl, rfl, trivial⟩) ?_
        have e : lvl x = i := lvl_eq hi (fun j hj => by have := h1 j hj; rwa [elt_lm (by omega)] at this) (fun j hj hj2 => by have := h2 j hj hj2; rwa [elt_lm (by omega)] at this)
        exact ⟨_, rfl, by unfold levV levE; rw [if_neg (by omega), if_neg (by omega), e], hs.sub (List.nil_sublist _)⟩
        )
end Go.Proofs.Ytjejdlolgmhljaa

/- Control elements: the examples of the chapter. -/
namespace Go.Proofs.Ytjejdlolgmhljaa
open Go.RowKit
set_option linter.unusedSimpArgs false
set_option linter.unusedVariables false
--newlaws

instance (r : RepV) : Decidable r.ok := by unfold RepV.ok okL; infer_instance
theorem encrep_ok (r : RepV) (w : World) (hr : r.ok) :
    Calls Try.prog 34 #[.agg r.cells.toArray] w (SX.Ret fun v w' => ∃ u, v = .tuple #[u, .int .i64 0] ∧ IsPart (encLc r) (encL r) u w w') := by
  have hs := SX.St.start w
  refine Z.enter Try.func34 rfl Try.ntmps34 rfl rfl ?_
  refine Z.seq ?_
  refine Z.region ?_
  refine Z.le rfl trivial ?_
  refine Z.ZO.box rfl rfl (by rfl) rfl rfl hs ?_
  clear hs; intro g1 w1 hs
  refine Z.le rfl trivial ?_
  refine Z.ZO.alloc rfl rfl (by rfl) Try.zeroValue51 rfl hs ?_
  clear hs; intro g2 w2 hs
  refine Z.lb 1 rfl ?_
  refine Z.lnil ?_
  refine Z.only [1, 2] rfl ?_
  refine Z.nthen ?_
  refine Z.seq ?_
  refine Z.region ?_
  refine Z.lb 1 rfl ?_
  have hof : ∀ W L, SX.St w2 [] W L → Calls Try.prog 44 #[.pointer (some ⟨g1, 0, none⟩)] W (SX.Ret fun v w' => IsPart (encLc r) (encL r) v W w') := fun W L hW => by
    obtain ⟨a1, a2⟩ := blkLater hs (j := 1) rfl hW
    cases hl : r.long with
    | true =>
      have := encrep1_long g1 r W ⟨a1, fun i u hu => a2 i u (by simpa using hu)⟩ hr hl
      unfold encLc encL
      rw [if_pos hl, if_pos hl]
      exact this
    | false =>
      have := encrep1_short g1 r W ⟨a1, fun i u hu => a2 i u (by simpa using hu)⟩ hr hl
      unfold encLc encL
      rw [if_neg (by simp [hl]), if_neg (by simp [hl])]
      exact this
  refine Z.le rfl trivial ?_
  refine Z.ZO.call rfl rfl (by rfl) rfl rfl Try.call43 rfl (element_ok _ _ (encLc r) _ _ Try.call44 hof) ?_
  rintro v1_1 w1_1 ⟨u, rfl, B, co, rfl, hy⟩
  replace hs := hs.call hy
  clear hy
  try simp only [List.cons_append, List.nil_append, List.append_nil] at hs
  refine Z.lb 2 rfl ?_
  refine Z.le rfl trivial ?_
  first | refine Z.ZO.storeA rfl rfl hs rfl rfl (by kernel_rfl) (by first | (simp [Value.oneCell']; done) | (refine Z.all_one ?_; assumption)) (by first | exact SX.at0 | exact SX.at1 | exact SX.at2 | exact SX.at3 | exact SX.at4 | exact SX.at5 | exact Z.at6 | exact Z.at7 | exact Z.at8 | exact Z.at9 | exact Z.at10 | exact Z.at11 | exact Z.at12) (by rfl) ?_ | refine Z.ZO.storeP rfl rfl hs rfl rfl (by kernel_rfl) (by first | (simp [Value.oneCell']; done) | (refine Z.all_one ?_; assumption)) (by first | exact SX.at0 | exact SX.at1 | exact SX.at2 | exact SX.at3 | exact SX.at4 | exact SX.at5 | exact Z.at6 | exact Z.at7 | exact Z.at8 | exact Z.at9 | exact Z.at10 | exact Z.at11 | exact Z.at12) (by first | decide | (simp; done) | (simp; omega)) ?_ | refine Z.ZO.storePR rfl rfl hs rfl rfl (by kernel_rfl) (by first | (simp [Value.oneCell']; done) | (refine Z.all_one ?_; assumption)) (by first | exact SX.at0 | exact SX.at1 | exact SX.at2 | exact SX.at3 | exact SX.at4 | exact SX.at5 | exact Z.at6 | exact Z.at7 | exact Z.at8 | exact Z.at9 | exact Z.at10 | exact Z.at11 | exact Z.at12) (by first | decide | (simp; done) | (simp; omega)) ?_
  clear hs; intro ws hs
  simp only [Nat.zero_add, Nat.add_zero, Nat.reduceAdd, Int.reduceToNat, Nat.reduceMul, List.set_cons_zero, List.set_cons_succ, List.setIfInBounds_toArray] at hs
  try simp only [Z.putL, Nat.zero_add] at hs
  refine Z.lb 1 rfl ?_
  refine Z.lnil ?_
  refine Z.only [2, 3] rfl ?_
  refine Z.nthen ?_
  refine Z.ret ?_
  -- ret#0
  refine Z.out2 (by exact ⟨⟨_, rfl, Z.rvcA hs Try.isAgg51 (by first | ((repeat (first | exact List.mem_cons_self | refine List.mem_cons_of_mem _ ?_ | refine List.mem_append_right _ ?_)); done) | fail) (by exact Try.sizeOf51)⟩, rfl, trivial⟩) ?_
  exact ⟨_, rfl, _, rfl, B, co, rfl, hs.sel [0] (by decide)⟩
end Go.Proofs.Ytjejdlolgmhljaa

/- Control elements: the document's reports. -/
namespace Go.Proofs.Ytjejdlolgmhljaa
open Go.RowKit
set_option linter.unusedSimpArgs false
set_option linter.unusedVariables false
--newlaws

theorem ok_iff (r : RepV) : r.ok ↔ (0 ≤ r.group ∧ r.group ≤ 3) ∧ (r.long = true → r.group = 0) ∧ ∀ j : Nat, j < 4 → okL (r.lv j) ∧ (r.long = false → (j : Int) ≠ r.group → r.lv j = 0) := by
  unfold RepV.ok
  refine and_congr_right fun hg => ?_
  cases hl : r.long with
  | true =>
    rw [if_pos rfl]
    constructor
    · rintro ⟨h0, ha, hb, hc, hd⟩
      refine ⟨fun _ => h0, fun j hj => ⟨?_, fun h => (by cases h)⟩⟩
      have : j = 0 ∨ j = 1 ∨ j = 2 ∨ j = 3 := by omega
      rcases this with rfl | rfl | rfl | rfl
      · exact ha
      · exact hb
      · exact hc
      · exact hd
    · rintro ⟨h0, h⟩
      exact ⟨h0 rfl, (h 0 (by omega)).1, (h 1 (by omega)).1, (h 2 (by omega)).1, (h 3 (by omega)).1⟩
  | false =>
    rw [if_neg (by simp)]
    constructor
    · rintro ⟨h1, h2⟩
      refine ⟨fun h => (by cases h), fun j hj => ?_⟩
      rcases h1 j hj with h | h
      · exact ⟨by rw [h]; exact ⟨by omega, by omega⟩, fun _ _ => h⟩
      · refine ⟨?_, fun _ h3 => absurd h h3⟩
        rw [show j = r.group.toNat from by omega]
        exact h2
    · rintro ⟨-, h⟩
      refine ⟨fun j hj => ?_, (h r.group.toNat (by omega)).1⟩
      by_cases e : (j : Int) = r.group
      · exact .inr e
      · exact .inl ((h j hj).2 rfl e)
theorem encL_bytes {r : RepV} (hr : r.ok) : Byts (encL r) := by
  unfold encL
  split
  · exact be_bytes _ _
  · obtain ⟨hg, -, hj⟩ := (ok_iff r).1 hr
    have kg := (hj r.group.toNat (by omega)).1
    unfold okL at kg
    intro x hx
    obtain rfl : x = _ := by simpa using hx
    omega
end Go.Proofs.Ytjejdlolgmhljaa

/- Arguments of any shape, asz they read, with what is known of their sizes. -/
namespace Go.Proofs.Ytjejdlolgmhljaa
open Go.ChangeShapes Go.WideShapes Go.ChangeAt Go.RowKit
set_option linter.unusedVariables false
set_option linter.unusedSimpArgs false

/-- the cells cs read asz a value of type t, none of its slices larger than an address space -/
def Rw (P : Program) (W : World) (t : TypeId) (cs : List Value) : Prop :=
  ∃ (H : Type) (enc : TypeId × Value → H) (fuel : Nat) (x : DataW H × List MemPlace), DataW.trod enc P W 0 (fun _ => true) true fuel t cs = some x ∧ ∀ n ∈ x.1.weights P t, n ≤ reachBytes

variable {P : Program} {W : World} {t e : TypeId} {cs : List Value} {k : IntKind}

theorem Rw.rd (h : Rw P W t cs) : Rd P W t cs := by
  obtain ⟨H, enc, fuel, x, h, -⟩ := h
  exact ⟨H, enc, fuel, x, h⟩
theorem Rw.of {H : Type} {enc : TypeId × Value → H} {v : Value} {d : DataW H} {p : List MemPlace} {ts : List TypeId} {ds : List (DataW H)} (j : Nat) (hsz : (DataW.weightsEach P ts ds).all (· ≤ reachBytes) = true) (h : DataW.Trod enc P W 0 (fun _ => true) true t v d p) (ht : ts[j]? = some t) (hd : ds[j]? = some d) : Rw P W t v.cells.toList := by
  obtain ⟨fuel, h⟩ := h
  refine ⟨H, enc, fuel, _, h, fun n hn => ?_⟩
  have := List.all_eq_true.1 hsz n (DataW.weights_mem_each ht hd n hn)
  simpa using this
theorem Rw.int (ht : P.underlying t = some (.int k)) (h : Rw P W t cs) : ∃ n, cs = [.int k n] ∧ (Lit.int k n).wf = true := Rd.int ht h.rd
theorem Rw.bool (ht : P.underlying t = some .bool) (h : Rw P W t cs) : ∃ b, cs = [.bool b] := Rd.bool ht h.rd
theorem Rw.field {fs : Array Field} (ht : P.underlying t = some (.struct fs)) (h : Rw P W t cs) :
    cs.length = P.cellsOf t ∧ ∀ (i : Nat) (f : Field), fs[i]? = some f → Rw P W f.type ((cs.drop f.offset).take (P.cellsOf f.type)) := by
  obtain ⟨H, enc, fuel, x, h, hw⟩ := h
  obtain ⟨xs, n, _, rfl, h1, h2, h3⟩ := DataW.trod_struct ht h
  refine ⟨h1, fun i f hf => ?_⟩
  have h4 := h3 i f hf
  have hi : i < xs.length := by
    rw [h2]
    exact (Array.getElem?_eq_some_iff.1 hf).1
  rw [List.getElem?_eq_getElem hi] at h4
  refine ⟨H, enc, n, _, h4, fun m hm => hw m ?_⟩
  simp only [DataW.weights, ht]
  refine DataW.weights_mem_each (j := i) ?_ ?_ m hm
  · rw [List.getElem?_map, Array.getElem?_toList, hf]; rfl
  · rw [List.getElem?_map, List.getElem?_eq_getElem hi]; rfl
theorem Rw.weightsAll {H : Type} : ∀ {l : List (DataW H)} {d : DataW H}, d ∈ l → ∀ n ∈ d.weights P e, n ∈ DataW.weightsAll P e l
  | d0 :: l, d, hd, n, hn => by
    simp only [DataW.weightsAll, List.mem_append]
    rcases List.mem_cons.1 hd with rfl | hd
    · exact .inl hn
    · exact .inr (Rw.weightsAll hd n hn)
theorem Rw.array {n : Nat} (ht : P.underlying t = some (.array n e)) (h : Rw P W t cs) :
    cs.length = P.cellsOf t ∧ ∀ i, i < n → Rw P W e ((cs.drop (i * P.cellsOf e)).take (P.cellsOf e)) := by
  obtain ⟨H, enc, fuel, x, h, hw⟩ := h
  obtain ⟨xs, m, _, rfl, h1, h2, h3⟩ := DataW.trod_array ht h
  refine ⟨h1, fun i hi => ?_⟩
  have h4 := h3 i hi
  rw [List.getElem?_eq_getElem (by omega)] at h4
  refine ⟨H, enc, m, _, h4, fun q hq => hw q ?_⟩
  simp only [DataW.weights, ht]
  exact Rw.weightsAll (List.mem_map_of_mem (List.getElem_mem (by omega))) q hq
theorem Rw.slice (ht : P.underlying t = some (.slice e)) (h : Rw P W t cs) :
    cs = [.slice none 0 0] ∨ ∃ (a : Addr) (len cap : Nat) (rows : List (List Value)), cs = [.slice (some a) len cap] ∧ len ≤ cap ∧ cap ≤ maxLen ∧ len * P.bytesOf e ≤ reachBytes ∧ rows.length = len ∧
      ∀ i r, rows[i]? = some r → W.cells? 0 (a.add (i * P.cellsOf e)) (P.cellsOf e) = some r ∧ Rw P W e r := by
  obtain ⟨H, enc, fuel, x, h, hw⟩ := h
  rcases DataW.trod_slice ht h with ⟨h1, _⟩ | ⟨a, len, cap, elems, rest, n, _, h1, rfl, _, h2, h3, h4, h5, _⟩
  · exact .inl h1
  · have hb : len * P.bytesOf e ≤ reachBytes := by
      have h6 := hw ((elems.length + rest.length) * P.bytesOf e) (by simp [DataW.weights, ht])
      refine Nat.le_trans (Nat.mul_le_mul_right _ ?_) h6
      omega
    refine .inr ⟨a, len, cap, (List.range len).map fun i => (W.cells? 0 (a.add (i * P.cellsOf e)) (P.cellsOf e)).getD [], h1, h2, h3, hb, by simp, fun i r hr => ?_⟩
    rw [List.getElem?_map] at hr
    obtain ⟨i', hi', hr⟩ := Option.map_eq_some_iff.1 hr
    have hi : i < len := by
      have := (List.getElem?_eq_some_iff.1 hi').1
      simpa using this
    rw [List.getElem?_range hi] at hi'
    obtain rfl : i = i' := by simpa using hi'
    have h6 := h5 i hi
    rw [List.getElem?_eq_getElem (by omega)] at h6
    obtain ⟨r', h7, h8⟩ := Option.bind_eq_some_iff.1 h6
    rw [h7] at hr
    obtain rfl : r' = r := by simpa using hr
    refine ⟨h7, H, enc, n, _, h8, fun q hq => hw q ?_⟩
    simp only [DataW.weights, ht, List.mem_cons, List.mem_append]
    exact .inr (.inl (Rw.weightsAll (List.mem_map_of_mem (List.getElem_mem (by omega))) q hq))
/-- a slice whose elements decode -/
theorem Rw.rows {α : Type} {A : Option Addr} {n c : Nat} (enc : α → List Value) (Good : α → Prop) (ht : P.underlying t = some (.slice e)) (hpos : 0 < P.cellsOf e)
    (dec : ∀ r, Rw P W e r → ∃ x, r = enc x ∧ Good x) (hsz : ∀ x, (enc x).length = P.cellsOf e) (h : Rw P W t [.slice A n c]) :
    ∃ xs : List α, xs.length = n ∧ n ≤ c ∧ c ≤ maxLen ∧ n * P.bytesOf e ≤ reachBytes ∧ (∀ x ∈ xs, Good x) ∧ Sl W A (xs.flatMap enc) := by
  rcases Rw.slice ht h with h1 | ⟨a, len, cap, rows, h1, h2, h3, hw, h4, h5⟩
  · simp only [List.cons.injEq, Value.slice.injEq, and_true] at h1
    obtain ⟨rfl, rfl, rfl⟩ := h1
    exact ⟨[], rfl, Nat.le_refl _, Nat.zero_le _, by simp, by simp, fun hp => by simp at hp⟩
  · simp only [List.cons.injEq, Value.slice.injEq, and_true] at h1
    obtain ⟨rfl, rfl, rfl⟩ := h1
    have key : ∀ (l : List (List Value)), (∀ r ∈ l, Rw P W e r) → ∃ xs : List α, l = xs.map enc ∧ ∀ x ∈ xs, Good x := by
      intro l
      induction l with
      | nil => intro _; exact ⟨[], rfl, by simp⟩
      | cons r l ih =>
        intro hl
        obtain ⟨x, rfl, hx⟩ := dec r (hl r (by simp))
        obtain ⟨xs, rfl, hxs⟩ := ih (fun r hr => hl r (by simp [hr]))
        exact ⟨x :: xs, rfl, fun y hy => by
          rcases List.mem_cons.1 hy with rfl | hy
          · exact hx
          · exact hxs y hy⟩
    obtain ⟨xs, hxs, hG⟩ := key rows (fun r hr => by
      obtain ⟨i, hi⟩ := List.getElem?_of_mem hr
      exact (h5 i r hi).2)
    have hlen : xs.length = n := by rw [← h4, hxs, List.length_map]
    refine ⟨xs, hlen, h2, h3, hw, hG, fun hp => ?_⟩
    -- the cells, one by one
    have hcell : ∀ (i : Nat) (x : α), xs[i]? = some x → ∀ (j : Nat) (u : Value), (enc x)[j]? = some u → W.cell? ((a.add (i * P.cellsOf e)).add j) = some u := by
      intro i x hx j u hu
      have hr : rows[i]? = some (enc x) := by
        rw [hxs, List.getElem?_map, hx]
        rfl
      exact (cells_len (h5 i _ hr).1).2 j u hu
    have hn0 : 0 < n := by
      rw [← hlen]
      cases xs with
      | nil => simp at hp
      | cons x xs => simp
    -- the address has no spot
    have hspot : a.spot = none := by
      have hx0 : xs[0]? = some (xs[0]'(by omega)) := List.getElem?_eq_getElem (by omega)
      have hl0 := hsz (xs[0]'(by omega))
      have := hcell 0 _ hx0 0 _ (List.getElem?_eq_getElem (by omega))
      have e0 : (a.add (0 * P.cellsOf e)).add 0 = a := by simp [Addr.add]
      rw [e0] at this
      unfold World.cell? at this
      split at this
      · cases hs : a.spot with
        | none => rfl
        | some s => simp [hs] at this
      · cases this
    obtain ⟨b, off, sp⟩ := a
    simp only at hspot
    subst hspot
    have hadd : ∀ o m, (⟨b, o, none⟩ : Addr).add m = ⟨b, o + m, none⟩ := fun o m => by
      unfold Addr.add
      split
      · rename_i h; rw [h]; rfl
      · rfl
    have hall : ∀ (ys : List α) (i : Nat), (∀ j, j < ys.length → xs[i + j]? = ys[j]?) → i + ys.length ≤ n → ∀ m u, (ys.flatMap enc)[m]? = some u → W.cell? ⟨b, off + (i * P.cellsOf e + m), none⟩ = some u := by
      intro ys
      induction ys with
      | nil => intro i _ _ m u hu; simp at hu
      | cons y ys ih =>
        intro i hy hle m u hu
        simp only [List.length_cons] at hle
        rw [List.flatMap_cons] at hu
        have hyl := hsz y
        by_cases hm : m < P.cellsOf e
        · rw [List.getElem?_append_left (by omega)] at hu
          have h0 := hy 0 (by simp)
          simp at h0
          have := hcell i y h0 m u hu
          rw [hadd, hadd] at this
          rw [← Nat.add_assoc]
          exact this
        · rw [List.getElem?_append_right (by omega), hyl] at hu
          have := ih (i + 1) (fun j hj => by
            have := hy (j + 1) (by simp; omega)
            rw [show i + 1 + j = i + (j + 1) from by omega, this]
            simp) (by omega) (m - P.cellsOf e) u hu
          rw [Nat.add_mul, Nat.one_mul] at this
          rw [show i * P.cellsOf e + m = i * P.cellsOf e + P.cellsOf e + (m - P.cellsOf e) from by omega]
          exact this
    have hfin := hall xs 0 (fun j _ => by simp) (by omega)
    simp only [Nat.zero_mul, Nat.zero_add] at hfin
    refine ⟨b, off, rfl, ?_, fun j u hu => hfin j u hu⟩
    have hpp : 0 < (xs.flatMap enc).length := hp
    have := hfin 0 _ (List.getElem?_eq_getElem hpp)
    exact World.block_lt_of_cell? _ _ this
end Go.Proofs.Ytjejdlolgmhljaa

/- The Z engine: a scope with one label that the run jumps forward to. -/
namespace Go.Proofs.Ytjejdlolgmhljaa
open Go.RowKit
set_option linter.unusedVariables false
set_option linter.unusedSimpArgs false

namespace Z
variable {P : Program} {N : Nat} {E : Env} {D : List Deferred} {w : World} {Q : Exit → Act → World → Prop}

/-- first the code in order; every jump to the label brings 'envm' and 'I'; then the code behind the label, where nobody jumps -/
theorem scopeJ {ι : Type} {c rest : Code} (l : Nat) (hf : findLabel c l = some rest) (is : List Nat) {E0 : Env} (hk : keepO E is [] = some E0) (envm : ι → Env) (I : ι → World → Prop)
    (first : Z N E D (c.wpIn Fence.wide 0 P (Exit.jump l (fun a' w' => ∃ j, Holds a' N (envm j ++ E0) D ∧ I j w') Q)) w)
    (pass : ∀ j w, I j w → Z N (envm j ++ E0) D (rest.wpIn Fence.wide 0 P (Exit.noGoto Q)) w) : Z N E D ((Code.scope c).wpIn Fence.wide 0 P Q) w := fun a ha =>
  wpIn_wide.2 (wp_scope_jumps l _ (fun _ _ => 0) hf (wpIn_wide.1 (first a ha)) (fun a' w' hJ => by
    obtain ⟨j, h1, h2⟩ := hJ
    refine wpIn_wide.1 (wpIn_mono (pass j w' h2 a' h1) fun e a1 w1 hq => ?_)
    cases e with
    | normal => exact hq
    | exit _ => exact hq
    | goto _ => exact hq.elim
    | ret => exact hq
    | panic _ => exact hq
    | outgrown => exact hq))
section
variable {l : Nat} {J : Act → World → Prop}
theorem gjump (h : Z N E D J w) : Z N E D (Exit.jump l J Q (.goto l)) w := fun a ha => ⟨rfl, h a ha⟩
theorem njump (h : Z N E D (Q .normal) w) : Z N E D (Exit.jump l J Q .normal) w := h
theorem rjump (h : Z N E D (Q .ret) w) : Z N E D (Exit.jump l J Q .ret) w := h
theorem xjump {id : Nat} (h : Z N E D (Q (.exit id)) w) : Z N E D (Exit.jump l J Q (.exit id)) w := h
theorem pjump {ch : List PanicEntry} (h : Z N E D (Q (.panic ch)) w) : Z N E D (Exit.jump l J Q (.panic ch)) w := h
end
end Z
end Go.Proofs.Ytjejdlolgmhljaa
