/- Numbers out of bytes and bits: plain facts. -/
import Derived.Test.YteabcdmgklhijaaFu
namespace Go.Proofs.Yteabcdmgklhijaa
open Go.RowKit
set_option linter.unusedSimpArgs false
set_option linter.unusedVariables false

theorem snoc_ind {α : Type} {p : List α → Prop} (h0 : p []) (h1 : ∀ l x, p l → p (l ++ [x])) (l : List α) : p l := by
  rw [← List.reverse_reverse l]
  induction l.reverse with
  | nil => exact h0
  | cons x r ih => rw [List.reverse_cons]; exact h1 _ _ ih
theorem val_app (a b : List Bool) : val (a ++ b) = val a * 2 ^ b.length + val b := by
  refine snoc_ind (p := fun b => val (a ++ b) = val a * 2 ^ b.length + val b) ?_ (fun b x ih => ?_) b
  · simp [val]
  · rw [← List.append_assoc, val_snoc, ih, val_snoc, List.length_append, List.length_singleton, Nat.pow_succ, ← Nat.mul_assoc]
    omega
theorem val_mid {bs : List Bool} {a n : Nat} (h : a + n ≤ bs.length) : val ((bs.drop a).take n) = val bs / 2 ^ (bs.length - a - n) % 2 ^ n := by
  have e : bs = bs.take a ++ ((bs.drop a).take n ++ bs.drop (a + n)) := by
    rw [← List.drop_drop, List.take_append_drop, List.take_append_drop]
  have hl : ((bs.drop a).take n).length = n := by simp; omega
  have hl2 : (bs.drop (a + n)).length = bs.length - a - n := by simp; omega
  have h1 := val_lt (bs.drop (a + n))
  have h2 := val_lt ((bs.drop a).take n)
  rw [hl2] at h1
  rw [hl] at h2
  have key : val bs = (val (bs.take a) * 2 ^ n + val ((bs.drop a).take n)) * 2 ^ (bs.length - a - n) + val (bs.drop (a + n)) := by
    conv => lhs; rw [e]
    rw [val_app, val_app, List.length_append, hl, hl2, Nat.pow_add, Nat.add_mul, Nat.mul_assoc]
    omega
  rw [key, Nat.mul_comm _ (2 ^ (bs.length - a - n)), Nat.mul_add_div (Nat.pow_pos (by decide)), Nat.div_eq_of_lt h1, Nat.add_zero, Nat.mul_comm, Nat.mul_add_mod, Nat.mod_eq_of_lt h2]
/-- bytes as a number -/
def num (l : List Int) : Int := l.foldl (fun v x => 256 * v + x) 0
theorem num_snoc (l : List Int) (x : Int) : num (l ++ [x]) = 256 * num l + x := by simp [num]
theorem unb_app (a b : List Int) : unb (a ++ b) = unb a ++ unb b := by simp [unb]
theorem val_unb {l : List Int} (hb : ∀ x ∈ l, 0 ≤ x ∧ x < 256) : (val (unb l) : Int) = num l := by
  refine snoc_ind (p := fun l => (∀ x ∈ l, 0 ≤ x ∧ x < 256) → (val (unb l) : Int) = num l) ?_ (fun l x ih hb => ?_) l hb
  · intro _; simp [val, unb, num]
  · have h1 := ih fun y hy => hb y (by simp [hy])
    have hx := hb x (by simp)
    rw [unb_app, val_app, num_snoc, ← h1]
    have e : unb [x] = fld x.toNat 8 := by simp [unb]
    rw [e, fld_length, val_fld]
    have : x.toNat % 2 ^ 8 = x.toNat := Nat.mod_eq_of_lt (by omega)
    rw [this]
    omega
theorem num_nonneg {l : List Int} (hb : ∀ x ∈ l, 0 ≤ x ∧ x < 256) : 0 ≤ num l := by rw [← val_unb hb]; omega
/-- what is read -/
theorem getV_num {l : List Int} {a n : Nat} (hb : ∀ x ∈ l, 0 ≤ x ∧ x < 256) (h : a + n ≤ 8 * l.length) (hn : n ≤ 64) : getV l a (n : Int) = num l / 2 ^ (8 * l.length - a - n) % 2 ^ n := by
  have h0 : getE l a (n : Int) = 0 := getE_ok h hn
  unfold getV
  rw [if_pos h0, ← val_unb hb, Int.toNat_natCast]
  unfold bitsAt
  have hl := unb_length l
  rw [val_mid (by omega), hl, show l.length * 8 - a - n = 8 * l.length - a - n from by omega]
  push_cast
  rfl
/-- what is written -/
theorem pk_bytes {bs : List Bool} : ∀ x ∈ pk bs, 0 ≤ x ∧ x < 256 := by
  intro x hx
  simp only [pk, pkn, List.mem_map] at hx
  obtain ⟨j, _, rfl⟩ := hx
  have := byt_lt bs j
  omega
theorem pk_num {bs : List Bool} (h : bs.length % 8 = 0) : num (pk bs) = (val bs : Int) := by
  rw [← val_unb pk_bytes, unb_pk]
  unfold pad
  rw [h]
  simp
theorem flat_val {f : Int × Int} {fs : List (Int × Int)} : val ((f :: fs).flatMap fldF) = (f.1.toNat % 2 ^ f.2.toNat) * 2 ^ (fs.flatMap fldF).length + val (fs.flatMap fldF) := by
  rw [List.flatMap_cons, val_app]
  unfold fldF
  rw [val_fld]
end Go.Proofs.Yteabcdmgklhijaa
