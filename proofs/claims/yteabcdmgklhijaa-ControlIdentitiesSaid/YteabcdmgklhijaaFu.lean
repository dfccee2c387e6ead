/- What is written is read back: plain facts. -/
import Derived.Test.YteabcdmgklhijaaFt
namespace Go.Proofs.Yteabcdmgklhijaa
open Go.RowKit
set_option linter.unusedSimpArgs false
set_option linter.unusedVariables false

theorem val_fld (v : Nat) : ∀ w, val (fld v w) = v % 2 ^ w := by
  have h : ∀ (bs cs : List Bool), val (bs ++ cs) = val bs * 2 ^ cs.length + val cs := by
    have key : ∀ (cs : List Bool) (a : Nat), cs.foldl (fun v b => 2 * v + b.toNat) a = a * 2 ^ cs.length + cs.foldl (fun v b => 2 * v + b.toNat) 0 := by
      intro cs
      induction cs with
      | nil => intro a; simp
      | cons c cs ih =>
        intro a
        simp only [List.foldl_cons, List.length_cons]
        rw [ih (2 * a + c.toNat), ih (2 * 0 + c.toNat), Nat.pow_succ, Nat.add_mul, Nat.mul_zero, Nat.zero_add, ← Nat.mul_assoc, Nat.mul_comm (a * 2 ^ cs.length) 2, ← Nat.mul_assoc, Nat.add_assoc]
    intro bs cs
    unfold val
    rw [List.foldl_append]
    exact key cs _
  intro w
  induction w with
  | zero => simp [fld, val, Nat.mod_one]
  | succ w ih =>
    have e : fld v (w + 1) = [v.testBit w] ++ fld v w := rfl
    rw [e, h, ih, fld_length]
    have e2 : val [v.testBit w] = (v.testBit w).toNat := by simp [val]
    rw [e2, Nat.toNat_testBit, Nat.pow_succ, Nat.mod_mul]
    rw [Nat.mul_comm (2 ^ w)]
    omega
theorem get_next {l : List Int} {a : Nat} {f : Int × Int} {R : List Bool} (hd : (unb l).drop a = fldF f ++ R) (hc : chkF f = 0) (hg : GoodF f) (ha : a ≤ 8 * l.length) :
    getE l a f.2 = 0 ∧ getV l a f.2 = f.1 ∧ getA l a f.2 = a + f.2.toNat ∧ a + f.2.toNat ≤ 8 * l.length ∧ (unb l).drop (a + f.2.toNat) = R := by
  obtain ⟨h1, h2, h3⟩ := chkF_bd hc
  have hl := congrArg List.length hd
  have hfl : (fldF f).length = f.2.toNat := fld_length _ _
  rw [List.length_drop, unb_length, List.length_append, hfl] at hl
  have he : getE l a f.2 = 0 := by
    unfold getE
    rw [if_neg (by omega), if_neg (by omega)]
  refine ⟨he, ?_, by unfold getA; rw [if_pos he], by omega, ?_⟩
  · unfold getV bitsAt
    rw [if_pos he, hd, List.take_left' hfl]
    unfold fldF
    rw [val_fld, Nat.mod_eq_of_lt]
    · have := hg.1
      omega
    · have hq : f.1.toNat / 2 ^ f.2.toNat = 0 := h3
      rcases Nat.div_eq_zero_iff.1 hq with h | h
      · exact absurd h (Nat.ne_of_gt (Nat.pow_pos (by decide)))
      · exact h
  · rw [← List.drop_drop, hd, List.drop_left' hfl]
theorem unb_pk (bs : List Bool) : unb (pk bs) = pad bs := by
  apply List.ext_getElem?
  intro k
  by_cases hk : k < (pk bs).length * 8
  · rw [unb_get hk]
    have hl := pk_length bs
    have e : elt (pk bs) ((k : Int) / 8) = (byt bs (k / 8) : Int) := by
      have := elt_pkn (bs := bs) (m := (bs.length + 7) / 8) (j := k / 8) (by omega)
      rw [← this]
      unfold pk
      congr 1
    rw [e, Int.toNat_natCast]
    have hb : (byt bs (k / 8)).testBit (7 - k % 8) = bt bs k := by
      have hn := bn_le bs
      have hbn : ∀ i, bn bs i = (bt bs i).toNat := fun _ => rfl
      have key : ∀ (b0 b1 b2 b3 b4 b5 b6 b7 : Bool) (r : Nat), r < 8 → (128 * b0.toNat + 64 * b1.toNat + 32 * b2.toNat + 16 * b3.toNat + 8 * b4.toNat + 4 * b5.toNat + 2 * b6.toNat + b7.toNat).testBit (7 - r) = [b0, b1, b2, b3, b4, b5, b6, b7].getD r false := by
        intro b0 b1 b2 b3 b4 b5 b6 b7 r hr
        have h8 : r = 0 ∨ r = 1 ∨ r = 2 ∨ r = 3 ∨ r = 4 ∨ r = 5 ∨ r = 6 ∨ r = 7 := by omega
        rcases h8 with rfl | rfl | rfl | rfl | rfl | rfl | rfl | rfl <;> revert b0 b1 b2 b3 b4 b5 b6 b7 <;> decide
      have := key (bt bs (8 * (k / 8))) (bt bs (8 * (k / 8) + 1)) (bt bs (8 * (k / 8) + 2)) (bt bs (8 * (k / 8) + 3)) (bt bs (8 * (k / 8) + 4)) (bt bs (8 * (k / 8) + 5)) (bt bs (8 * (k / 8) + 6)) (bt bs (8 * (k / 8) + 7)) (k % 8) (by omega)
      unfold byt bn
      rw [this]
      have h8 : k % 8 = 0 ∨ k % 8 = 1 ∨ k % 8 = 2 ∨ k % 8 = 3 ∨ k % 8 = 4 ∨ k % 8 = 5 ∨ k % 8 = 6 ∨ k % 8 = 7 := by omega
      rcases h8 with h | h | h | h | h | h | h | h <;> rw [h] <;> simp <;> congr 1 <;> omega
    rw [hb]
    unfold pad bt
    rw [List.getD_eq_getElem?_getD, List.getElem?_append]
    split
    · rename_i h
      rw [List.getElem?_eq_getElem h]
      rfl
    · rename_i h
      rw [List.getElem?_eq_none (by omega), List.getElem?_replicate, if_pos (by omega)]
      rfl
  · have h1 := unb_length (pk bs)
    have h2 := pad_length bs
    have h3 := pk_length bs
    rw [List.getElem?_eq_none (by omega), List.getElem?_eq_none (by omega)]
theorem val_zero (n : Nat) : val (List.replicate n false) = 0 := by
  induction n with
  | zero => rfl
  | succ n ih => rw [List.replicate_succ', val_snoc, ih]; rfl
theorem gsV_bytes {l : List Int} : ∀ {bl : List Int} {a : Nat} {R : List Bool}, (∀ x ∈ bl, 0 ≤ x ∧ x < 256) → (unb l).drop a = unb bl ++ R → a ≤ 8 * l.length →
    gsV l a (List.replicate bl.length 8) = bl ∧ a + 8 * bl.length ≤ 8 * l.length ∧ (unb l).drop (a + 8 * bl.length) = R
  | [], a, R, _, hd, h => ⟨rfl, by simpa using h, by simpa [unb] using hd⟩
  | x :: bl, a, R, hb, hd, h => by
    have hx := hb x (by simp)
    obtain ⟨n, rfl⟩ := Int.eq_ofNat_of_zero_le hx.1
    have e : unb ((n : Int) :: bl) ++ R = fldF ((n : Int), 8) ++ (unb bl ++ R) := by simp [unb, fldF]
    rw [e] at hd
    have hq : quoF ((n : Int), 8) = 0 := Nat.div_eq_of_lt (by show n < 2 ^ (8 : Int).toNat; have : (2 : Nat) ^ (8 : Int).toNat = 256 := by decide
                                                              omega)
    obtain ⟨h1, h2, h3, h4, h5⟩ := get_next hd (by unfold chkF; rw [if_neg (by show ¬ ((8 : Int) < 0 ∨ 64 < (8 : Int)); decide), if_pos hq]) ⟨hx.1, by show (n : Int) < _; omega, by show _ ≤ (8 : Int); decide, by show (8 : Int) ≤ _; decide⟩ h
    obtain ⟨h6, h7, h8⟩ := gsV_bytes (l := l) (bl := bl) (a := a + 8) (R := R) (fun y hy => hb y (by simp [hy])) h5 h4
    refine ⟨?_, ?_, ?_⟩
    · simp only [List.length_cons, List.replicate_succ, gsV]
      have h3' : getA l a 8 = a + 8 := h3
      have h2' : getV l a 8 = (n : Int) := h2
      rw [h3', h2', h6]
    · simp only [List.length_cons]
      omega
    · simp only [List.length_cons]
      rw [← h8]
      congr 1
      omega
end Go.Proofs.Yteabcdmgklhijaa
