/- Bits come back when the points are changed a little: plain facts. -/
import Derived.Test.YthncbdoiilgnhaaQmU
namespace Go.Proofs.Ythncbdoiilgnhaa
open Go.RowKit
set_option linter.unusedSimpArgs false
set_option linter.unusedVariables false

theorem back1 : ∀ g : Fin 2, ∀ t : Fin 31, ∀ i : Fin 1, sgn (sfv 1 (16 * lev (grp 1 g.val) + ((t.val : Int) - 15)) i.val) = bitOf g.val i.val := by decide +kernel
theorem back2 : ∀ g : Fin 4, ∀ t : Fin 31, ∀ i : Fin 2, sgn (sfv 2 (16 * lev (grp 2 g.val) + ((t.val : Int) - 15)) i.val) = bitOf g.val i.val := by decide +kernel
theorem back3 : ∀ g : Fin 8, ∀ t : Fin 31, ∀ i : Fin 3, sgn (sfv 3 (16 * lev (grp 3 g.val) + ((t.val : Int) - 15)) i.val) = bitOf g.val i.val := by decide +kernel
theorem back_grp {k g i : Nat} {d : Int} (hk : 1 ≤ k) (hk3 : k ≤ 3) (hg : g < 2 ^ k) (hi : i < k) (h1 : -16 < d) (h2 : d < 16) : sgn (sfv k (16 * lev (grp k g) + d) i) = bitOf g i := by
  obtain ⟨t, rfl⟩ : ∃ t : Nat, d = (t : Int) - 15 := ⟨(d + 15).toNat, by omega⟩
  have h : k = 1 ∨ k = 2 ∨ k = 3 := by omega
  rcases h with rfl | rfl | rfl
  · exact back1 ⟨g, hg⟩ ⟨t, by omega⟩ ⟨i, hi⟩
  · exact back2 ⟨g, hg⟩ ⟨t, by omega⟩ ⟨i, hi⟩
  · exact back3 ⟨g, hg⟩ ⟨t, by omega⟩ ⟨i, hi⟩
/-- bits are a group -/
theorem evn_grp (bs : List Int) (hb : ∀ b ∈ bs, b = 0 ∨ b = 1) (s k : Nat) (hk : 1 ≤ k) (hk3 : k ≤ 3) : ∃ g, g < 2 ^ k ∧ evn bs s k = grp k g ∧ ∀ i, i < k → bitOf g i = elt bs (s + 2 * i : Nat) := by
  have e0 := elt_bit hb (s : Nat)
  have e1 := elt_bit hb ((s + 2 : Nat) : Int)
  have e2 := elt_bit hb ((s + 4 : Nat) : Int)
  have h : k = 1 ∨ k = 2 ∨ k = 3 := by omega
  have key : ∃ g, g < 2 ^ k ∧ ∀ i, i < k → bitOf g i = elt bs (s + 2 * i : Nat) := by
    have hcase : ∀ i, i < k → i = 0 ∨ i = 1 ∨ i = 2 := fun i hi => by omega
    rcases h with rfl | rfl | rfl
    · refine ⟨(elt bs (s : Nat)).toNat, by rcases e0 with h | h <;> rw [h] <;> decide, fun i hi => ?_⟩
      obtain rfl : i = 0 := by omega
      rcases e0 with h | h <;> simp only [Nat.mul_zero, Nat.add_zero] <;> rw [h] <;> decide
    · refine ⟨(elt bs (s : Nat)).toNat + 2 * (elt bs (s + 2 : Nat)).toNat, by rcases e0 with h | h <;> rcases e1 with h' | h' <;> rw [h, h'] <;> decide, fun i hi => ?_⟩
      have h3 : i = 0 ∨ i = 1 := by omega
      rcases h3 with rfl | rfl <;> rcases e0 with h | h <;> rcases e1 with h' | h' <;> simp only [Nat.mul_zero, Nat.add_zero, Nat.mul_one] <;> rw [h, h'] <;> decide
    · refine ⟨(elt bs (s : Nat)).toNat + 2 * (elt bs (s + 2 : Nat)).toNat + 4 * (elt bs (s + 4 : Nat)).toNat, by rcases e0 with h | h <;> rcases e1 with h' | h' <;> rcases e2 with h'' | h'' <;> rw [h, h', h''] <;> decide, fun i hi => ?_⟩
      have h3 : i = 0 ∨ i = 1 ∨ i = 2 := by omega
      rcases h3 with rfl | rfl | rfl <;> rcases e0 with h | h <;> rcases e1 with h' | h' <;> rcases e2 with h'' | h'' <;> simp only [Nat.mul_zero, Nat.add_zero, Nat.mul_one, Nat.reduceMul] <;> rw [h, h', h''] <;> decide
  obtain ⟨g, hg, hbit⟩ := key
  refine ⟨g, hg, ?_, hbit⟩
  unfold evn grp
  refine List.map_congr_left fun i hi => ?_
  rw [hbit i (by simpa using hi)]

theorem near_bit {k : Nat} {bs : List Int} (hb : ∀ b ∈ bs, b = 0 ∨ b = 1) {s i : Nat} {y : Int} (hk : 1 ≤ k) (hk3 : k ≤ 3) (hi : i < k) (h1 : -16 < y - 16 * lev (evn bs s k)) (h2 : y - 16 * lev (evn bs s k) < 16) : sgn (sfv k y i) = elt bs (s + 2 * i : Nat) := by
  obtain ⟨g, hg, he, hbit⟩ := evn_grp bs hb s k hk hk3
  rw [he] at h1 h2
  rw [← hbit i hi, ← back_grp hk hk3 hg hi h1 h2]
  congr 2
  omega
def Near (k : Nat) (bs : List Int) (j : Nat) (p : Int × Int) : Prop := -16 < p.1 - (mpt k bs j).1 ∧ p.1 - (mpt k bs j).1 < 16 ∧ -16 < p.2 - (mpt k bs j).2 ∧ p.2 - (mpt k bs j).2 < 16
theorem back_all {k q : Nat} {bs : List Int} {qs : List (Int × Int)} (hb : ∀ b ∈ bs, b = 0 ∨ b = 1) (hk : 1 ≤ k) (hk3 : k ≤ 3) (hl : bs.length = q * (2 * k)) (hq : qs.length = q) (hn : ∀ j p, qs[j]? = some p → Near k bs j p) : (dml k qs).map sgn = bs := by
  have hdl := dml_length k qs
  apply List.ext_getElem?
  intro x
  by_cases hx : x < q * (2 * k)
  · obtain ⟨j, r, hr, rfl⟩ : ∃ j r, r < 2 * k ∧ x = j * (2 * k) + r := ⟨x / (2 * k), x % (2 * k), Nat.mod_lt _ (by omega), by rw [Nat.mul_comm]; exact (Nat.div_add_mod _ _).symm⟩
    obtain ⟨i, c, hc, rfl⟩ : ∃ i c, c < 2 ∧ r = i * 2 + c := ⟨r / 2, r % 2, Nat.mod_lt _ (by omega), by omega⟩
    have hi : i < k := by omega
    have hj : j < q := by
      by_cases h : j < q
      · exact h
      · have := Nat.mul_le_mul_right (2 * k) (Nat.not_lt.1 h)
        omega
    have hp : qs[j]? = some (qs[j]'(by omega)) := List.getElem?_eq_getElem (by omega)
    obtain ⟨n1, n2, n3, n4⟩ := hn j _ hp
    have e1 : (dml k qs)[j * (2 * k) + (i * 2 + c)]? = (ilv k (qs[j]'(by omega)) k)[i * 2 + c]? := Z.flat_get (fun p => ilv_length k p k) hp hr
    have e2 : (ilv k (qs[j]'(by omega)) k)[i * 2 + c]? = ([sfv k (qs[j]'(by omega)).1 i, sfv k (qs[j]'(by omega)).2 i] : List Int)[c]? := Z.flat_get (enc := fun i => [sfv k (qs[j]'(by omega)).1 i, sfv k (qs[j]'(by omega)).2 i]) (fun _ => rfl) (List.getElem?_range hi) hc
    rw [List.getElem?_map, e1, e2]
    have hbx : bs[j * (2 * k) + (i * 2 + c)]? = some (elt bs ((j * (2 * k) + (i * 2 + c) : Nat) : Int)) := by
      simp only [elt, List.getD_eq_getElem?_getD, Int.toNat_natCast]
      rw [List.getElem?_eq_getElem (by omega)]
      rfl
    rw [hbx]
    have hc2 : c = 0 ∨ c = 1 := by omega
    rcases hc2 with rfl | rfl
    · have := near_bit hb (s := j * (2 * k)) (i := i) hk hk3 hi n1 n2
      simp only [List.getElem?_cons_zero, Option.map_some, this]
      congr 2
      omega
    · have := near_bit hb (s := j * (2 * k) + 1) (i := i) hk hk3 hi n3 n4
      simp only [List.getElem?_cons_succ, List.getElem?_cons_zero, Option.map_some, this]
      congr 2
      omega
  · rw [hq] at hdl
    rw [List.getElem?_eq_none (by rw [List.length_map]; omega), List.getElem?_eq_none (by omega)]
end Go.Proofs.Ythncbdoiilgnhaa
