/- FieldCuts. -/
import Derived.Test.YteabcdmgklhijaaFq
namespace Go.Proofs.Yteabcdmgklhijaa
open Go.RowKit
set_option linter.unusedSimpArgs false
set_option linter.unusedVariables false

theorem Z.flat_at {α : Type} {enc : α → List Value} {s : Nat} {xs : List α} {i j : Nat} {x : α} {u : Value} (hs : ∀ x, (enc x).length = s) (hx : xs[i]? = some x) (hj : (enc x)[j]? = some u) : (xs.flatMap enc)[0 + (i : Int).toNat * s + j]? = some u := by
  have hjs : j < s := by
    have := (List.getElem?_eq_some_iff.1 hj).1
    rwa [hs x] at this
  rw [Nat.zero_add, Int.toNat_natCast]
  exact (Z.flat_get hs hx hjs).trans hj
/-- all widths together -/
def sumW (ws : List Int) : Nat := (ws.map Int.toNat).sum
theorem gsE_short {l : List Int} : ∀ {ws : List Int} {a : Nat}, (∀ x ∈ ws, 0 ≤ x ∧ x ≤ 64) → 8 * l.length < a + sumW ws → a ≤ 8 * l.length → gsE l a ws = 5
  | [], a, _, h, h2 => by simp [sumW] at h; omega
  | x :: ws, a, hw, h, h2 => by
    have hx := hw x (by simp)
    simp only [sumW, List.map_cons, List.sum_cons] at h
    by_cases he : getE l a x = 0
    · have e : getA l a x = a + x.toNat := by unfold getA; rw [if_pos he]
      have h3 := getA_le (l := l) (w := x) h2
      simp only [gsE, if_pos he]
      rw [e] at h3 ⊢
      exact gsE_short (fun y hy => hw y (by simp [hy])) (by unfold sumW; omega) h3
    · simp only [gsE, if_neg he]
      unfold getE at he ⊢
      rw [if_neg (by omega)] at he ⊢
      split
      · rfl
      · rename_i h5
        rw [if_neg h5] at he
        exact absurd rfl he
theorem sumW_flat : ∀ (fs : List (Int × Int)), (fs.flatMap fldF).length = sumW (fs.map (·.2))
  | [] => rfl
  | f :: fs => by
    have := sumW_flat fs
    simp only [List.flatMap_cons, List.length_append, this, fldF, fld_length, sumW, List.map_cons, List.sum_cons]
def wds (fs : List (Int × Int)) : List Int := (fs.map vf).map (·.2)
theorem wds_bd {fs : List (Int × Int)} : ∀ x ∈ wds fs, 0 ≤ x ∧ x ≤ 64 := by
  intro x hx
  simp only [wds, List.mem_map] at hx
  obtain ⟨f, ⟨g, _, rfl⟩, rfl⟩ := hx
  have := vw_lt g
  show 0 ≤ (vw g : Int) ∧ (vw g : Int) ≤ 64
  omega

end Go.Proofs.Yteabcdmgklhijaa
