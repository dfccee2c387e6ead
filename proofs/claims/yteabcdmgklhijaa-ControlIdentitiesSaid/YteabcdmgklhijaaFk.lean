/- FieldWrites. -/
import Derived.Test.YteabcdmgklhijaaFj
namespace Go.Proofs.Yteabcdmgklhijaa
open Go.RowKit
set_option linter.unusedSimpArgs false
set_option linter.unusedVariables false

/-- the bits after calls -/
def actsB (l : List ActV) : List Bool := l.foldl actB []
theorem actsB_snoc {l : List ActV} {k : Nat} {x : ActV} (h : l[k]? = some x) : actsB (l.take (k + 1)) = actB (actsB (l.take k)) x := by
  rw [← take_snoc h]
  simp [actsB]
theorem few_at {l : List ActV} (h : fewA l = true) : l.length ≤ 40 ∧ ∀ x ∈ l, x.bl.length ≤ 40 ∧ x.fl.length ≤ 20 := by
  unfold fewA at h
  simpa using h
theorem actsB_length {l : List ActV} (h : fewA l = true) : ∀ k, k ≤ l.length → (actsB (l.take k)).length ≤ k * 1280
  | 0, _ => by simp [actsB]
  | k + 1, hk => by
    have hx : l[k]? = some (l[k]'hk) := List.getElem?_eq_getElem (by omega)
    have h1 := (few_at h).2 _ (List.mem_of_getElem? hx)
    have h2 := actB_length (bs := actsB (l.take k)) h1.1 h1.2
    have h3 := actsB_length h k (by omega)
    rw [actsB_snoc hx]
    omega
theorem pk_bd (bs : List Bool) : ∀ x ∈ pk bs, 0 ≤ x ∧ x < 256 := by
  intro x hx
  simp only [pk, pkn, List.mem_map] at hx
  obtain ⟨j, _, rfl⟩ := hx
  have := byt_lt bs j
  omega

end Go.Proofs.Yteabcdmgklhijaa
