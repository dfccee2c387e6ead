/- Elements of rows of structs: read and written. -/
import Derived.Test.YteabcdmgklhijaaZd
namespace Go.Proofs.Yteabcdmgklhijaa
open Go.RowKit
set_option linter.unusedVariables false
set_option linter.unusedSimpArgs false
namespace Z
/-- field j of element i -/
theorem flat_pos {α : Type} {enc : α → List Value} {s : Nat} {xs : List α} {i j : Nat} {x : α} {u : Value} (hs : ∀ x, (enc x).length = s) (hx : xs[i]? = some x) (hj : (enc x)[j]? = some u) : (xs.flatMap enc)[0 + (i : Int).toNat * s + j]? = some u := by
  have hjs : j < s := by
    rw [← hs x]
    exact (List.getElem?_eq_some_iff.1 hj).1
  rw [Nat.zero_add, Int.toNat_natCast]
  exact (flat_get hs hx hjs).trans hj
theorem flat_set {α β : Type} {enc : α → List β} {s : Nat} (hs : ∀ x, (enc x).length = s) : ∀ {xs : List α} {i j : Nat} {x x' : α} {u : β}, xs[i]? = some x → j < s → enc x' = (enc x).set j u → (xs.flatMap enc).set (i * s + j) u = (xs.set i x').flatMap enc
  | [], i, j, x, x', u, h, _, _ => by simp at h
  | y :: xs, 0, j, x, x', u, h, hj, he => by
    obtain rfl : y = x := by simpa using h
    rw [Nat.zero_mul, Nat.zero_add, List.set_cons_zero, List.flatMap_cons, List.flatMap_cons, List.set_append_left _ _ (by rw [hs]; exact hj), he]
  | y :: xs, i + 1, j, x, x', u, h, hj, he => by
    have h' : xs[i]? = some x := by simpa using h
    rw [List.set_cons_succ, List.flatMap_cons, List.flatMap_cons, List.set_append_right _ _ (by rw [hs, Nat.add_mul]; omega), hs, show (i + 1) * s + j - s = i * s + j from by rw [Nat.add_mul]; omega, flat_set hs h' hj he]
theorem flat_put {α : Type} {enc : α → List Value} {s : Nat} {xs : List α} {i j : Nat} {x : α} (x' : α) {u : Value} (hs : ∀ x, (enc x).length = s) (hx : xs[i]? = some x) (hj : j < s) (he : enc x' = (enc x).set j u) : (xs.flatMap enc).set (0 + (i : Int).toNat * s + j) u = (xs.set i x').flatMap enc := by
  rw [Nat.zero_add, Int.toNat_natCast]
  exact flat_set hs hx hj he
end Z
end Go.Proofs.Yteabcdmgklhijaa
