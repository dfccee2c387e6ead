/- Arguments of the chapter's laws, as they are read. -/
import Derived.Test.YteabcdmgklhijaaFk
import Derived.Test.YteabcdmgklhijaaRd
namespace Go.Proofs.Yteabcdmgklhijaa
open Go.RowKit
set_option linter.unusedSimpArgs false
set_option linter.unusedVariables false

theorem Rd.sliceV {P : Program} {W : World} {t e : TypeId} {cs : List Value} (ht : P.underlying t = some (.slice e)) (h : Rd P W t cs) : ∃ A n c, cs = [.slice A n c] := by
  rcases Rd.slice ht h with h1 | ⟨a, len, cap, rows, h1, -⟩
  · exact ⟨none, 0, 0, h1⟩
  · exact ⟨some a, len, cap, h1⟩
theorem flat_ints (k : IntKind) (l : List Int) : l.flatMap (fun x => [Value.int k x]) = ints k l := by
  induction l with
  | nil => rfl
  | cons x l ih => rw [List.flatMap_cons, ih]; rfl
theorem rd_bytes {W : World} {A : Option Addr} {n c : Nat} (z : Rd Try.prog W 29 [.slice A n c]) : ∃ l : List Int, l.length = n ∧ n ≤ maxLen ∧ (∀ x ∈ l, 0 ≤ x ∧ x < 256) ∧ Sl W A (ints .u8 l) := by
  have c1 : Try.prog.cellsOf 5 = 1 := by kernel_rfl
  obtain ⟨xs, h1, h2, h3, h4, h5⟩ := Rd.rows (fun x : Int => [Value.int .u8 x]) (fun x => 0 ≤ x ∧ x < 256) Try.underlying29 (by rw [c1]; decide)
    (fun r hr => by
      obtain ⟨x, hx, wx⟩ := Rd.int Try.underlying5 hr
      have := wf_u8 wx
      exact ⟨x, hx, this.1, by omega⟩) (fun x => c1.symm) z
  rw [flat_ints] at h5
  exact ⟨xs, h1, Nat.le_trans h2 h3, h4, h5⟩
theorem rd_field {W : World} {cs : List Value} (z : Rd Try.prog W 68 cs) : ∃ f : Int × Int, cs = encF f ∧ GoodF f := by
  obtain ⟨hl, hf⟩ := Rd.field Try.underlying68 z
  have c2 : Try.prog.cellsOf 68 = 2 := by kernel_rfl
  have c1 : Try.prog.cellsOf 3 = 1 := by kernel_rfl
  have c3 : Try.prog.cellsOf 40 = 1 := by kernel_rfl
  rw [c2] at hl
  obtain ⟨a, b, rfl⟩ := list2 hl
  obtain ⟨x, hx, wx⟩ := Rd.int Try.underlying40 (hf 0 _ rfl)
  obtain ⟨y, hy, wy⟩ := Rd.int Try.underlying3 (hf 1 _ rfl)
  simp [c1, c3] at hx hy
  subst hx hy
  have h1 := wf_u64 wx
  have h2 := wf_i64 wy
  exact ⟨(x, y), rfl, h1.1, by show x < _; omega, h2.1, h2.2⟩
theorem rd_fields {W : World} {A : Option Addr} {n c : Nat} (z : Rd Try.prog W 87 [.slice A n c]) : ∃ l : List (Int × Int), l.length = n ∧ n ≤ maxLen ∧ (∀ f ∈ l, GoodF f) ∧ Sl W A (l.flatMap encF) := by
  have c2 : Try.prog.cellsOf 68 = 2 := by kernel_rfl
  obtain ⟨xs, h1, h2, h3, h4, h5⟩ := Rd.rows encF GoodF Try.underlying87 (by rw [c2]; decide) (fun r hr => rd_field hr) (fun x => c2.symm) z
  exact ⟨xs, h1, Nat.le_trans h2 h3, h4, h5⟩
/-- a walk, as a row asks for it -/
theorem rowOf {f : FuncId} {args : Array Value} {w : World} (h : Calls Try.prog f args w (SX.Ret fun r w' => r = .bool true ∧ SX.St w [] w' [])) : Calls Try.prog f args w fun e w' => e = .returned (.bool true) ∧ Below w.heap.size w w' := by
  refine h.mono ?_
  rintro e w' ⟨v, rfl, rfl, h⟩
  exact ⟨rfl, h.below⟩
end Go.Proofs.Yteabcdmgklhijaa
