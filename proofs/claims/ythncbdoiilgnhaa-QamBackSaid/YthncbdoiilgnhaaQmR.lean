/- Points that came in. QamMirrors returns true: all cases together. -/
import Derived.Test.YthncbdoiilgnhaaQmQ
import Derived.Test.YthncbdoiilgnhaaRd
namespace Go.Proofs.Ythncbdoiilgnhaa
open Go.RowKit
set_option linter.unusedVariables false

theorem rd_point {W : World} {cs : List Value} (z : Rd Try.prog W 32 cs) : ∃ x y : Int, cs = [.int .i64 x, .int .i64 y] ∧ (-9223372036854775808 ≤ x ∧ x ≤ 9223372036854775807) ∧ (-9223372036854775808 ≤ y ∧ y ≤ 9223372036854775807) := by
  obtain ⟨hl, hf⟩ := Rd.field Try.underlying32 z
  have c2 : Try.prog.cellsOf 32 = 2 := by kernel_rfl
  have c1 : Try.prog.cellsOf 3 = 1 := by kernel_rfl
  rw [c2] at hl
  obtain ⟨a, b, rfl⟩ := list2 hl
  obtain ⟨x, hx, wx⟩ := Rd.int Try.underlying3 (hf 0 _ rfl)
  obtain ⟨y, hy, wy⟩ := Rd.int Try.underlying3 (hf 1 _ rfl)
  simp [c1] at hx hy
  subst hx hy
  exact ⟨x, y, rfl, wf_i64 wx, wf_i64 wy⟩

theorem qamMirrors_walk (a0 : Int) (cs1 : Array Value) (cs2 : Array Value) (w : World) (z0 : Rd Try.prog w 22 (Value.int .i64 a0).cells.toList) (z1 : Rd Try.prog w 32 (Value.agg cs1).cells.toList) (z2 : Rd Try.prog w 32 (Value.agg cs2).cells.toList) :
    Calls Try.prog 5 #[.int .i64 a0, .agg cs1, .agg cs2] w fun e w' => e = .returned (.bool true) ∧ Below w.heap.size w w' := by
  obtain ⟨x, y, h1, -, -⟩ := rd_point z1
  obtain ⟨x', y', h2, -, -⟩ := rd_point z2
  obtain rfl : cs1 = #[.int .i64 x, .int .i64 y] := Array.ext' h1
  obtain rfl : cs2 = #[.int .i64 x', .int .i64 y'] := Array.ext' h2
  have key : Calls Try.prog 5 #[.int .i64 a0, .agg #[.int .i64 x, .int .i64 y], .agg #[.int .i64 x', .int .i64 y']] w (SX.Ret fun v w' => v = .bool true ∧ SX.St w [] w' []) := by
    by_cases hv : vm a0 = true
    · have hm : a0 = 2 ∨ a0 = 4 ∨ a0 = 6 := by simp [vm] at hv; omega
      obtain ⟨n, hn, hn3, rfl⟩ : ∃ n : Nat, 1 ≤ n ∧ n ≤ 3 ∧ a0 = ((2 * n : Nat) : Int) := by
        rcases hm with rfl | rfl | rfl
        · exact ⟨1, by omega, by omega, rfl⟩
        · exact ⟨2, by omega, by omega, rfl⟩
        · exact ⟨3, by omega, by omega, rfl⟩
      cases hi : [(x, y), (x', y')].all ins with
      | true => exact mirrors_in n hn hn3 (x, y) (x', y') w hi
      | false => exact mirrors_out n hn hn3 (x, y) (x', y') w hi
    · exact mirrors_none a0 (x, y) (x', y') w (by simpa using hv)
  refine key.mono ?_
  rintro e w' ⟨v, rfl, rfl, h⟩
  exact ⟨rfl, h.below⟩
end Go.Proofs.Ythncbdoiilgnhaa
