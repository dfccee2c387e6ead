/- Arguments of the chapter's laws, as they are read. -/
import Derived.Test.YtggikablbdhniaaFk
import Derived.Test.YtggikablbdhniaaRd
namespace Go.Proofs.Ytggikablbdhniaa
open Go.RowKit
set_option linter.unusedSimpArgs false
set_option linter.unusedVariables false

theorem Rd.sliceV {P : Program} {W : World} {t e : TypeId} {cs : List Value} (ht : P.underlying t = some (.slice e)) (h : Rd P W t cs) : ∃ A n c, cs = [.slice A n c] := by
  rcases Rd.slice ht h with h1 | ⟨a, len, cap, rows, h1, -⟩
  · exact ⟨none, 0, 0, h1⟩
  · exact ⟨some a, len, cap, h1⟩
theorem flat_ints (k : IntKind) (l : List Int) : l.flatMap (fun x => [Value.int k x]) = ints k l := by
  induction l with
  | nil => rfl
  | cons x l ih => rw [List.flatMap_cons, ih]; rfl
theorem rd_bytes {W : World} {A : Option Addr} {n c : Nat} (z : Rd Try.prog W 25 [.slice A n c]) : ∃ l : List Int, l.length = n ∧ n ≤ maxLen ∧ (∀ x ∈ l, 0 ≤ x ∧ x < 256) ∧ Sl W A (ints .u8 l) := by
  have c1 : Try.prog.cellsOf 5 = 1 := by kernel_rfl
  obtain ⟨xs, h1, h2, h3, h4, h5⟩ := Rd.rows (fun x : Int => [Value.int .u8 x]) (fun x => 0 ≤ x ∧ x < 256) Try.underlying25 (by rw [c1]; decide)
    (fun r hr => by
      obtain ⟨x, hx, wx⟩ := Rd.int Try.underlying5 hr
      have := wf_u8 wx
      exact ⟨x, hx, this.1, by omega⟩) (fun x => c1.symm) z
  rw [flat_ints] at h5
  exact ⟨xs, h1, Nat.le_trans h2 h3, h4, h5⟩
theorem rd_field {W : World} {cs : List Value} (z : Rd Try.prog W 50 cs) : ∃ f : Int × Int, cs = encF f ∧ GoodF f := by
  obtain ⟨hl, hf⟩ := Rd.field Try.underlying50 z
  have c2 : Try.prog.cellsOf 50 = 2 := by kernel_rfl
  have c1 : Try.prog.cellsOf 3 = 1 := by kernel_rfl
  have c3 : Try.prog.cellsOf 33 = 1 := by kernel_rfl
  rw [c2] at hl
  obtain ⟨a, b, rfl⟩ := list2 hl
  obtain ⟨x, hx, wx⟩ := Rd.int Try.underlying33 (hf 0 _ rfl)
  obtain ⟨y, hy, wy⟩ := Rd.int Try.underlying3 (hf 1 _ rfl)
  simp [c1, c3] at hx hy
  subst hx hy
  have h1 := wf_u64 wx
  have h2 := wf_i64 wy
  exact ⟨(x, y), rfl, h1.1, by show x < _; omega, h2.1, h2.2⟩
theorem rd_fields {W : World} {A : Option Addr} {n c : Nat} (z : Rd Try.prog W 34 [.slice A n c]) : ∃ l : List (Int × Int), l.length = n ∧ n ≤ maxLen ∧ (∀ f ∈ l, GoodF f) ∧ Sl W A (l.flatMap encF) := by
  have c2 : Try.prog.cellsOf 50 = 2 := by kernel_rfl
  obtain ⟨xs, h1, h2, h3, h4, h5⟩ := Rd.rows encF GoodF Try.underlying34 (by rw [c2]; decide) (fun r hr => rd_field hr) (fun x => c2.symm) z
  exact ⟨xs, h1, Nat.le_trans h2 h3, h4, h5⟩
theorem rd_act {W : World} {cs : List Value} (z : Rd Try.prog W 36 cs) : ∃ x : ActV, cs = encA x ∧ GoodA W x := by
  obtain ⟨hl, hf⟩ := Rd.field Try.underlying36 z
  have c5 : Try.prog.cellsOf 36 = 5 := by kernel_rfl
  have c1 : Try.prog.cellsOf 3 = 1 := by kernel_rfl
  have c2 : Try.prog.cellsOf 33 = 1 := by kernel_rfl
  have c3 : Try.prog.cellsOf 25 = 1 := by kernel_rfl
  have c4 : Try.prog.cellsOf 34 = 1 := by kernel_rfl
  rw [c5] at hl
  obtain ⟨a, b, c, d, e, rfl⟩ := list5 hl
  obtain ⟨x, hx, wx⟩ := Rd.int Try.underlying3 (hf 0 _ rfl)
  obtain ⟨v, hv, wv⟩ := Rd.int Try.underlying33 (hf 1 _ rfl)
  obtain ⟨y, hy, wy⟩ := Rd.int Try.underlying3 (hf 2 _ rfl)
  have zb := hf 3 _ rfl
  have zf := hf 4 _ rfl
  obtain ⟨A, n, c0, hb⟩ := Rd.sliceV Try.underlying25 zb
  obtain ⟨B, m, d0, hd⟩ := Rd.sliceV Try.underlying34 zf
  rw [hb] at zb
  rw [hd] at zf
  simp [c1, c2, c3, c4] at hx hv hy hb hd
  subst hx hv hy hb hd
  obtain ⟨bl, rfl, hb1, hb2, hb3⟩ := rd_bytes zb
  obtain ⟨fl, rfl, hf1, hf2, hf3⟩ := rd_fields zf
  have h0 := wf_i64 wx
  have h1 := wf_u64 wv
  have h2 := wf_i64 wy
  exact ⟨⟨x, v, y, A, c0, bl, B, d0, fl⟩, rfl, ⟨h0, ⟨h1.1, by show v < _; omega, h2.1, h2.2⟩, hb2, hf2, hb3, hf3, hb1, hf1⟩⟩
theorem rd_acts {W : World} {A : Option Addr} {n c : Nat} (z : Rd Try.prog W 22 [.slice A n c]) : ∃ l : List ActV, l.length = n ∧ n ≤ maxLen ∧ (∀ x ∈ l, GoodA W x) ∧ Sl W A (l.flatMap encA) := by
  have c5 : Try.prog.cellsOf 36 = 5 := by kernel_rfl
  obtain ⟨xs, h1, h2, h3, h4, h5⟩ := Rd.rows encA (GoodA W) Try.underlying22 (by rw [c5]; decide) (fun r hr => rd_act hr) (fun x => c5.symm) z
  exact ⟨xs, h1, Nat.le_trans h2 h3, h4, h5⟩
/-- a walk, as a row asks for it -/
theorem rowOf {f : FuncId} {args : Array Value} {w : World} (h : Calls Try.prog f args w (SX.Ret fun r w' => r = .bool true ∧ SX.St w [] w' [])) : Calls Try.prog f args w fun e w' => e = .returned (.bool true) ∧ Below w.heap.size w w' := by
  refine h.mono ?_
  rintro e w' ⟨v, rfl, rfl, h⟩
  exact ⟨rfl, h.below⟩
theorem fieldWrites_rd (a0 : Option Addr) (len0 cap0 : Nat) (w : World) (z0 : Rd Try.prog w 22 (Value.slice a0 len0 cap0).cells.toList) :
    Calls Try.prog 3 #[.slice a0 len0 cap0] w fun e w' => e = .returned (.bool true) ∧ Below w.heap.size w w' := by
  obtain ⟨l, h1, h2, h3, h4⟩ := rd_acts z0
  exact rowOf (fieldWrites_walk a0 len0 cap0 l w h4 h1 h2 h3)
end Go.Proofs.Ytggikablbdhniaa
