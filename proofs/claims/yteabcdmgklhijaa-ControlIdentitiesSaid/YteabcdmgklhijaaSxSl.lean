/- Slices that are read, and lists of integers. -/
import Derived.Test.YteabcdmgklhijaaSxFor
import Derived.Laws.BitsAllLaws
import Derived.Laws.BitsLemmas
namespace Go.Proofs.Yteabcdmgklhijaa
open Go.RowKit
set_option linter.unusedSimpArgs false
set_option linter.unusedVariables false

def ints (k : IntKind) (l : List Int) : List Value := l.map (Value.int k)

/-- v is a slice of one-cell elements that reads xs, in blocks that are there. -/
def Sl (w : World) (A : Option Addr) (xs : List Value) : Prop :=
  0 < xs.length → ∃ b off, A = some ⟨b, off, none⟩ ∧ b < w.heap.size ∧ ∀ j u, xs[j]? = some u → w.cell? ⟨b, off + j, none⟩ = some u

/-- element i of l -/
def elt (l : List Int) (i : Int) : Int := l.getD i.toNat 0

theorem Sl.at {w : World} {A : Option Addr} {k : IntKind} {l : List Int} (h : Sl w A (ints k l)) {i : Int} (h0 : 0 ≤ i) (hi : i < l.length) :
    ∃ b off, A = some ⟨b, off, none⟩ ∧ b < w.heap.size ∧ w.cell? ⟨b, off + i.toNat, none⟩ = some (.int k (elt l i)) := by
  obtain ⟨b, off, rfl, hb, hc⟩ := h (by simp [ints]; omega)
  have hi' : i.toNat < l.length := by omega
  exact ⟨b, off, rfl, hb, hc i.toNat _ (by simp [ints, elt, hi'])⟩

theorem Sl.st {w0 w : World} {L : List SX.Ent} {A : Option Addr} {xs : List Value} (h : Sl w0 A xs) (hs : SX.St w0 [] w L) : Sl w A xs := fun hp => by
  obtain ⟨b, off, e, hb, hc⟩ := h hp
  exact ⟨b, off, e, Nat.lt_of_lt_of_le hb hs.size, fun j u hu => (hs.oldcell (p := ⟨b, off + j, none⟩) hb (by simp)).trans (hc j u hu)⟩

theorem Sl.tail {w : World} {k : IntKind} {b off c : Nat} {x : Int} {r : List Int} (h : Sl w (some ⟨b, off, none⟩) (ints k (x :: r))) (hc : r.length + 1 ≤ c) :
    Sl w (if c = 1 then some ⟨b, off, none⟩ else some ⟨b, off + 1, none⟩) (ints k r) := by
  intro hp
  obtain ⟨b', off', he, hb, hcell⟩ := h (by simp [ints])
  obtain ⟨rfl, rfl⟩ : b' = b ∧ off' = off := by simpa [eq_comm] using he
  have : c ≠ 1 := by simp [ints] at hp; omega
  refine ⟨b', off' + 1, by rw [if_neg this], hb, fun j u hu => ?_⟩
  have := hcell (j + 1) u (by simpa [ints] using hu)
  rw [show off' + 1 + j = off' + (j + 1) from by omega]
  exact this


theorem prefix_range {pre : List Nat} {x q : Nat} (h : (pre ++ [x]) <+: List.range q) : pre = List.range x ∧ x < q := by
  have hl := h.length_le
  simp at hl
  have hx : (pre ++ [x])[pre.length]? = (List.range q)[pre.length]? := by
    obtain ⟨t, ht⟩ := h
    rw [← ht]
    simp
  have hxe : x = pre.length := by
    rw [List.getElem?_range (by omega)] at hx
    simpa using hx
  refine ⟨?_, by omega⟩
  obtain ⟨t, ht⟩ := h
  have h2 := congrArg (List.take pre.length) ht
  rw [List.append_assoc, List.take_left' rfl, List.take_range] at h2
  rw [h2]
  congr 1
  omega

theorem row_form {w0 w : World} {M : List Nat} {L : List SX.Ent} {j T size n : Nat} {v : Value} {xs : List Value} (hs : SX.St w0 M w L) (hj : L[j]? = some (SX.Ent.row v T size n xs)) (hn : 0 < n) :
    ∃ g cap, v = .slice (some ⟨g, 0, none⟩) n cap ∧ n ≤ cap ∧ cap ≤ maxLen := by
  have hr : w.ownsRow 0 T size v n xs := hs.get hj
  rcases hr.2 with ⟨_, h⟩ | ⟨g, cap, cur, rfl, _, _, h1, h2, _⟩
  · omega
  · exact ⟨g, cap, rfl, h1, h2⟩

theorem row_sl {w0 w : World} {M : List Nat} {L : List SX.Ent} {j T g k cap n : Nat} {xs : List Value} (hs : SX.St w0 M w L) (hj : L[j]? = some (SX.Ent.row (.slice (some ⟨g, 0, none⟩) k cap) T 1 n xs)) :
    Sl w (some ⟨g, 0, none⟩) xs := fun _ => by
  have hr : w.ownsRow 0 T 1 (.slice (some ⟨g, 0, none⟩) k cap) n xs := hs.get hj
  have hlt := (hr.lt g rfl).2
  refine ⟨g, 0, rfl, hlt, fun i u hu => ?_⟩
  simpa using SX.row_cell hs hj hu

theorem ints_get {k : IntKind} {l : List Int} {i : Int} (h0 : 0 ≤ i) (hi : i < l.length) : (ints k l)[i.toNat]? = some (.int k (elt l i)) := by
  have hi' : i.toNat < l.length := by omega
  simp [ints, elt, hi']
theorem ints_length {k : IntKind} {l : List Int} : (ints k l).length = l.length := by simp [ints]

theorem ofInt_i64 (a : Nat) (ha : a < 9223372036854775808) : (BitVec.ofInt 64 (a : Int)).toNat = a := by
  rw [BitVec.ofInt_natCast, BitVec.toNat_ofNat]; exact Nat.mod_eq_of_lt (by omega)
theorem i64_and_nat (a b : Nat) (ha : a < 9223372036854775808) (hb : b < 9223372036854775808) : bits .and .i64 (a : Int) (b : Int) = ((a &&& b : Nat) : Int) := by
  have hx : a &&& b < 2 ^ 63 := Nat.and_lt_two_pow _ (by omega)
  show IntKind.i64.wrap ((BitVec.ofInt 64 (a : Int) &&& BitVec.ofInt 64 (b : Int)).toNat : Int) = _
  rw [BitVec.toNat_and, ofInt_i64 a ha, ofInt_i64 b hb, IntKind.wrap_i64]
  omega

/-- A slice's reading behind whatever left what was there as it was. -/
theorem Sl.below {w w' : World} {A : Option Addr} {xs : List Value} (h : Sl w A xs) (hb : Below w.heap.size w w') : Sl w' A xs := fun hp => by
  obtain ⟨b, off, e, hlt, hc⟩ := h hp
  exact ⟨b, off, e, Nat.lt_of_lt_of_le hlt hb.size, fun j u hu => (hb.cell (p := ⟨b, off + j, none⟩) hlt).trans (hc j u hu)⟩

end Go.Proofs.Yteabcdmgklhijaa
