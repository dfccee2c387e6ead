/- Data in memory, for the walk. -/
import Derived.Test.YteabcdmgklhijaaZr
namespace Go.Proofs.Yteabcdmgklhijaa
open Go.RowKit
set_option linter.unusedVariables false
set_option linter.unusedSimpArgs false
namespace Z
variable {w w0 : World} {M : List Nat} {L : List SX.Ent} {k : IntKind} {l : List Int} {i : Int} {b off : Nat} {T : TypeId}

theorem at6 {e0 e1 e2 e3 e4 e5 e : SX.Ent} {R : List SX.Ent} : (e0 :: e1 :: e2 :: e3 :: e4 :: e5 :: e :: R)[6]? = some e := rfl
theorem at7 {e0 e1 e2 e3 e4 e5 e6 e : SX.Ent} {R : List SX.Ent} : (e0 :: e1 :: e2 :: e3 :: e4 :: e5 :: e6 :: e :: R)[7]? = some e := rfl
theorem at8 {e0 e1 e2 e3 e4 e5 e6 e7 e : SX.Ent} {R : List SX.Ent} : (e0 :: e1 :: e2 :: e3 :: e4 :: e5 :: e6 :: e7 :: e :: R)[8]? = some e := rfl
theorem at9 {e0 e1 e2 e3 e4 e5 e6 e7 e8 e : SX.Ent} {R : List SX.Ent} : (e0 :: e1 :: e2 :: e3 :: e4 :: e5 :: e6 :: e7 :: e8 :: e :: R)[9]? = some e := rfl
theorem at10 {e0 e1 e2 e3 e4 e5 e6 e7 e8 e9 e : SX.Ent} {R : List SX.Ent} : (e0 :: e1 :: e2 :: e3 :: e4 :: e5 :: e6 :: e7 :: e8 :: e9 :: e :: R)[10]? = some e := rfl
theorem at11 {e0 e1 e2 e3 e4 e5 e6 e7 e8 e9 e10 e : SX.Ent} {R : List SX.Ent} : (e0 :: e1 :: e2 :: e3 :: e4 :: e5 :: e6 :: e7 :: e8 :: e9 :: e10 :: e :: R)[11]? = some e := rfl
theorem at12 {e0 e1 e2 e3 e4 e5 e6 e7 e8 e9 e10 e11 e : SX.Ent} {R : List SX.Ent} : (e0 :: e1 :: e2 :: e3 :: e4 :: e5 :: e6 :: e7 :: e8 :: e9 :: e10 :: e11 :: e :: R)[12]? = some e := rfl
theorem ints_at (h0 : 0 ≤ i) (hi : i < l.length) : (ints k l)[0 + i.toNat * 1]? = some (.int k (elt l i)) := by
  rw [Nat.zero_add, Nat.mul_one]
  exact ints_get h0 hi
theorem elt_mem {z : Int} (h0 : 0 ≤ z) (h1 : z < l.length) : elt l z ∈ l := by
  have hz : z.toNat < l.length := by omega
  simp [elt, hz]
/-- an element of a slice that was there -/
theorem cellS (h : Sl w0 (some ⟨b, off, none⟩) (ints k l)) (hM : M = []) (h0 : 0 ≤ i) (hi : i < l.length) : ∀ w, SX.Keep w0 M L w → w.cell? ⟨b, off + i.toNat * 1, none⟩ = some (.int k (elt l i)) := by
  subst hM
  obtain ⟨b', off', e, hb, hc⟩ := h.at h0 hi
  simp only [Option.some.injEq, Addr.mk.injEq, and_true] at e
  obtain ⟨rfl, rfl⟩ := e
  rw [Nat.mul_one]
  exact cellO hb (by simp) hc
theorem Sl.some {A : Option Addr} {xs : List Value} (h : Sl w A xs) (hp : 0 < xs.length) : ∃ b off, A = Option.some ⟨b, off, none⟩ ∧ b < w.heap.size ∧ Sl w (Option.some ⟨b, off, none⟩) xs := by
  obtain ⟨b, off, e, hb, hc⟩ := h hp
  subst e
  exact ⟨b, off, rfl, hb, h⟩
/-- the cells of a block, as an aggregate -/
theorem cellsB {g T : Nat} {cs : List Value} (hm : SX.Ent.blk g T cs.toArray ∈ L) : ∀ w, SX.Keep w0 M L w → ∀ j u, cs[j]? = some u → w.cell? ⟨g, 0 + j, none⟩ = some u := fun w h j u hu => by
  rw [Nat.zero_add]
  exact h.blk hm (by simpa using hu)
end Z
end Go.Proofs.Yteabcdmgklhijaa
