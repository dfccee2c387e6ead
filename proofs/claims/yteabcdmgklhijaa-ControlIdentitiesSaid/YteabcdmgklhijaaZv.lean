/- Structs of borrowed slices; writers brought to the front. -/
import Derived.Test.YteabcdmgklhijaaZu
namespace Go.Proofs.Yteabcdmgklhijaa
open Go.RowKit
set_option linter.unusedVariables false
set_option linter.unusedSimpArgs false
namespace Z
variable {w w' w0 : World} {M : List Nat} {L L1 L2 : List SX.Ent}
/-- a struct of a borrowed slice of structs -/
theorem cellsX {α : Type} {enc : α → List Value} {s : Nat} {xs : List α} {b off : Nat} {i : Nat} {x : α} (cs : List Value) (h : Sx w0 M (some ⟨b, off, none⟩) (xs.flatMap enc)) (hs : ∀ x, (enc x).length = s) (hx : xs[i]? = some x) (hcs : enc x = cs) :
    ∀ w, SX.Keep w0 M L w → ∀ (j : Nat) (u : Value), cs[j]? = some u → w.cell? ⟨b, off + (i : Int).toNat * s + j, none⟩ = some u := by subst hcs; exact fun w hk j u hj => cellXf h hs hx hj w hk
/-- field j of the struct i of a borrowed slice, i being any form of the number -/
theorem cellXq {α : Type} {enc : α → List Value} {s : Nat} {xs : List α} {b off : Nat} {i : Nat} {j : Nat} {x : α} {u : Value} (h : Sx w0 M (some ⟨b, off, none⟩) (xs.flatMap enc)) (hs : ∀ x, (enc x).length = s) (hx : xs[i]? = some x) (hj : (enc x)[j]? = some u) :
    ∀ w, SX.Keep w0 M L w → w.cell? ⟨b, off + (i : Int).toNat * s + j, none⟩ = some u := cellXf h hs hx hj
/-- a block of ours, as a slice, apart from what is lent -/
theorem blk_lentj {g T j : Nat} {cs : Array Value} (hs : SX.St w0 M w (L1 ++ L2)) (hj2 : L2[j]? = some (SX.Ent.blk g T cs)) : Sx w (SX.idsOf L1) (some ⟨g, 0, none⟩) cs.toList := fun hp => by
  have hj : (L1 ++ L2)[L1.length + j]? = some (SX.Ent.blk g T cs) := by
    rw [List.getElem?_append_right (by omega)]
    simpa using hj2
  have hr : w.heap[g]? = some (.cells cs T (0, 0)) := hs.get hj
  refine ⟨g, 0, rfl, SX.lt_of_some hr, fun hin => ?_, fun i u hu => ?_⟩
  · have hn := hs.nodup
    simp only [SX.idsOf, List.flatMap_append] at hn
    exact (List.nodup_append.1 hn).2.2 g hin g (List.mem_flatMap.2 ⟨_, List.mem_of_getElem? hj2, by simp [SX.Ent.blk, SX.Ent.obj]⟩) rfl
  · rw [Nat.zero_add]
    exact (SX.cell_blk hr i).trans (by simpa using hu)
theorem blk_lent {g T : Nat} {cs : Array Value} (hs : SX.St w0 M w (L1 ++ [SX.Ent.blk g T cs])) : Sx w (SX.idsOf L1) (some ⟨g, 0, none⟩) cs.toList := blk_lentj hs (j := 0) rfl
/-- a row without a block is empty -/
theorem _root_.Go.Proofs.Yteabcdmgklhijaa.SX.row_none {j T k size c m : Nat} {A : Option Addr} {xs : List Value} (hs : SX.St w0 M w L) (hj : L[j]? = some (SX.Ent.row (.slice A k c) T size m xs)) (h : A = none) : m = 0 := by
  have hr : w.ownsRow 0 T size (.slice A k c) m xs := hs.get hj
  rcases hr.2 with ⟨hv, h⟩ | ⟨g, cap, cur, hv, _, _, h1, h2, _⟩
  · exact h
  · subst h
    simp at hv
theorem _root_.Go.Proofs.Yteabcdmgklhijaa.Sx.all {A : Option Addr} {xs : List Value} (h : Sx w0 M A xs) (hs : SX.St w0 M w L) : Sx w (SX.idsOf L) A xs := h.lent (L2 := []) (by rwa [List.append_nil])
variable {N : Nat} {E : Env} {D : List Deferred} {F : Fence} {n : Nat} {P : Program} {ops : Array Oper} {Q : Exit → Act → World → Prop}
/-- a drawn region where only Ls is leant on -/
theorem drawL {id : Nat} (Ls : List SX.Ent) (Dn : Nat → Bool) (hm : P.follows .mixedOrders = true) (hs : SX.St w0 M w L) (h : ∀ w', SX.St w0 M w' L → Z N E D (wpD F n P ops Q (SX.Keep w0 M Ls) Dn []) w') : Z N E D ((Code.region id ops true).wpIn F n P Q) w :=
  draw Dn hm (h _ hs.drew)
end Z
end Go.Proofs.Yteabcdmgklhijaa
