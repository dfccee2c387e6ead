/- The walk's words of this seat: a function's own blocks in memory as one list, and the laws of the operations over it. -/
import Derived.WalkKit
import Derived.WalkSpells
import Derived.WalkLawsBesides
import Derived.Lib.Hide
import Derived.Maps.AppendAt
import Derived.Deep.AppendLies
import Derived.RangeFuncNested
import Derived.RangeFuncBound
import Derived.RangeFuncCalls
import Derived.RangeFuncLeaves
import Derived.OwnWalkIn
import Derived.TacticsInMore
import Derived.LoopNIn
import Derived.LoopIn
import Derived.OrdersIn
import Derived.Laws.Rows
namespace Go.Proofs.Yteabcdmgklhijaa
open Go.RowKit
namespace SX

/-- A thing in memory: the blocks in which it lies, and what is said of it. -/
structure Ent where
  ids : List Nat
  ok : World → Prop
  loc : ∀ w w' : World, (∀ b ∈ ids, w'.heap[b]? = w.heap[b]?) → ok w → ok w'
  lt : ∀ w : World, ok w → ∀ b ∈ ids, b < w.heap.size

theorem lt_of_some {w : World} {g : Nat} {o : Obj} (h : w.heap[g]? = some o) : g < w.heap.size := (Array.getElem?_eq_some_iff.1 h).1

/-- Block g is just o. -/
def Ent.obj (g : Nat) (o : Obj) : Ent where
  ids := [g]
  ok w := w.heap[g]? = some o
  loc w w' h hk := by rw [h g (by simp)]; exact hk
  lt w h b hb := by
    obtain rfl : b = g := by simpa using hb
    exact lt_of_some h

/-- Block g is just the cells cs of element type T, none frozen. -/
def Ent.blk (g : Nat) (T : TypeId) (cs : Array Value) : Ent := Ent.obj g (.cells cs T (0, 0))

/-- v is a slice of n elements that is nil, or starts a block of its own; its elements' cells are xs. -/
def Ent.row (v : Value) (T : TypeId) (size n : Nat) (xs : List Value) : Ent where
  ids := v.ownBlock.toList
  ok w := w.ownsRow 0 T size v n xs
  loc w w' h hk := by
    refine ⟨hk.1, ?_⟩
    rcases hk.2 with hn | ⟨g, cap, cur, rfl, hb, hgg, rest⟩
    · exact .inl hn
    · refine .inr ⟨g, cap, cur, rfl, hb, ?_, rest⟩
      rw [h g (by simp [Value.ownBlock])]
      exact hgg
  lt w h b hb := by
    have hb' : v.ownBlock = some b := by
      cases hv : v.ownBlock with
      | none => rw [hv] at hb; simp at hb
      | some k => rw [hv] at hb; simp at hb; rw [hb]
    exact (h.lt b hb').2

def idsOf (L : List Ent) : List Nat := L.flatMap Ent.ids

/-- From w0 to w: what is not in M and was there is as it was; the things of L lie apart from each other, in new blocks or in M. -/
structure St (w0 : World) (M : List Nat) (w : World) (L : List Ent) : Prop where
  os : w.os = w0.os
  tape : w.tape = w0.tape
  output : w.output = w0.output
  size : w0.heap.size ≤ w.heap.size
  nodup : (idsOf L).Nodup
  new : ∀ b ∈ idsOf L, w0.heap.size ≤ b ∨ b ∈ M
  ok : ∀ e ∈ L, e.ok w
  old : ∀ b, b < w0.heap.size → b ∉ M → w.heap[b]? = w0.heap[b]?

variable {w0 w w' : World} {M : List Nat} {L : List Ent}

theorem St.start (w : World) : St w [] w [] := ⟨rfl, rfl, rfl, Nat.le_refl _, by simp [idsOf], by simp [idsOf], by simp, fun _ _ _ => rfl⟩

theorem St.own (h : (idsOf L).Nodup) (hok : ∀ e ∈ L, e.ok w) : St w (idsOf L) w L :=
  ⟨rfl, rfl, rfl, Nat.le_refl _, h, fun _ h => .inr h, hok, fun _ _ _ => rfl⟩

theorem mem_ids {e : Ent} (he : e ∈ L) {b : Nat} (hb : b ∈ e.ids) : b ∈ idsOf L := List.mem_flatMap.2 ⟨e, he, hb⟩

theorem St.lt (h : St w0 M w L) {b : Nat} (hb : b ∈ idsOf L) : b < w.heap.size := by
  obtain ⟨e, he, hbe⟩ := List.mem_flatMap.1 hb
  exact e.lt w (h.ok e he) b hbe

theorem St.drew (h : St w0 M w L) : St w0 M w.drew L := ⟨h.os, h.tape, h.output, h.size, h.nodup, h.new, fun e he => e.loc w w.drew (fun _ _ => rfl) (h.ok e he), h.old⟩

theorem St.drawn (h : St w0 M w L) (k : Nat) : St w0 M { w with drawn := k } L :=
  ⟨h.os, h.tape, h.output, h.size, h.nodup, h.new, fun e he => e.loc w _ (fun _ _ => rfl) (h.ok e he), h.old⟩

theorem St.below (h : St w0 [] w L) : Below w0.heap.size w0 w := ⟨h.os, h.tape, h.output, h.size, fun k hk => h.old k hk (by simp)⟩

theorem ids_sub {L L' : List Ent} (hs : L'.Sublist L) : (idsOf L').Sublist (idsOf L) := by
  induction hs with
  | slnil => exact .slnil
  | cons a _ ih => exact ih.trans (List.sublist_append_right _ _)
  | cons_cons a _ ih => exact (List.Sublist.refl _).append ih

theorem St.sub {L' : List Ent} (h : St w0 M w L) (hs : L'.Sublist L) : St w0 M w L' :=
  ⟨h.os, h.tape, h.output, h.size, (ids_sub hs).nodup h.nodup, fun b hb => h.new b ((ids_sub hs).subset hb), fun e he => h.ok e (hs.subset he), h.old⟩

theorem St.perm {L' : List Ent} (h : St w0 M w L) (hp : L'.Perm L) : St w0 M w L' :=
  ⟨h.os, h.tape, h.output, h.size, ((hp.flatMap_right _).nodup_iff).2 h.nodup, fun b hb => h.new b ((hp.flatMap_right _).subset hb), fun e he => h.ok e (hp.subset he), h.old⟩

theorem St.tl {e : Ent} (h : St w0 M w (e :: L)) : St w0 M w L := h.sub (List.sublist_cons_self _ _)
theorem St.rot {L1 L2 : List Ent} (h : St w0 M w (L1 ++ L2)) : St w0 M w (L2 ++ L1) := h.perm List.perm_append_comm

/-- One step: only blocks of the thing at the head, or new ones, have turned. -/
theorem St.step {e e' : Ent} {R : List Ent} (h : St w0 M w (e :: R)) (hos : w'.os = w.os) (htape : w'.tape = w.tape) (hout : w'.output = w.output) (hsz : w.heap.size ≤ w'.heap.size)
    (hkeep : ∀ b, b < w.heap.size → b ∉ e.ids → w'.heap[b]? = w.heap[b]?) (hnd : e'.ids.Nodup) (hids : ∀ b ∈ e'.ids, b ∈ e.ids ∨ w.heap.size ≤ b) (hok : e'.ok w') : St w0 M w' (e' :: R) := by
  have hR : ∀ b ∈ idsOf R, b < w.heap.size ∧ b ∉ e.ids := fun b hb => by
    refine ⟨h.lt (by simp [idsOf] at hb ⊢; exact .inr hb), fun hbe => ?_⟩
    have hn := h.nodup
    simp only [idsOf, List.flatMap_cons] at hn
    exact (List.nodup_append.1 hn).2.2 b hbe b hb rfl
  refine ⟨hos.trans h.os, htape.trans h.tape, hout.trans h.output, Nat.le_trans h.size hsz, ?_, ?_, ?_, ?_⟩
  · have hn := h.nodup
    simp only [idsOf, List.flatMap_cons] at hn ⊢
    refine List.nodup_append.2 ⟨hnd, (List.nodup_append.1 hn).2.1, fun b hb c hc hbc => ?_⟩
    subst hbc
    rcases hids b hb with h1 | h1
    · exact (hR b hc).2 h1
    · have := (hR b hc).1
      omega
  · intro b hb
    simp only [idsOf, List.flatMap_cons, List.mem_append] at hb
    rcases hb with hb | hb
    · rcases hids b hb with h1 | h1
      · exact h.new b (mem_ids (List.mem_cons_self ..) h1)
      · exact .inl (Nat.le_trans h.size h1)
    · exact h.new b (by simp only [idsOf, List.flatMap_cons, List.mem_append]; exact .inr hb)
  · intro x hx
    rcases List.mem_cons.1 hx with rfl | hx
    · exact hok
    · exact x.loc w w' (fun b hb => hkeep b (hR b (mem_ids hx hb)).1 (hR b (mem_ids hx hb)).2) (h.ok x (List.mem_cons_of_mem _ hx))
  · intro b hb hM
    rw [hkeep b (Nat.lt_of_lt_of_le hb h.size) (fun hbe => ?_)]
    · exact h.old b hb hM
    · rcases h.new b (mem_ids (List.mem_cons_self ..) hbe) with h1 | h1
      · omega
      · exact hM h1

/-- Nothing that was there turns; a thing comes. -/
theorem St.add {e' : Ent} (h : St w0 M w L) (hos : w'.os = w.os) (htape : w'.tape = w.tape) (hout : w'.output = w.output) (hsz : w.heap.size ≤ w'.heap.size)
    (hkeep : ∀ b, b < w.heap.size → w'.heap[b]? = w.heap[b]?) (hnd : e'.ids.Nodup) (hids : ∀ b ∈ e'.ids, w.heap.size ≤ b) (hok : e'.ok w') : St w0 M w' (e' :: L) := by
  have h0 : St w0 M w (⟨[], fun _ => True, fun _ _ _ _ => trivial, fun _ _ _ hb => (by cases hb)⟩ :: L) :=
    ⟨h.os, h.tape, h.output, h.size, by simpa [idsOf] using h.nodup, by simpa [idsOf] using h.new, fun e he => (by
      rcases List.mem_cons.1 he with rfl | he
      · trivial
      · exact h.ok e he), h.old⟩
  exact h0.step hos htape hout hsz (fun b hb _ => hkeep b hb) hnd (fun b hb => .inr (hids b hb)) hok

theorem St.alloc (h : St w0 M w L) (o : Obj) : St w0 M (w.alloc o) (Ent.obj w.heap.size o :: L) :=
  h.add rfl rfl rfl (by simp) (fun _ hb => heap_alloc_old w o hb) (by simp [Ent.obj]) (by simp [Ent.obj]) (heap_alloc_new w o)

theorem perm_front {α : Type} : ∀ {l : List α} {j : Nat} {e : α}, l[j]? = some e → (e :: l.eraseIdx j).Perm l
  | [], _, _, h => by simp at h
  | a :: l, 0, e, h => by
    obtain rfl : a = e := by simpa using h
    exact .refl _
  | a :: l, j + 1, e, h => by
    have h' : l[j]? = some e := by simpa using h
    exact (List.Perm.swap a e _).trans ((perm_front h').cons a)

theorem perm_back {α : Type} : ∀ {l : List α} {j : Nat} {e e' : α}, l[j]? = some e' → (l.set j e).Perm (e :: l.eraseIdx j)
  | [], _, _, _, h => by simp at h
  | a :: l, 0, e, e', h => .refl _
  | a :: l, j + 1, e, e', h => by
    have h' : l[j]? = some e' := by simpa using h
    exact ((perm_back h').cons a).trans (List.Perm.swap e a _)

/-- The thing at place j comes to the head. -/
theorem St.front {e : Ent} {j : Nat} (h : St w0 M w L) (hj : L[j]? = some e) : St w0 M w (e :: L.eraseIdx j) := by
  exact h.perm (perm_front hj)

theorem St.back {e : Ent} {j : Nat} {e' : Ent} (hj : L[j]? = some e') (h : St w0 M w (e :: L.eraseIdx j)) : St w0 M w (L.set j e) := by
  exact h.perm (perm_back hj)

theorem St.get {e : Ent} {j : Nat} (h : St w0 M w L) (hj : L[j]? = some e) : e.ok w := h.ok e (List.mem_of_getElem? hj)

theorem St.blk {j g : Nat} {T : TypeId} {cs : Array Value} (h : St w0 M w L) (hj : L[j]? = some (Ent.blk g T cs)) : w.heap[g]? = some (.cells cs T (0, 0)) := h.get hj

theorem cell_blk {g : Nat} {T : TypeId} {cs : Array Value} (h : w.heap[g]? = some (.cells cs T (0, 0))) (i : Nat) : w.cell? ⟨g, i, none⟩ = cs[i]? := cell_of_row w g i cs T (0, 0) h
theorem frozen_blk {g : Nat} {T : TypeId} {cs : Array Value} (h : w.heap[g]? = some (.cells cs T (0, 0))) (i : Nat) : w.frozen? ⟨g, i, none⟩ = false := by simp [World.frozen?, h]

theorem heap_set {g i : Nat} {T : TypeId} {cs : Array Value} (h : w.heap[g]? = some (.cells cs T (0, 0))) (v : Value) :
    (w.setCell ⟨g, i, none⟩ v).heap[g]? = some (.cells (cs.setIfInBounds i v) T (0, 0)) := by
  simp [World.setCell, Array.getElem?_modify, h]

/-- A store into a block of ours. -/
theorem St.set {j g i : Nat} {T : TypeId} {cs : Array Value} (h : St w0 M w L) (hj : L[j]? = some (Ent.blk g T cs)) (v : Value) :
    St w0 M (w.setCell ⟨g, i, none⟩ v) (L.set j (Ent.blk g T (cs.setIfInBounds i v))) := by
  have hb := h.blk hj
  refine St.back hj ((h.front hj).step rfl rfl rfl (by simp [World.setCell]) (fun b _ hne => ?_) (by simp [Ent.blk, Ent.obj]) (by simp [Ent.blk, Ent.obj]) (heap_set hb v))
  exact Below.heap_setCell _ _ _ _ (by simpa [Ent.blk, Ent.obj] using hne)

/-- A cell that was there is as it was. -/
theorem St.oldcell (h : St w0 M w L) {p : Addr} (hp : p.block < w0.heap.size) (hM : p.block ∉ M) : w.cell? p = w0.cell? p :=
  World.cell?_of_block (h.old p.block hp hM)

/-- Behind a call that leaves all as it was but N, which is among what we know (the first k things). -/
theorem St.comp {N : List Nat} {L1 L2 L' : List Ent} (h : St w0 M w (L1 ++ L2)) (h' : St w N w' L') (hN : ∀ b ∈ N, b ∈ idsOf L1) : St w0 M w' (L' ++ L2) := by
  have hn := h.nodup
  simp only [idsOf, List.flatMap_append] at hn
  have hsep : ∀ b ∈ idsOf L2, b < w.heap.size ∧ b ∉ N := fun b hb =>
    ⟨h.lt (by simp only [idsOf, List.flatMap_append, List.mem_append]; exact .inr hb), fun hbN => (List.nodup_append.1 hn).2.2 b (hN b hbN) b hb rfl⟩
  refine ⟨h'.os.trans h.os, h'.tape.trans h.tape, h'.output.trans h.output, Nat.le_trans h.size h'.size, ?_, ?_, ?_, ?_⟩
  · simp only [idsOf, List.flatMap_append]
    refine List.nodup_append.2 ⟨h'.nodup, (List.nodup_append.1 hn).2.1, fun b hb c hc hbc => ?_⟩
    subst hbc
    rcases h'.new b hb with h1 | h1
    · have := (hsep b hc).1
      omega
    · exact (hsep b hc).2 h1
  · intro b hb
    simp only [idsOf, List.flatMap_append, List.mem_append] at hb
    rcases hb with hb | hb
    · rcases h'.new b hb with h1 | h1
      · exact .inl (Nat.le_trans h.size h1)
      · exact h.new b (by simp only [idsOf, List.flatMap_append, List.mem_append]; exact .inl (hN b h1))
    · exact h.new b (by simp only [idsOf, List.flatMap_append, List.mem_append]; exact .inr hb)
  · intro e he
    rcases List.mem_append.1 he with he | he
    · exact h'.ok e he
    · exact e.loc w w' (fun b hb => h'.old b (hsep b (mem_ids he hb)).1 (hsep b (mem_ids he hb)).2) (h.ok e (List.mem_append_right _ he))
  · intro b hb hM
    rw [h'.old b (Nat.lt_of_lt_of_le hb h.size) (fun hbN => ?_)]
    · exact h.old b hb hM
    · rcases h.new b (by simp only [idsOf, List.flatMap_append, List.mem_append]; exact .inl (hN b hbN)) with h1 | h1
      · omega
      · exact hM h1

/-- Behind a call that leaves all as it was. -/
theorem St.call {L' : List Ent} (h : St w0 M w L) (h' : St w [] w' L') : St w0 M w' (L' ++ L) :=
  St.comp (L1 := []) h h' (by simp)

end SX
end Go.Proofs.Yteabcdmgklhijaa
