/- Part 1 of the proofs that lead to the statement. -/
import Derived.WalkKit
import Derived.WalkSpells
import Derived.WalkLawsBesides
import Derived.Lib.Hide
import Derived.Maps.AppendAt
import Derived.Deep.AppendLies
import Derived.RangeFuncNested
import Derived.RangeFuncBound
import Derived.RangeFuncCalls
import Derived.RangeFuncLeaves
import Derived.OwnWalkIn
import Derived.TacticsInMore
import Derived.LoopNIn
import Derived.LoopIn
import Derived.OrdersIn
import Derived.Laws.Rows
import Derived.Laws.BitsAllLaws
import Derived.Laws.BitsLemmas
import Derived.Laws.Tables
import Derived.ProofKit
import Derived.OpenShut
import Derived.ShutString
import Derived.ChangeOld
import Derived.Below
/- The walk's words of this seat: a function's own blocks in memory asz one list, and the laws of the operations over it. -/
namespace Go.Proofs.Ytogjkgoiofngaaa
open Go.RowKit
namespace SX

/-- A thing in memory: the blocks in which it lies, and what is said of it. -/
structure Ent where
  ids : List Nat
  ok : World → Prop
  loc : ∀ w w' : World, (∀ b ∈ ids, w'.heap[b]? = w.heap[b]?) → ok w → ok w'
  lt : ∀ w : World, ok w → ∀ b ∈ ids, b < w.heap.size

theorem lt_of_some {w : World} {g : Nat} {o : Obj} (h : w.heap[g]? = some o) : g < w.heap.size := (Array.getElem?_eq_some_iff.1 h).1

/-- Block g is just o. -/
def Ent.obj (g : Nat) (o : Obj) : Ent where
  ids := [g]
  ok w := w.heap[g]? = some o
  loc w w' h hk := by rw [h g (by simp)]; exact hk
  lt w h b hb := by
    obtain rfl : b = g := by simpa using hb
    exact lt_of_some h

/-- Block g is just the cells cs of element type T, none frozen. -/
def Ent.blk (g : Nat) (T : TypeId) (cs : Array Value) : Ent := Ent.obj g (.cells cs T (0, 0))

/-- v is a slice of n elements that is nil, or starts a block of its own; its elements' cells are xs. -/
def Ent.row (v : Value) (T : TypeId) (size n : Nat) (xs : List Value) : Ent where
  ids := v.ownBlock.toList
  ok w := w.ownsRow 0 T size v n xs
  loc w w' h hk := by
    refine ⟨hk.1, ?_⟩
    rcases hk.2 with hn | ⟨g, cap, cur, rfl, hb, hgg, rest⟩
    · exact .inl hn
    · refine .inr ⟨g, cap, cur, rfl, hb, ?_, rest⟩
      rw [h g (by simp [Value.ownBlock])]
      exact hgg
  lt w h b hb := by
    have hb' : v.ownBlock = some b := by
      cases hv : v.ownBlock with
      | none => rw [hv] at hb; simp at hb
      | some k => rw [hv] at hb; simp at hb; rw [hb]
    exact (h.lt b hb').2

def idsOf (L : List Ent) : List Nat := L.flatMap Ent.ids

/-- From w0 to w: what is not in M and was there is asz it was; the things of L lie apart from each other, in new blocks or in M. -/
structure St (w0 : World) (M : List Nat) (w : World) (L : List Ent) : Prop where
  os : w.os = w0.os
  tape : w.tape = w0.tape
  output : w.output = w0.output
  size : w0.heap.size ≤ w.heap.size
  nodup : (idsOf L).Nodup
  new : ∀ b ∈ idsOf L, w0.heap.size ≤ b ∨ b ∈ M
  ok : ∀ e ∈ L, e.ok w
  old : ∀ b, b < w0.heap.size → b ∉ M → w.heap[b]? = w0.heap[b]?

variable {w0 w w' : World} {M : List Nat} {L : List Ent}

theorem St.start (w : World) : St w [] w [] := ⟨rfl, rfl, rfl, Nat.le_refl _, by simp [idsOf], by simp [idsOf], by simp, fun _ _ _ => rfl⟩

theorem St.own (h : (idsOf L).Nodup) (hok : ∀ e ∈ L, e.ok w) : St w (idsOf L) w L :=
  ⟨rfl, rfl, rfl, Nat.le_refl _, h, fun _ h => .inr h, hok, fun _ _ _ => rfl⟩

theorem mem_ids {e : Ent} (he : e ∈ L) {b : Nat} (hb : b ∈ e.ids) : b ∈ idsOf L := List.mem_flatMap.2 ⟨e, he, hb⟩

theorem St.lt (h : St w0 M w L) {b : Nat} (hb : b ∈ idsOf L) : b < w.heap.size := by
  obtain ⟨e, he, hbe⟩ := List.mem_flatMap.1 hb
  exact e.lt w (h.ok e he) b hbe

theorem St.drew (h : St w0 M w L) : St w0 M w.drew L := ⟨h.os, h.tape, h.output, h.size, h.nodup, h.new, fun e he => e.loc w w.drew (fun _ _ => rfl) (h.ok e he), h.old⟩

theorem St.drawn (h : St w0 M w L) (k : Nat) : St w0 M { w with drawn := k } L :=
  ⟨h.os, h.tape, h.output, h.size, h.nodup, h.new, fun e he => e.loc w _ (fun _ _ => rfl) (h.ok e he), h.old⟩

theorem St.below (h : St w0 [] w L) : Below w0.heap.size w0 w := ⟨h.os, h.tape, h.output, h.size, fun k hk => h.old k hk (by simp)⟩

theorem ids_sub {L L' : List Ent} (hs : L'.Sublist L) : (idsOf L').Sublist (idsOf L) := by
  induction hs with
  | slnil => exact .slnil
  | cons a _ ih => exact ih.trans (List.sublist_append_right _ _)
  | cons_cons a _ ih => exact (List.Sublist.refl _).append ih

theorem St.sub {L' : List Ent} (h : St w0 M w L) (hs : L'.Sublist L) : St w0 M w L' :=
  ⟨h.os, h.tape, h.output, h.size, (ids_sub hs).nodup h.nodup, fun b hb => h.new b ((ids_sub hs).subset hb), fun e he => h.ok e (hs.subset he), h.old⟩

theorem St.perm {L' : List Ent} (h : St w0 M w L) (hp : L'.Perm L) : St w0 M w L' :=
  ⟨h.os, h.tape, h.output, h.size, ((hp.flatMap_right _).nodup_iff).2 h.nodup, fun b hb => h.new b ((hp.flatMap_right _).subset hb), fun e he => h.ok e (hp.subset he), h.old⟩

theorem St.tl {e : Ent} (h : St w0 M w (e :: L)) : St w0 M w L := h.sub (List.sublist_cons_self _ _)
theorem St.rot {L1 L2 : List Ent} (h : St w0 M w (L1 ++ L2)) : St w0 M w (L2 ++ L1) := h.perm List.perm_append_comm

/-- One step: only blocks of the thing at the head, or new ones, have turned. -/
theorem St.step {e e' : Ent} {R : List Ent} (h : St w0 M w (e :: R)) (hos : w'.os = w.os) (htape : w'.tape = w.tape) (hout : w'.output = w.output) (hsz : w.heap.size ≤ w'.heap.size)
    (hkeep : ∀ b, b < w.heap.size → b ∉ e.ids → w'.heap[b]? = w.heap[b]?) (hnd : e'.ids.Nodup) (hids : ∀ b ∈ e'.ids, b ∈ e.ids ∨ w.heap.size ≤ b) (hok : e'.ok w') : St w0 M w' (e' :: R) := by
  have hR : ∀ b ∈ idsOf R, b < w.heap.size ∧ b ∉ e.ids := fun b hb => by
    refine ⟨h.lt (by simp [idsOf] at hb ⊢; exact .inr hb), fun hbe => ?_⟩
    have hn := h.nodup
    simp only [idsOf, List.flatMap_cons] at hn
    exact (List.nodup_append.1 hn).2.2 b hbe b hb rfl
  refine ⟨hos.trans h.os, htape.trans h.tape, hout.trans h.output, Nat.le_trans h.size hsz, ?_, ?_, ?_, ?_⟩
  · have hn := h.nodup
    simp only [idsOf, List.flatMap_cons] at hn ⊢
    refine List.nodup_append.2 ⟨hnd, (List.nodup_append.1 hn).2.1, fun b hb c hc hbc => ?_⟩
    subst hbc
    rcases hids b hb with h1 | h1
    · exact (hR b hc).2 h1
    · have := (hR b hc).1
      omega
  · intro b hb
    simp only [idsOf, List.flatMap_cons, List.mem_append] at hb
    rcases hb with hb | hb
    · rcases hids b hb with h1 | h1
      · exact h.new b (mem_ids (List.mem_cons_self ..) h1)
      · exact .inl (Nat.le_trans h.size h1)
    · exact h.new b (by simp only [idsOf, List.flatMap_cons, List.mem_append]; exact .inr hb)
  · intro x hx
    rcases List.mem_cons.1 hx with rfl | hx
    · exact hok
    · exact x.loc w w' (fun b hb => hkeep b (hR b (mem_ids hx hb)).1 (hR b (mem_ids hx hb)).2) (h.ok x (List.mem_cons_of_mem _ hx))
  · intro b hb hM
    rw [hkeep b (Nat.lt_of_lt_of_le hb h.size) (fun hbe => ?_)]
    · exact h.old b hb hM
    · rcases h.new b (mem_ids (List.mem_cons_self ..) hbe) with h1 | h1
      · omega
      · exact hM h1

/-- Nothing that was there turns; a thing comes. -/
theorem St.add {e' : Ent} (h : St w0 M w L) (hos : w'.os = w.os) (htape : w'.tape = w.tape) (hout : w'.output = w.output) (hsz : w.heap.size ≤ w'.heap.size)
    (hkeep : ∀ b, b < w.heap.size → w'.heap[b]? = w.heap[b]?) (hnd : e'.ids.Nodup) (hids : ∀ b ∈ e'.ids, w.heap.size ≤ b) (hok : e'.ok w') : St w0 M w' (e' :: L) := by
  have h0 : St w0 M w (⟨[], fun _ => True, fun _ _ _ _ => trivial, fun _ _ _ hb => (by cases hb)⟩ :: L) :=
    ⟨h.os, h.tape, h.output, h.size, by simpa [idsOf] using h.nodup, by simpa [idsOf] using h.new, fun e he => (by
      rcases List.mem_cons.1 he with rfl | he
      · trivial
      · exact h.ok e he), h.old⟩
  exact h0.step hos htape hout hsz (fun b hb _ => hkeep b hb) hnd (fun b hb => .inr (hids b hb)) hok

theorem St.alloc (h : St w0 M w L) (o : Obj) : St w0 M (w.alloc o) (Ent.obj w.heap.size o :: L) :=
  h.add rfl rfl rfl (by simp) (fun _ hb => heap_alloc_old w o hb) (by simp [Ent.obj]) (by simp [Ent.obj]) (heap_alloc_new w o)

theorem perm_front {α : Type} : ∀ {l : List α} {j : Nat} {e : α}, l[j]? = some e → (e :: l.eraseIdx j).Perm l
  | [], _, _, h => by simp at h
  | a :: l, 0, e, h => by
    obtain rfl : a = e := by simpa using h
    exact .refl _
  | a :: l, j + 1, e, h => by
    have h' : l[j]? = some e := by simpa using h
    exact (List.Perm.swap a e _).trans ((perm_front h').cons a)

theorem perm_back {α : Type} : ∀ {l : List α} {j : Nat} {e e' : α}, l[j]? = some e' → (l.set j e).Perm (e :: l.eraseIdx j)
  | [], _, _, _, h => by simp at h
  | a :: l, 0, e, e', h => .refl _
  | a :: l, j + 1, e, e', h => by
    have h' : l[j]? = some e' := by simpa using h
    exact ((perm_back h').cons a).trans (List.Perm.swap e a _)

/-- The thing at place j comes to the head. -/
theorem St.front {e : Ent} {j : Nat} (h : St w0 M w L) (hj : L[j]? = some e) : St w0 M w (e :: L.eraseIdx j) := by
  exact h.perm (perm_front hj)

theorem St.back {e : Ent} {j : Nat} {e' : Ent} (hj : L[j]? = some e') (h : St w0 M w (e :: L.eraseIdx j)) : St w0 M w (L.set j e) := by
  exact h.perm (perm_back hj)

theorem St.get {e : Ent} {j : Nat} (h : St w0 M w L) (hj : L[j]? = some e) : e.ok w := h.ok e (List.mem_of_getElem? hj)

theorem St.blk {j g : Nat} {T : TypeId} {cs : Array Value} (h : St w0 M w L) (hj : L[j]? = some (Ent.blk g T cs)) : w.heap[g]? = some (.cells cs T (0, 0)) := h.get hj

theorem cell_blk {g : Nat} {T : TypeId} {cs : Array Value} (h : w.heap[g]? = some (.cells cs T (0, 0))) (i : Nat) : w.cell? ⟨g, i, none⟩ = cs[i]? := cell_of_row w g i cs T (0, 0) h
theorem frozen_blk {g : Nat} {T : TypeId} {cs : Array Value} (h : w.heap[g]? = some (.cells cs T (0, 0))) (i : Nat) : w.frozen? ⟨g, i, none⟩ = false := by simp [World.frozen?, h]

theorem heap_set {g i : Nat} {T : TypeId} {cs : Array Value} (h : w.heap[g]? = some (.cells cs T (0, 0))) (v : Value) :
    (w.setCell ⟨g, i, none⟩ v).heap[g]? = some (.cells (cs.setIfInBounds i v) T (0, 0)) := by
  simp [World.setCell, Array.getElem?_modify, h]

/-- A store into a block of ours. -/
theorem St.set {j g i : Nat} {T : TypeId} {cs : Array Value} (h : St w0 M w L) (hj : L[j]? = some (Ent.blk g T cs)) (v : Value) :
    St w0 M (w.setCell ⟨g, i, none⟩ v) (L.set j (Ent.blk g T (cs.setIfInBounds i v))) := by
  have hb := h.blk hj
  refine St.back hj ((h.front hj).step rfl rfl rfl (by simp [World.setCell]) (fun b _ hne => ?_) (by simp [Ent.blk, Ent.obj]) (by simp [Ent.blk, Ent.obj]) (heap_set hb v))
  exact Below.heap_setCell _ _ _ _ (by simpa [Ent.blk, Ent.obj] using hne)

/-- A cell that was there is asz it was. -/
theorem St.oldcell (h : St w0 M w L) {p : Addr} (hp : p.block < w0.heap.size) (hM : p.block ∉ M) : w.cell? p = w0.cell? p :=
  World.cell?_of_block (h.old p.block hp hM)

/-- Behind a call that leaves all asz it was but N, which is among what we know (the first k things). -/
theorem St.comp {N : List Nat} {L1 L2 L' : List Ent} (h : St w0 M w (L1 ++ L2)) (h' : St w N w' L') (hN : ∀ b ∈ N, b ∈ idsOf L1) : St w0 M w' (L' ++ L2) := by
  have hn := h.nodup
  simp only [idsOf, List.flatMap_append] at hn
  have hsep : ∀ b ∈ idsOf L2, b < w.heap.size ∧ b ∉ N := fun b hb =>
    ⟨h.lt (by simp only [idsOf, List.flatMap_append, List.mem_append]; exact .inr hb), fun hbN => (List.nodup_append.1 hn).2.2 b (hN b hbN) b hb rfl⟩
  refine ⟨h'.os.trans h.os, h'.tape.trans h.tape, h'.output.trans h.output, Nat.le_trans h.size h'.size, ?_, ?_, ?_, ?_⟩
  · simp only [idsOf, List.flatMap_append]
    refine List.nodup_append.2 ⟨h'.nodup, (List.nodup_append.1 hn).2.1, fun b hb c hc hbc => ?_⟩
    subst hbc
    rcases h'.new b hb with h1 | h1
    · have := (hsep b hc).1
      omega
    · exact (hsep b hc).2 h1
  · intro b hb
    simp only [idsOf, List.flatMap_append, List.mem_append] at hb
    rcases hb with hb | hb
    · rcases h'.new b hb with h1 | h1
      · exact .inl (Nat.le_trans h.size h1)
      · exact h.new b (by simp only [idsOf, List.flatMap_append, List.mem_append]; exact .inl (hN b h1))
    · exact h.new b (by simp only [idsOf, List.flatMap_append, List.mem_append]; exact .inr hb)
  · intro e he
    rcases List.mem_append.1 he with he | he
    · exact h'.ok e he
    · exact e.loc w w' (fun b hb => h'.old b (hsep b (mem_ids he hb)).1 (hsep b (mem_ids he hb)).2) (h.ok e (List.mem_append_right _ he))
  · intro b hb hM
    rw [h'.old b (Nat.lt_of_lt_of_le hb h.size) (fun hbN => ?_)]
    · exact h.old b hb hM
    · rcases h.new b (by simp only [idsOf, List.flatMap_append, List.mem_append]; exact .inl (hN b hbN)) with h1 | h1
      · omega
      · exact hM h1

/-- Behind a call that leaves all asz it was. -/
theorem St.call {L' : List Ent} (h : St w0 M w L) (h' : St w [] w' L') : St w0 M w' (L' ++ L) :=
  St.comp (L1 := []) h h' (by simp)

end SX
end Go.Proofs.Ytogjkgoiofngaaa

/- The laws of the operations that touch memory, over the list of a function's own blocks. -/
namespace Go.Proofs.Ytogjkgoiofngaaa
open Go.RowKit
set_option linter.unusedVariables false
set_option linter.unusedSimpArgs false
namespace SX
variable {F : Fence} {n : Nat} {P : Program} {w0 w : World} {M : List Nat} {L : List Ent} {a : Act} {K : Act → World → Prop} {Q : Exit → Act → World → Prop}
variable {o : Oper} {T : TypeId}

theorem semAt_plain (F : Fence) (ρ : Operand → Value) (o : Oper) (h : ∀ c, o.op ≠ .defer c) : o.semAt F.round ρ = execOp ρ o := Oper.semAt_plain F ρ o h

theorem val {v : Value} {w' : World} (h1 : ∀ c, o.op ≠ .call c) (h2 : ∀ c, o.op ≠ .defer c) (hr : (execOp a.eval o).run P w = .ok (.value v) w') (hK : K (a.put o.dst v) w') : o.wpIn F n P a w K Q := by
  refine ⟨fun f hf => ?_, ?_⟩
  · exfalso
    unfold Oper.about at hf
    cases ho : o.op <;> simp only [ho] at hf <;> first | cases hf | exact h1 _ ho
  · rw [semAt_plain F _ o h2, hr]
    exact hK

theorem nov {w' : World} (h1 : ∀ c, o.op ≠ .call c) (h2 : ∀ c, o.op ≠ .defer c) (hr : (execOp a.eval o).run P w = .ok .skip w') (hK : K (a.put o.dst undef) w') : o.wpIn F n P a w K Q := by
  refine ⟨fun f hf => ?_, ?_⟩
  · exfalso
    unfold Oper.about at hf
    cases ho : o.op <;> simp only [ho] at hf <;> first | cases hf | exact h1 _ ho
  · rw [semAt_plain F _ o h2, hr]
    exact hK

/-- One cell is loaded. -/
theorem load1 {p : Operand} {q : Addr} {v : Value} (ho : o.op = .load T p) (hagg : ∀ w, (isAgg T).run P w = .ok false w) (hp : a.eval p = .pointer (some q)) (hc : w.cell? q = some v)
    (hK : K (a.put o.dst v) w) : o.wpIn F n P a w K Q := by
  refine val (by intro c h; rw [ho] at h; cases h) (by intro c h; rw [ho] at h; cases h) (v := v) (w' := w) ?_ hK
  simp [execOp, ho, hp, Instr.loadAt, Instr.sureAddr, loadVar, hagg, hc]

theorem load_blk {p : Operand} {g i : Nat} {v : Value} {T' : TypeId} {cs : Array Value} {j : Nat} (ho : o.op = .load T p) (hs : St w0 M w L) (hagg : ∀ w, (isAgg T).run P w = .ok false w)
    (hp : a.eval p = .pointer (some ⟨g, i, none⟩)) (hj : L[j]? = some (Ent.blk g T' cs)) (hv : cs[i]? = some v)
    (hK : K (a.put o.dst v) w) : o.wpIn F n P a w K Q :=
  load1 ho hagg hp ((cell_blk (hs.blk hj) i).trans hv) hK

theorem load_old {p : Operand} {g i : Nat} {v : Value} (ho : o.op = .load T p) (hs : St w0 M w L) (hagg : ∀ w, (isAgg T).run P w = .ok false w)
    (hp : a.eval p = .pointer (some ⟨g, i, none⟩)) (hg : g < w0.heap.size) (hM : g ∉ M) (hc : w0.cell? ⟨g, i, none⟩ = some v)
    (hK : K (a.put o.dst v) w) : o.wpIn F n P a w K Q :=
  load1 ho hagg hp ((hs.oldcell (p := ⟨g, i, none⟩) hg hM).trans hc) hK

theorem row_cell {g k c m size : Nat} {xs : List Value} {j i : Nat} {v : Value} (hs : St w0 M w L) (hj : L[j]? = some (Ent.row (.slice (some ⟨g, 0, none⟩) k c) T size m xs)) (hv : xs[i]? = some v) :
    w.cell? ⟨g, i, none⟩ = some v := by
  have := (hs.get hj : w.ownsRow 0 T size _ m xs).cells (g := g) rfl i v hv
  have hadd : (⟨g, 0, none⟩ : Addr).add i = ⟨g, i, none⟩ := by unfold Addr.add; split <;> simp_all
  rwa [hadd] at this

theorem load_row {p : Operand} {g i : Nat} {v : Value} {T' : TypeId} {k c m size : Nat} {xs : List Value} {j : Nat} (ho : o.op = .load T p) (hs : St w0 M w L) (hagg : ∀ w, (isAgg T).run P w = .ok false w)
    (hp : a.eval p = .pointer (some ⟨g, i, none⟩)) (hj : L[j]? = some (Ent.row (.slice (some ⟨g, 0, none⟩) k c) T' size m xs)) (hv : xs[i]? = some v)
    (hK : K (a.put o.dst v) w) : o.wpIn F n P a w K Q :=
  load1 ho hagg hp (row_cell hs hj hv) hK

/-- One cell is stored. -/
theorem store1 {p x : Operand} {q : Addr} {v u : Value} (ho : o.op = .store T p x) (hsz : ∀ w, (sizeOf T).run P w = .ok 1 w) (hp : a.eval p = .pointer (some q)) (hx : a.eval x = v) (h1 : v.oneCell' = true)
    (hc : w.cell? q = some u) (hf : w.frozen? q = false)
    (hK : K (a.put o.dst undef) (w.setCell q v)) : o.wpIn F n P a w K Q := by
  refine nov (by intro c h; rw [ho] at h; cases h) (by intro c h; rw [ho] at h; cases h) (w' := w.setCell q v) ?_ hK
  have hcs : v.cells = #[v] := by cases v <;> first | rfl | simp [Value.oneCell'] at h1
  have hadd : q.add 0 = q := by simp [Addr.add]
  simp [execOp, ho, hp, hx, Instr.storeAt, Instr.sureAddr, storeVar, hsz, hcs, storeCells, hadd, run_store P w q v _ h1, hc, hf]

theorem store_blk {p x : Operand} {g i : Nat} {v : Value} {T' : TypeId} {cs : Array Value} {j : Nat} (ho : o.op = .store T p x) (hs : St w0 M w L) (hsz : ∀ w, (sizeOf T).run P w = .ok 1 w)
    (hp : a.eval p = .pointer (some ⟨g, i, none⟩)) (hx : a.eval x = v) (h1 : v.oneCell' = true) (hj : L[j]? = some (Ent.blk g T' cs)) (hi : i < cs.size)
    (hK : ∀ w', St w0 M w' (L.set j (Ent.blk g T' (cs.setIfInBounds i v))) → K (a.put o.dst undef) w') : o.wpIn F n P a w K Q :=
  store1 ho hsz hp hx h1 (u := cs[i]) ((cell_blk (hs.blk hj) i).trans (by simp [hi])) (frozen_blk (hs.blk hj) i) (hK _ (hs.set hj v))

theorem row_set {g k c m size : Nat} {xs : List Value} {j i : Nat} (hs : St w0 M w L) (hj : L[j]? = some (Ent.row (.slice (some ⟨g, 0, none⟩) k c) T size m xs)) (v : Value) :
    St w0 M (w.setCell ⟨g, i, none⟩ v) (L.set j (Ent.row (.slice (some ⟨g, 0, none⟩) k c) T size m (xs.set i v))) := by
  have hr : w.ownsRow 0 T size (.slice (some ⟨g, 0, none⟩) k c) m xs := hs.get hj
  refine St.back hj ((hs.front hj).step rfl rfl rfl (by simp [World.setCell]) (fun b _ hne => ?_) (by simp [Ent.row, Value.ownBlock]) (by simp [Ent.row, Value.ownBlock]) ?_)
  · exact Below.heap_setCell _ _ _ _ (by simpa [Ent.row, Value.ownBlock] using hne)
  · obtain ⟨h1, h2⟩ := hr
    refine ⟨by simpa using h1, ?_⟩
    rcases h2 with ⟨h, _⟩ | ⟨g', cap, cur, hv, hb, hh, hn, hm, hcs, ht⟩
    · cases h
    · simp only [Value.slice.injEq, Option.some.injEq, Addr.mk.injEq, and_true] at hv
      obtain ⟨rfl, rfl, rfl⟩ := hv
      refine .inr ⟨g, c, cur.setIfInBounds i v, rfl, hb, heap_set hh v, hn, hm, by simpa using hcs, ?_⟩
      rw [Array.toList_setIfInBounds, ← ht, List.take_set]

theorem row_frozen {g k c m size : Nat} {xs : List Value} {j i : Nat} (hs : St w0 M w L) (hj : L[j]? = some (Ent.row (.slice (some ⟨g, 0, none⟩) k c) T size m xs)) : w.frozen? ⟨g, i, none⟩ = false := by
  have hr : w.ownsRow 0 T size (.slice (some ⟨g, 0, none⟩) k c) m xs := hs.get hj
  rcases hr.2 with ⟨h, _⟩ | ⟨g', cap, cur, hv, hb, hh, _⟩
  · cases h
  · simp only [Value.slice.injEq, Option.some.injEq, Addr.mk.injEq, and_true] at hv
    obtain ⟨rfl, rfl, rfl⟩ := hv
    simp [World.frozen?, hh]

theorem store_row {p x : Operand} {g i : Nat} {v : Value} {T' : TypeId} {k c m size : Nat} {xs : List Value} {j : Nat} (ho : o.op = .store T p x) (hs : St w0 M w L) (hsz : ∀ w, (sizeOf T).run P w = .ok 1 w)
    (hp : a.eval p = .pointer (some ⟨g, i, none⟩)) (hx : a.eval x = v) (h1 : v.oneCell' = true) (hj : L[j]? = some (Ent.row (.slice (some ⟨g, 0, none⟩) k c) T' size m xs)) (hi : i < xs.length)
    (hK : ∀ w', St w0 M w' (L.set j (Ent.row (.slice (some ⟨g, 0, none⟩) k c) T' size m (xs.set i v))) → K (a.put o.dst undef) w') : o.wpIn F n P a w K Q :=
  store1 ho hsz hp hx h1 (u := xs[i]) (row_cell hs hj (by simp [hi])) (row_frozen hs hj) (hK _ (row_set hs hj v))

/-- A row of our own that is nil. -/
theorem St.nil (h : St w0 M w L) (T size : Nat) : St w0 M w (Ent.row (.slice none 0 0) T size 0 [] :: L) :=
  h.add rfl rfl rfl (Nat.le_refl _) (fun _ _ => rfl) (by simp [Ent.row, Value.ownBlock]) (by simp [Ent.row, Value.ownBlock]) (World.ownsRow_nil w 0 T size)

/-- A row of our own is made. -/
theorem mk_row {l c : Operand} {T' t : TypeId} {m size bytes : Nat} {kl kc : IntKind} {i0 : TypeInfo} {z : Value} (ho : o.op = .makeSlice t l c) (hs : St w0 M w L)
    (ht : P.underlying t = some (.slice T')) (hi : P.info? T' = some i0) (hz : i0.zero = some z) (hsize : i0.size = size) (hby : i0.bytes = bytes)
    (hl : a.eval l = .int kl (m : Int)) (hc : a.eval c = .int kc (m : Int)) (hbytes : bytes * m ≤ 281474976710656) (h63 : m ≤ maxLen)
    (hK : ∀ g w', St w0 M w' (Ent.row (.slice (some ⟨g, 0, none⟩) m m) T' size m (madeCells z.cells (m * size)).toList :: L) → K (a.put o.dst (.slice (some ⟨g, 0, none⟩) m m)) w') :
    o.wpIn F n P a w K Q := by
  subst hby
  obtain ⟨w', hrun, hown, hg⟩ := run_make_full (P := P) w 0 t T' i0 z size ht hi hz hsize kl kc m hbytes h63 (Nat.zero_le _)
  refine val (by intro c h; rw [ho] at h; cases h) (by intro c h; rw [ho] at h; cases h) (v := .slice (some ⟨w.heap.size, 0, none⟩) m m) (w' := w') ?_ (hK _ _ ?_)
  · simp [execOp, ho, hl, hc, hrun]
  · exact hs.add hg.os hg.tape hg.output hg.size (fun b hb => hg.block b hb (by simp)) (by simp [Ent.row, Value.ownBlock]) (by simp [Ent.row, Value.ownBlock]) hown

theorem madeCells_one (z : Value) (n : Nat) : (madeCells #[z] n).toList = List.replicate n z := by
  apply List.ext_getElem?
  intro i
  by_cases h : i < n
  · simp [madeCells, List.getElem?_replicate, h, Nat.mod_one]
  · rw [List.getElem?_eq_none (by simp [madeCells]; omega), List.getElem?_eq_none (by simp; omega)]

/-- What an append onto a row of our own does. -/
theorem append_row {s x : Operand} {v : Value} {T' t : TypeId} {k m c size bytes : Nat} {xs news : List Value} {j : Nat} {ad : Addr} {i0 : TypeInfo} {z : Value} (ho : o.op = .call { callee := .builtin .append, args := #[s, x], argTypes := #[t, t] }) (hs : St w0 M w L)
    (ht : P.underlying t = some (.slice T')) (hi : P.info? T' = some i0) (hz : i0.zero = some z) (hsize : i0.size = size) (hby : i0.bytes = bytes) (hzs : z.cells.size = size) (hpos : 0 < size)
    (hv : a.eval s = v) (hx : a.eval x = .slice (some ad) m c) (hj : L[j]? = some (Ent.row v T' size k xs)) (hl : news.length = m * size)
    (hnews : ∀ i u, news[i]? = some u → w.cell? (ad.add i) = some u) (h1 : ∀ u ∈ news, u.oneCell' = true) (hm : 0 < m) (h63 : k + m ≤ maxLen) (hbytes : (k + m) * bytes ≤ 140737488355328)
    (hK : ∀ g cap w', St w0 M w' (L.set j (Ent.row (.slice (some ⟨g, 0, none⟩) (k + m) cap) T' size (k + m) (xs ++ news))) → K (a.put o.dst (.slice (some ⟨g, 0, none⟩) (k + m) cap)) w') :
    o.wpIn F n P a w K Q := by
  have hr : w.ownsRow 0 T' size v k xs := hs.get hj
  obtain ⟨v', w', hrun, h2, h3, _, h5⟩ := run_append_own_at (P := P) w 0 t o.type T' i0 z size bytes ht hi hz hsize hby hzs hpos v k xs hr ad m c news hl hnews h1 h63 hbytes (Nat.zero_le _)
  obtain ⟨g, cap, hv', _⟩ := h2.form (by omega)
  subst hv'
  refine ⟨?_, ?_⟩
  · simp [Oper.about, ho, resolve, Target.leads, Sem.run_pure]
  · rw [Oper.semAt_plain F _ _ (by intro c hc; rw [ho] at hc; cases hc)]
    simp only [execOp, ho, resolve, invoke, builtin, Sem.run_bind, Sem.run_pure, Result.andThen_ok, List.map_toArray, List.map_cons, List.map_nil, hv, hx, hrun]
    refine hK g cap w' (St.back hj ((hs.front hj).step h3.os h3.tape h3.output h3.size (fun b hb hne => h3.block b hb (fun e => hne ?_)) (by simp [Ent.row, Value.ownBlock]) (fun b hb => ?_) ?_))
    · simp [Ent.row, ← e]
    · have hb' : b = g := by simpa [Ent.row, Value.ownBlock] using hb
      subst hb'
      rcases h5 with h5 | h5
      · left
        have h6 : v.ownBlock = some b := h5.symm
        simp [Ent.row, h6]
      · right
        simp only [Value.ownBlock, Option.some.injEq] at h5
        omega
    · exact h2

/-- The elements to append lie in a block of ours, which is dropped. -/
theorem append_blk {s x : Operand} {v : Value} {T' t : TypeId} {k m c size bytes g' : Nat} {xs : List Value} {cs : Array Value} {j j' : Nat} {T'' : TypeId} {i0 : TypeInfo} {z : Value} (ho : o.op = .call { callee := .builtin .append, args := #[s, x], argTypes := #[t, t] }) (hs : St w0 M w L)
    (ht : P.underlying t = some (.slice T')) (hi : P.info? T' = some i0) (hz : i0.zero = some z) (hsize : i0.size = size) (hby : i0.bytes = bytes) (hzs : z.cells.size = size) (hpos : 0 < size)
    (hv : a.eval s = v) (hx : a.eval x = .slice (some ⟨g', 0, none⟩) m c) (hj : L[j]? = some (Ent.row v T' size k xs)) (hj' : L[j']? = some (Ent.blk g' T'' cs)) (hl : cs.toList.length = m * size)
    (h1 : ∀ u ∈ cs.toList, u.oneCell' = true) (hm : 0 < m) (h63 : k + m ≤ maxLen) (hbytes : (k + m) * bytes ≤ 140737488355328)
    (hK : ∀ g cap w', St w0 M w' ((L.set j (Ent.row (.slice (some ⟨g, 0, none⟩) (k + m) cap) T' size (k + m) (xs ++ cs.toList))).eraseIdx j') → K (a.put o.dst (.slice (some ⟨g, 0, none⟩) (k + m) cap)) w') :
    o.wpIn F n P a w K Q :=
  append_row ho hs ht hi hz hsize hby hzs hpos hv hx hj hl (fun i u hu => by
    have hadd : (⟨g', 0, none⟩ : Addr).add i = ⟨g', i, none⟩ := by unfold Addr.add; split <;> simp_all
    rw [hadd, cell_blk (hs.blk hj')]
    simpa using hu) h1 hm h63 hbytes fun g cap w' h => hK g cap w' (h.sub (List.eraseIdx_sublist _ _))

/-- x is y; a name that simp does not look behind. -/
def Is (x y : Result Next) : Prop := x = y

def isPtr : Op → Bool
  | .box .. | .alloc .. => true
  | _ => false
def isSl : Op → Bool
  | .buildSlice .. | .makeSlice .. => true
  | _ => false

/-- A new block, whose address is yielded asz a pointer. -/
theorem alc_ptr {ob : Obj} (h1 : isPtr o.op = true) (hs : St w0 M w L) (hr : ∀ W : World, Is ((execOp a.eval o).run P W) (.ok (.value (.pointer (some ⟨W.heap.size, 0, none⟩))) (W.alloc ob)))
    (hK : ∀ g w', St w0 M w' (Ent.obj g ob :: L) → K (a.put o.dst (.pointer (some ⟨g, 0, none⟩))) w') : o.wpIn F n P a w K Q :=
  val (by intro c h; rw [h] at h1; cases h1) (by intro c h; rw [h] at h1; cases h1) (hr w) (hK _ _ (hs.alloc ob))

/-- A new block, of which a slice is yielded. -/
theorem alc_slice {ob : Obj} {k c : Nat} (h1 : isSl o.op = true) (hs : St w0 M w L) (hr : ∀ W : World, Is ((execOp a.eval o).run P W) (.ok (.value (.slice (some ⟨W.heap.size, 0, none⟩) k c)) (W.alloc ob)))
    (hK : ∀ g w', St w0 M w' (Ent.obj g ob :: L) → K (a.put o.dst (.slice (some ⟨g, 0, none⟩) k c)) w') : o.wpIn F n P a w K Q :=
  val (by intro c h; rw [h] at h1; cases h1) (by intro c h; rw [h] at h1; cases h1) (hr w) (hK _ _ (hs.alloc ob))

/-- A new block gets a name, and so does the world behind it. -/
theorem named {ob : Obj} (hs : St w0 M w L) (h : St w0 M (w.alloc ob) (Ent.obj w.heap.size ob :: L) → K a (w.alloc ob)) : K a (w.alloc ob) := h (hs.alloc ob)
theorem named_drew (hs : St w0 M w L) (h : St w0 M w.drew L → K a w.drew) : K a w.drew := h hs.drew

theorem at0 {e : Ent} {R : List Ent} : (e :: R)[0]? = some e := rfl
theorem at1 {e0 e : Ent} {R : List Ent} : (e0 :: e :: R)[1]? = some e := rfl
theorem at2 {e0 e1 e : Ent} {R : List Ent} : (e0 :: e1 :: e :: R)[2]? = some e := rfl
theorem at3 {e0 e1 e2 e : Ent} {R : List Ent} : (e0 :: e1 :: e2 :: e :: R)[3]? = some e := rfl
theorem at4 {e0 e1 e2 e3 e : Ent} {R : List Ent} : (e0 :: e1 :: e2 :: e3 :: e :: R)[4]? = some e := rfl
theorem at5 {e0 e1 e2 e3 e4 e : Ent} {R : List Ent} : (e0 :: e1 :: e2 :: e3 :: e4 :: e :: R)[5]? = some e := rfl

theorem ls {ops : Array Oper} {rest : List Oper} (hg : o.guard = none) (h : o.wpIn F n P a w (wpListIn F n P ops Q rest) Q) : wpListIn F n P ops Q (o :: rest) a w := by
  simp only [wpListIn, Region.wanted, hg, if_true]
  exact h

/-- Does it load, store or make memory? -/
def isMem : Op → Bool
  | .load .. | .store .. | .box .. | .alloc .. | .buildSlice .. | .makeSlice .. => true
  | _ => false
theorem lsm {ops : Array Oper} {rest : List Oper} (hm : isMem o.op = true) (hg : o.guard = none) (h : o.wpIn F n P a w (wpListIn F n P ops Q rest) Q) : wpListIn F n P ops Q (o :: rest) a w := ls hg h
/-- Is it a call of a function value? -/
def isCall : Op → Bool
  | .call { callee := .value _, .. } => true
  | _ => false
theorem lsc {ops : Array Oper} {rest : List Oper} (hm : isCall o.op = true) (hg : o.guard = none) (h : o.wpIn F n P a w (wpListIn F n P ops Q rest) Q) : wpListIn F n P ops Q (o :: rest) a w := ls hg h
/-- Is it a call of append? -/
def isApp : Op → Bool
  | .call { callee := .builtin .append, .. } => true
  | _ => false
theorem lsa {ops : Array Oper} {rest : List Oper} (hm : isApp o.op = true) (hg : o.guard = none) (h : o.wpIn F n P a w (wpListIn F n P ops Q rest) Q) : wpListIn F n P ops Q (o :: rest) a w := ls hg h

/-- A function is entered. -/
theorem enter {f : FuncId} {fn : Func} {c : Code} {args : Array Value} {R : Ending → World → Prop} (hf : P.funcs[f]? = some fn) (hb : fn.body = some c)
    (h : c.wpIn Fence.wide 0 P (bodyPost P fn R) { tmps := args ++ Array.replicate (fn.ntmps - args.size) undef, defers := [] } w) : Calls P f args w R :=
  (callsIn_wide (n := 0)).1 (callsIn_of_wp hf hb trivial h)

/-- What a contract of a plain call says is said within the fence. -/
theorem call {f : FuncId} {args : Array Value} {R : Ending → World → Prop} (h : Calls P f args w R) : CallsIn Fence.wide n P f args w R := callsIn_wide.2 h
theorem callR {f : FuncId} {args : Array Value} {R : Ending → World → Prop} {l : Nat} (h : Calls P f args w R) : CallsIn (Fence.wide.inRound l) n P f args w R := CallsIn.inRound l (callsIn_wide.2 h)

/-- A contract's post: it returns a value of which Φ holds. -/
def Ret (Φ : Value → World → Prop) (e : Ending) (w' : World) : Prop := ∃ v, e = .returned v ∧ Φ v w'

end SX
end Go.Proofs.Ytogjkgoiofngaaa

/- Regions that draw their order: an operation whose value does not hang on the order is taken first; what is left comes one by one. -/
namespace Go.Proofs.Ytogjkgoiofngaaa
open Go.RowKit
set_option linter.unusedVariables false
set_option linter.unusedSimpArgs false
namespace SX
section
variable {F : Fence} {n : Nat} {P : Program} {ops : Array Oper} {Q : Exit → Act → World → Prop} {md : Region.Mode} {S : World → Prop} {D : Nat → Bool}

def YieldsS (P : Program) (ops : Array Oper) (S : World → Prop) (o : Oper) (v : Value) (a : Act) : Prop :=
  (Region.wanted o (yielded ops a.tmps) = true ∧ ∀ w, S w → (execOp a.eval o).run P w = .ok (.value v) w) ∨
  (Region.wanted o (yielded ops a.tmps) = false ∧ v = undef)

theorem YieldsS.wpOpIn {i : Nat} {o : Oper} {v : Value} {a : Act} (hF : ∀ f, F.fn f) (hi : ops[i]? = some o) (hdo : ∀ c, o.op ≠ .defer c) (hy : YieldsS P ops S o v a)
    {K : Act → World → Prop} {w : World} (hS : S w) (h : K (a.put o.dst v) w) : wpOpIn F n P ops Q i K a w := by
  unfold Go.wpOpIn
  simp only [hi]
  rcases hy with ⟨hw, hv⟩ | ⟨hw, rfl⟩
  · simp only [hw, if_true, Oper.wpIn, Oper.semAt_plain F _ o hdo, hv w hS, Oper.uponIn]; exact ⟨fun f _ => hF f, h⟩
  · simp only [hw, Bool.false_eq_true, if_false]; exact ⟨fun f _ => hF f, h⟩

theorem YieldsS.of_same {o : Oper} {v : Value} {a a' : Act} (hy : YieldsS P ops S o v a) (he : execOp a'.eval o = execOp a.eval o)
    (hw : Region.wanted o (yielded ops a'.tmps) = Region.wanted o (yielded ops a.tmps)) : YieldsS P ops S o v a' := by
  unfold YieldsS at *
  rw [he, hw]
  exact hy

theorem wpOpIn_putS {j : Nat} {oi oj : Oper} {v : Value} (hF : ∀ f, F.fn f) (hj : ops[j]? = some oj) (hap : oi.apart ops oj = true)
    (hsi : ∀ cs b, oi.op ≠ .select cs b) (hsj : ∀ cs b, oj.op ≠ .select cs b) (hdj : ∀ c, oj.op ≠ .defer c)
    (hQ : ∀ c a w, Q (.panic c) (a.put oi.dst v) w → Q (.panic c) a w) {K : Act → World → Prop} {a : Act} {w : World}
    (hy : YieldsS P ops S oi v a) (h : wpOpIn F n P ops Q j K (a.put oi.dst v) w) :
    wpOpIn F n P ops Q j (fun a' w' => YieldsS P ops S oi v a' ∧ K (a'.put oi.dst v) w') a w := by
  obtain ⟨h1, h2, h3⟩ := Oper.apart_spec hap
  have keep : ∀ (a : Act), YieldsS P ops S oi v a → ∀ u, YieldsS P ops S oi v (a.put oj.dst u) := fun a hy u =>
    hy.of_same (execOp_put oi hsi a oj.dst u h3) (wanted_put oi a oj.dst u h3)
  have keepD : ∀ d, YieldsS P ops S oi v { a with defers := d :: a.defers } := fun d => hy.of_same rfl rfl
  unfold Go.wpOpIn at *
  simp only [hj] at *
  rw [wanted_put oj a oi.dst v h1] at h
  split
  · rename_i hw
    simp only [hw, if_true] at h
    unfold Oper.wpIn at *
    refine ⟨fun f _ => hF f, ?_⟩
    have h := h.2
    rw [Oper.semAt_plain F _ oj hdj, execOp_put oj hsj a oi.dst v h1] at h
    rw [Oper.semAt_plain F _ oj hdj]
    generalize (execOp a.eval oj).run P w = r at *
    cases r with
    | ok x w' =>
      cases x <;> simp only [Oper.uponIn] at h ⊢
      case value u => exact ⟨keep a hy u, by rw [← Act.put_comm a v u h2]; exact h⟩
      case skip => exact ⟨keep a hy _, by rw [← Act.put_comm a v undef h2]; exact h⟩
      case defer d =>
        refine ⟨keep _ (keepD d) _, ?_⟩
        rw [← Act.put_comm _ v undef h2, ← Act.put_defers]
        exact h
      case enter f args =>
        refine ⟨h.1, CallsIn.mono h.2 fun e w'' he => ?_⟩
        cases e with
        | returned u => exact ⟨keep a hy u, by rw [← Act.put_comm a v u h2]; exact he⟩
        | panicked c => exact hQ _ _ _ he
        | outgrown => exact he
      case row row args => exact ⟨h.1, RowsIn.mono h.2 fun u w'' he => ⟨keep a hy u, by rw [← Act.put_comm a v u h2]; exact he⟩⟩
      case round l f tmps assign body =>
        refine ⟨h.1, RoundIn.mono h.2 fun e w'' he => ?_⟩
        cases e with
        | returned u => exact ⟨keep a hy u, by rw [← Act.put_comm a v u h2]; exact he⟩
        | panicked c => exact hQ _ _ _ he
        | outgrown => exact he
    | halt x w' =>
      cases x <;> simp only [Oper.uponIn] at h ⊢
      case panic u => exact hQ _ _ _ h
  · rename_i hw
    simp only [hw] at h
    exact ⟨fun f _ => hF f, keep a hy _, by rw [← Act.put_comm a v undef h2]; exact h.2⟩

/-- Whatever order is picked from here on; S holds behind every operation that D names. -/
def wpAnyS (F : Fence) (n : Nat) (P : Program) (md : Region.Mode) (ops : Array Oper) (Q : Exit → Act → World → Prop) (S : World → Prop) (D : Nat → Bool) : Nat → Array Bool → Act → World → Prop
  | 0, listed, a, w => Region.ready md ops listed = [] ∧ Q .normal a w
  | fuel + 1, listed, a, w =>
    (Region.ready md ops listed = [] → Q .normal a w) ∧
    ∀ i ∈ Region.ready md ops listed, wpOpIn F n P ops Q i (fun a' w' => (D i = true → S w') ∧ wpAnyS F n P md ops Q S D fuel (listed.setIfInBounds i true) a' w') a w

theorem wpAnyIn_of_S : ∀ (fuel : Nat) (listed : Array Bool) (a : Act) (w : World), wpAnyS F n P md ops Q S D fuel listed a w → wpAnyIn F n P md ops Q fuel listed a w
  | 0, _, _, _, h => h
  | fuel + 1, _, _, _, h => ⟨h.1, fun i hi => wpOpIn_mono (fun a' w' h' => wpAnyIn_of_S fuel _ a' w' h'.2) (h.2 i hi)⟩

theorem wpAnyS_first {i : Nat} {oi : Oper} {v : Value} (hF : ∀ f, F.fn f) (hi : ops[i]? = some oi) (hsel : ∀ (j : Nat) (o : Oper) cs b, ops[j]? = some o → o.op ≠ .select cs b)
    (hdef : ∀ (j : Nat) (o : Oper) c, ops[j]? = some o → o.op ≠ .defer c)
    (hD : ∀ (j : Nat) (oj : Oper), ops[j]? = some oj → j ≠ i → (∀ e ∈ oj.after, Region.binds md e = true → e.on ≠ i) → D j = true)
    (hQ : ∀ c a w, Q (.panic c) (a.put oi.dst v) w → Q (.panic c) a w) :
    ∀ (fuel : Nat) (listed : Array Bool) (a : Act) (w : World),
      (∀ j oj, ops[j]? = some oj → j ≠ i → listed.getD j true = false → (∀ e ∈ oj.after, Region.binds md e = true → e.on ≠ i) → oi.apart ops oj = true) →
      i ∈ Region.ready md ops listed → YieldsS P ops S oi v a → S w →
      wpAnyS F n P md ops Q S D fuel (listed.setIfInBounds i true) (a.put oi.dst v) w → wpAnyS F n P md ops Q S D (fuel + 1) listed a w := by
  intro fuel
  induction fuel with
  | zero =>
    intro listed a w _ hr hy hS H
    refine ⟨fun h => (by rw [h] at hr; cases hr), fun j hj => ?_⟩
    by_cases hji : j = i
    · subst hji; exact hy.wpOpIn hF hi (fun c => hdef _ _ c hi) hS ⟨fun _ => hS, H⟩
    · have := ready_mono hj hji
      rw [H.1] at this
      cases this
  | succ fuel ih =>
    intro listed a w hfree hr hy hS H
    refine ⟨fun h => (by rw [h] at hr; cases hr), fun j hj => ?_⟩
    by_cases hji : j = i
    · subst hji; exact hy.wpOpIn hF hi (fun c => hdef _ _ c hi) hS ⟨fun _ => hS, H⟩
    · have h1 := H.2 j (ready_mono hj hji)
      obtain ⟨hjun, oj, hoj, hall⟩ := mem_ready.1 hj
      have hnot : ∀ e ∈ oj.after, Region.binds md e = true → e.on ≠ i := fun e he hb heq => by
        have h1 := hall e he hb
        have h0 := (mem_ready.1 hr).1
        rw [heq] at h1
        rcases Nat.lt_or_ge i listed.size with h' | h'
        · simp [h'] at h0 h1; rw [h0] at h1; cases h1
        · simp [Array.getElem?_eq_none h'] at h1
      have h2 := wpOpIn_putS hF hoj (hfree j oj hoj hji hjun hnot) (fun cs b => hsel i oi cs b hi) (fun cs b => hsel j oj cs b hoj) (fun c => hdef j oj c hoj) hQ hy h1
      have hfree' : ∀ k ok, ops[k]? = some ok → k ≠ i → (listed.setIfInBounds j true).getD k true = false →
          (∀ e ∈ ok.after, Region.binds md e = true → e.on ≠ i) → oi.apart ops ok = true := fun k ok hk hki hun hno => by
        refine hfree k ok hk hki ?_ hno
        by_cases hjk : j = k
        · subst hjk; exact hjun
        · rw [getD_set_ne true hjk] at hun; exact hun
      refine wpOpIn_mono (fun a' w' h3 => ⟨h3.2.1, ih (listed.setIfInBounds j true) a' w' hfree' (ready_mono hr (Ne.symm hji)) h3.1 (h3.2.1 (hD j oj hoj hji hnot)) ?_⟩) h2
      rw [Array.setIfInBounds_comm _ _ hji]
      exact h3.2.2

/-- No operation is a defer statement. -/
def noDefer (ops : Array Oper) : Bool := ops.all fun o => match o.op with | .defer _ => false | _ => true

theorem noDefer_spec (h : noDefer ops = true) : ∀ (j : Nat) (o : Oper) c, ops[j]? = some o → o.op ≠ .defer c := fun j o c ho e => by
  have := (Array.all_eq_true_iff_forall_mem.1 h) o (Array.mem_of_getElem? ho)
  simp [e] at this

/-- D names all that may come before i is done. -/
def demands (md : Region.Mode) (ops : Array Oper) (D : Nat → Bool) (i : Nat) : Bool :=
  (List.range ops.size).all fun j => D j || j == i || match ops[j]? with
    | some o => o.after.toList.any fun e => Region.binds md e && e.on == i
    | none => true

theorem demands_spec {i : Nat} (h : demands md ops D i = true) (j : Nat) (oj : Oper) (hj : ops[j]? = some oj) (hji : j ≠ i) (hno : ∀ e ∈ oj.after, Region.binds md e = true → e.on ≠ i) : D j = true := by
  have hlt : j < ops.size := (Array.getElem?_eq_some_iff.1 hj).1
  have h1 := (List.all_eq_true.1 h) j (List.mem_range.2 hlt)
  simp only [hj, Bool.or_eq_true, beq_iff_eq, hji, or_false] at h1
  rcases h1 with h1 | h1
  · exact h1
  · obtain ⟨e, he, h2⟩ := List.any_eq_true.1 h1
    simp only [Bool.and_eq_true, beq_iff_eq] at h2
    exact absurd h2.2 (hno e (by simpa using he) h2.1)

/-- No panic comes out. -/
def NP (Q : Exit → Act → World → Prop) : Exit → Act → World → Prop
  | .panic _, _, _ => False
  | e, a, w => Q e a w
theorem NP.out {Q : Exit → Act → World → Prop} {e : Exit} {a : Act} {w : World} (h : NP Q e a w) : Q e a w := by
  cases e <;> first | exact h | exact h.elim

/-- **The beginning.** -/
theorem region_begin {id : Nat} {a : Act} {w : World} (S : World → Prop) (D : Nat → Bool) (hm : P.follows .mixedOrders = true)
    (h : wpAnyS F n P .any ops (NP Q) S D ops.size (Array.replicate ops.size false) a w.drew) : (Code.region id ops true).wpIn F n P Q a w :=
  Go.wpIn_mono (wpIn_region_any hm (wpAnyIn_of_S _ _ _ _ h)) fun e a w h => NP.out h

/-- All the side conditions of a taking, asz one Bool. -/
def mayTake (md : Region.Mode) (ops : Array Oper) (D : Nat → Bool) (listed : Array Bool) (i : Nat) : Bool :=
  Region.noSelect ops && noDefer ops && demands md ops D i && Region.free md ops listed i && (Region.ready md ops listed).contains i

/-- Number i is taken first. -/
theorem take {oi : Oper} {v : Value} {fuel : Nat} {listed : Array Bool} {a : Act} {w : World} (i : Nat) (hF : ∀ f, F.fn f) (hi : ops[i]? = some oi) (hc : mayTake md ops D listed i = true)
    (hQ : ∀ c a w, Q (.panic c) (a.put oi.dst v) w → Q (.panic c) a w) (hw : Region.wanted oi (yielded ops a.tmps) = true) (hy : ∀ w, S w → (execOp a.eval oi).run P w = .ok (.value v) w) (hS : S w)
    (h : wpAnyS F n P md ops Q S D fuel (listed.setIfInBounds i true) (a.put oi.dst v) w) : wpAnyS F n P md ops Q S D (fuel + 1) listed a w := by
  simp only [mayTake, Bool.and_eq_true] at hc
  obtain ⟨⟨⟨⟨h1, h2⟩, h3⟩, h4⟩, h5⟩ := hc
  exact wpAnyS_first hF hi (Region.noSelect_spec h1) (noDefer_spec h2) (demands_spec h3) hQ fuel listed a w (Region.free_spec hi h4) (by simpa using h5) (.inl ⟨hw, hy⟩) hS h

/-- Number i, whose guard says no, is passed over. -/
theorem takeNot {oi : Oper} {fuel : Nat} {listed : Array Bool} {a : Act} {w : World} (i : Nat) (hF : ∀ f, F.fn f) (hi : ops[i]? = some oi) (hc : mayTake md ops D listed i = true)
    (hQ : ∀ c a w, Q (.panic c) (a.put oi.dst undef) w → Q (.panic c) a w) (hw : Region.wanted oi (yielded ops a.tmps) = false) (hS : S w)
    (h : wpAnyS F n P md ops Q S D fuel (listed.setIfInBounds i true) (a.put oi.dst undef) w) : wpAnyS F n P md ops Q S D (fuel + 1) listed a w := by
  simp only [mayTake, Bool.and_eq_true] at hc
  obtain ⟨⟨⟨⟨h1, h2⟩, h3⟩, h4⟩, h5⟩ := hc
  exact wpAnyS_first hF hi (Region.noSelect_spec h1) (noDefer_spec h2) (demands_spec h3) hQ fuel listed a w (Region.free_spec hi h4) (by simpa using h5) (.inr ⟨hw, rfl⟩) hS h

/-- Number i alone may come. -/
theorem next {oi : Oper} {fuel : Nat} {listed : Array Bool} {a : Act} {w : World} (i : Nat) (hi : ops[i]? = some oi) (hr : Region.ready md ops listed = [i]) (hw : Region.wanted oi (yielded ops a.tmps) = true)
    (h : oi.wpIn F n P a w (fun a' w' => (D i = true → S w') ∧ wpAnyS F n P md ops Q S D fuel (listed.setIfInBounds i true) a' w') Q) : wpAnyS F n P md ops Q S D (fuel + 1) listed a w := by
  refine ⟨fun h0 => (by rw [hr] at h0; cases h0), fun k hk => ?_⟩
  rw [hr] at hk
  obtain rfl : k = i := by simpa using hk
  unfold Go.wpOpIn
  simp only [hi, hw, if_true]
  exact h

/-- All have come. -/
theorem done {listed : Array Bool} {a : Act} {w : World} (hr : Region.ready md ops listed = []) (h : Q .normal a w) : wpAnyS F n P md ops (NP Q) S D 0 listed a w := ⟨hr, h⟩
end

/-- What the loads of a region lean on: the things of Ls, and what was there when the function began. -/
def Keep (w0 : World) (M : List Nat) (Ls : List Ent) (w : World) : Prop := ∃ R, St w0 M w R ∧ ∀ e ∈ Ls, e ∈ R

theorem in0 {e : Ent} {R : List Ent} : e ∈ e :: R := List.mem_cons_self
theorem in1 {e0 e : Ent} {R : List Ent} : e ∈ e0 :: e :: R := List.mem_cons_of_mem _ List.mem_cons_self
theorem in2 {e0 e1 e : Ent} {R : List Ent} : e ∈ e0 :: e1 :: e :: R := List.mem_cons_of_mem _ in1
theorem in3 {e0 e1 e2 e : Ent} {R : List Ent} : e ∈ e0 :: e1 :: e2 :: e :: R := List.mem_cons_of_mem _ in2
theorem in4 {e0 e1 e2 e3 e : Ent} {R : List Ent} : e ∈ e0 :: e1 :: e2 :: e3 :: e :: R := List.mem_cons_of_mem _ in3

theorem Keep.blk {w0 w : World} {M : List Nat} {Ls : List Ent} (h : Keep w0 M Ls w) {g i : Nat} {T : TypeId} {cs : Array Value} {v : Value} (hm : Ent.blk g T cs ∈ Ls) (hv : cs[i]? = some v) : w.cell? ⟨g, i, none⟩ = some v := by
  obtain ⟨R, hR, hL⟩ := h
  exact (cell_blk (hR.ok _ (hL _ hm)) i).trans hv

theorem Keep.old {w0 w : World} {M : List Nat} {Ls : List Ent} (h : Keep w0 M Ls w) {p : Addr} {v : Value} (hp : p.block < w0.heap.size) (hM : p.block ∉ M) (hc : w0.cell? p = some v) : w.cell? p = some v := by
  obtain ⟨R, hR, _⟩ := h
  exact (hR.oldcell hp hM).trans hc

section
variable {P : Program} {a : Act} {w : World} {o : Oper} {S : World → Prop}
theorem y_load {T : TypeId} {p : Operand} {q : Addr} {v : Value} (ho : o.op = .load T p) (hagg : ∀ w, (isAgg T).run P w = .ok false w) (hp : a.eval p = .pointer (some q)) (hc : ∀ w, S w → w.cell? q = some v) :
    ∀ w, S w → (execOp a.eval o).run P w = .ok (.value v) w := fun w hS => by
  simp [execOp, ho, hp, Instr.loadAt, Instr.sureAddr, loadVar, hagg, hc w hS]
theorem y_move {x : Operand} (ho : o.op = .move x ∨ o.op = .assign x) : ∀ w, S w → (execOp a.eval o).run P w = .ok (.value (a.eval x)) w := fun w _ => by
  cases ho with
  | inl ho => simp [execOp, ho]
  | inr ho => simp [execOp, ho]
end

section
variable {F : Fence} {n : Nat} {P : Program} {w : World} {a : Act} {K : Act → World → Prop} {Q : Exit → Act → World → Prop} {o : Oper}
/-- A call of a function value. -/
theorem wp_calls {k : FuncId} {x : Operand} {asz : Array Operand} {ts : Array TypeId} {first cap args : Array Value} (hF : ∀ f, F.fn f) (hd : F.depth = none)
    (ho : o.op = .call { callee := .value x, args := asz, argTypes := ts }) (hx : a.eval x = .func (.func k) first cap) (hk : ∀ args w, (callFunc k args).run P w = .ok (.enter k args) w)
    (hargs : (first.toList ++ asz.toList.map a.eval ++ cap.toList).toArray = args)
    (h : CallsIn F (n - 1) P k args w (fun e w' => ∃ v, e = .returned v ∧ K (a.put o.dst v) w')) : o.wpIn F n P a w K Q := by
  refine ⟨fun f _ => hF f, ?_⟩
  rw [Oper.semAt_plain F _ o (by intro c hc; rw [ho] at hc; cases hc)]
  have hrun : (execOp a.eval o).run P w = .ok (.enter k args) w := by
    simp only [execOp, ho, resolve, Sem.run_bind, hx, Deferred.ofValue, Sem.run_pure, Result.andThen_ok, invoke, hk]
    rw [← hargs]
    congr 2
    apply Array.ext'
    simp
  rw [hrun]
  refine ⟨fun h => (by rw [hd] at h; cases h), h.mono fun e w' hR => ?_⟩
  obtain ⟨v, rfl, hΦ⟩ := hR
  exact hΦ
end

end SX
end Go.Proofs.Ytogjkgoiofngaaa

/- The statement that ranges over a function, over the list of a function's own blocks: the iterator's contract, and what the caller owes. -/
namespace Go.Proofs.Ytogjkgoiofngaaa
open Go.RowKit
namespace SX

/-- **An iterator's contract**: function gf with the captured values lb, in whatever state of the caller (of which it needs the things E0, and R of what was there), hands the elements of xs to yield, each asz arguments args in things Lx of its own with 'A x args Lx'; it ends behind the last one, or where a round said no. -/
def SeqC {α : Type} (P : Program) (gf : FuncId) (lb : Array Value) (A : α → Array Value → List Ent → Prop) (E0 : List Ent) (R : World → List Nat → Prop) (xs : List α) : Prop :=
  ∀ (l : Nat) (w0 : World) (M : List Nat) (I : List α → List Ent → Prop) (Ix : List Ent → Prop) (W : World) (L0 : List Ent), R w0 M →
    (∀ E pre x args W L Lx, I pre L → (pre ++ [x]) <+: xs → A x args Lx → St w0 M W (Lx ++ (L ++ E)) → YieldAt Fence.wide 0 P l args W fun e W' =>
      (e = .returned (.bool true) ∧ ∃ L', I (pre ++ [x]) L' ∧ St w0 M W' (L' ++ E)) ∨ (e = .returned (.bool false) ∧ ∃ L', Ix L' ∧ St w0 M W' (L' ++ E))) →
    I [] L0 → St w0 M W (L0 ++ E0) →
    Calls P gf (#[.func (.yield l) #[] #[]] ++ lb) W fun e W' => (∃ v, e = .returned v) ∧ ∃ L', (I xs L' ∨ Ix L') ∧ St w0 M W' (L' ++ E0)

variable {w0 w w' : World} {M : List Nat} {L : List Ent} {P : Program}

theorem heap_putObj_same {l : Nat} {o : Obj} (h : l < w.heap.size) : (w.putObj l o).heap[l]? = some o := World.putObj_heap_same h

/-- A block of ours becomes another object. -/
theorem St.putObj {j l : Nat} {ob : Obj} (h : St w0 M w L) (hj : L[j]? = some (Ent.obj l ob)) (ob' : Obj) : St w0 M (w.putObj l ob') (L.set j (Ent.obj l ob')) := by
  have hb : w.heap[l]? = some ob := h.get hj
  refine St.back hj ((h.front hj).step rfl rfl rfl (by simp) (fun b _ hne => ?_) (by simp [Ent.obj]) (by simp [Ent.obj]) (heap_putObj_same (lt_of_some hb)))
  exact World.putObj_heap_other (by simpa [Ent.obj] using hne)

theorem St.mid {L1 L2 : List Ent} {e : Ent} (h : St w0 M w (L1 ++ e :: L2)) : St w0 M w (e :: (L1 ++ L2)) := h.perm (List.perm_middle.symm)
theorem St.unmid {L1 L2 : List Ent} {e : Ent} (h : St w0 M w (e :: (L1 ++ L2))) : St w0 M w (L1 ++ e :: L2) := h.perm List.perm_middle

theorem St.putMid {L1 L2 : List Ent} {l : Nat} {ob : Obj} (h : St w0 M w (L1 ++ Ent.obj l ob :: L2)) (ob' : Obj) : St w0 M (w.putObj l ob') (L1 ++ Ent.obj l ob' :: L2) := by
  have := (h.mid).putObj (j := 0) rfl ob'
  exact St.unmid this

theorem St.getMid {L1 L2 : List Ent} {l : Nat} {ob : Obj} (h : St w0 M w (L1 ++ Ent.obj l ob :: L2)) : w.heap[l]? = some ob := h.ok (Ent.obj l ob) (by simp)

/-- How the body of a round may be left. -/
def roundQ {α : Type} (w0 : World) (M : List Nat) (I : List α → List Ent → Prop) (Ix : Code → List Ent → Prop) (xs : List α) (Z : List Ent) : Exit → Act → World → Prop
  | .normal, _, W' => ∃ L', I xs L' ∧ St w0 M W' (L' ++ Z)
  | .ret, _, W' => ∃ L', Ix .ret L' ∧ St w0 M W' (L' ++ Z)
  | .exit id, _, W' => ∃ L', Ix (.exit id) L' ∧ St w0 M W' (L' ++ Z)
  | .goto t, _, W' => ∃ L', Ix (.goto t) L' ∧ St w0 M W' (L' ++ Z)
  | .panic _, _, _ => False
  | .outgrown, _, _ => False

/-- **The statement, at the outermost level of a function.** -/
theorem rangeFunc {α : Type} {g : Operand} {ps : Array Tmp} {assign body : Code} {Q : Exit → Act → World → Prop} {a : Act} {gf : Nat} {lb : Array Value} {A : α → Array Value → List Ent → Prop} {E0 L0 : List Ent} {R : World → List Nat → Prop} {xs : List α}
    (hseq : SeqC P gf lb A E0 R xs) (hg : a.eval g = .func (.func gf) #[] lb) (eg : ∀ args w, (callFunc gf args).run P w = .ok (.enter gf args) w)
    (hs : St w0 M w (L0 ++ E0)) (hR : R w0 M) (hps : ∀ x args Lx, A x args Lx → args.size = ps.size)
    (I : List α → List Ent → Prop) (Ix : Code → List Ent → Prop) (h0 : I [] L0)
    (hround : ∀ (l : Nat) (Z : List Ent) pre x args W L Lx, I pre L → (pre ++ [x]) <+: xs → A x args Lx → St w0 M W (Lx ++ (L ++ Z)) →
      assign.wpIn (Fence.wide.inRound l) 0 P (Exit.then (fun a₁ W₁ => ∃ L₁, St w0 M W₁ (L₁ ++ Z) ∧ ∀ W₂ Z₂, St w0 M W₂ (L₁ ++ Z₂) →
        body.wpIn (Fence.wide.inRound l) 0 P (roundQ w0 M I Ix (pre ++ [x]) Z₂) a₁ W₂) (fun _ _ _ => False))
        { tmps := (ps.zip args).foldl (fun t (p, v) => t.setIfInBounds p v) a.tmps, defers := [] } W)
    (hdone : ∀ D W L, I xs L → St w0 M W (L ++ (Ent.obj D (.deferred (some [])) :: E0)) → Q .normal { a with defers := { target := .collected D, args := #[] } :: a.defers } W)
    (hstop : ∀ D c W L, Ix c L → St w0 M W (L ++ (Ent.obj D (.deferred (some [])) :: E0)) → c.wpIn Fence.wide 0 P Q { a with defers := { target := .collected D, args := #[] } :: a.defers } W) :
    (Code.rangeFunc g ps assign body).wpIn Fence.wide 0 P Q a w := by
  refine wpIn_rangeFunc ?_
  intro fn hfn
  obtain ⟨rec, hrec⟩ : ∃ rec : LoopState → Option Code → Loop, rec = fun st pe => { state := st, pending := pe, fn, tmps := a.tmps, params := ps, assign, body, defers := w.heap.size } := ⟨_, rfl⟩
  obtain ⟨W1, hW1⟩ : ∃ W1, (w.alloc (.deferred (some []))).alloc (.loop (rec .ready none)) = W1 := ⟨_, rfl⟩
  obtain ⟨l, hl⟩ : ∃ l, l = w.heap.size + 1 := ⟨_, rfl⟩
  obtain ⟨D, hD⟩ : ∃ D, D = w.heap.size := ⟨_, rfl⟩
  have hs1 : St w0 M W1 (L0 ++ (E0 ++ [Ent.obj l (.loop (rec .ready none)), Ent.obj D (.deferred (some []))])) := by
    have h1 := (hs.alloc (.deferred (some []))).alloc (.loop (rec .ready none))
    rw [hW1, World.size_alloc, ← hl, ← hD] at h1
    refine h1.perm ?_
    rw [← List.append_assoc]
    exact (List.perm_append_comm (l₁ := L0 ++ E0) (l₂ := [Ent.obj l (.loop (rec .ready none)), Ent.obj D (.deferred (some []))]))
  refine ⟨l, [{ target := .collected D, args := #[] }], W1, { target := .fn (.func gf) lb, args := #[.func (.yield l) #[] #[]] }, W1, gf,
    #[.func (.yield l) #[] #[]] ++ lb, W1, ?_, ?_, (fun _ _ => trivial), ?_, (fun h => (by cases h)), ?_⟩
  · rw [← hW1, hrec, hl, hD]; exact run_enterLoop_outer _ _ _ _ _
  · simp only [resolve, hg]
    simp [go_sem]
  · simp [invoke, go_sem, eg]
  · refine CallsIn.mono (call (hseq l w0 M (fun pre L => ∃ L', L = L' ++ [Ent.obj l (.loop (rec .ready none)), Ent.obj D (.deferred (some []))] ∧ I pre L')
      (fun L => ∃ c L', L = L' ++ [Ent.obj l (.loop (rec .done (some c))), Ent.obj D (.deferred (some []))] ∧ Ix c L') W1 (L0 ++ [Ent.obj l (.loop (rec .ready none)), Ent.obj D (.deferred (some []))]) hR ?_ ⟨L0, rfl, h0⟩ ?_)) ?_
    · -- one round
      rintro E pre x args W _ Lx ⟨L, rfl, hi⟩ hpre hA hst
      have hlW : W.heap[l]? = some (.loop (rec .ready none)) := hst.ok (Ent.obj l (.loop (rec .ready none))) (by simp)
      have hy := run_yield (P := P) (args := args) hlW (by rw [hrec]; exact hps x args Lx hA)
      rw [hrec] at hy
      have hst' : St w0 M W (Lx ++ (L ++ (Ent.obj l (.loop (rec .ready none)) :: (Ent.obj D (.deferred (some [])) :: E)))) := by simpa [List.append_assoc] using hst
      refine ⟨fn, _, assign, body, hy, roundIn_of_wpIn trivial (Go.wpIn_mono (hround l _ pre x args W L Lx hi hpre hA hst') ?_)⟩
      intro e a₁ W₁ hp
      cases e with
      | normal =>
        obtain ⟨L₁, hst1, hbody⟩ := hp
        have hl1 : W₁.heap[l]? = some (.loop (rec .ready none)) := hst1.getMid
        refine ⟨_, run_beginRound hl1 (by rw [hrec]), ?_⟩
        have hst2 := hst1.putMid (.loop { rec .ready none with state := .busy })
        refine Go.wpIn_mono (hbody _ _ hst2) ?_
        have fin : ∀ (jump : Option Code) (W3 : World) (L' : List Ent), St w0 M W3 (L' ++ (Ent.obj l (.loop { rec .ready none with state := .busy }) :: (Ent.obj D (.deferred (some [])) :: E))) →
            (Instr.endRound l jump).run P W3 = .ok (.bool jump.isNone) (W3.putObj l (.loop (rec (if jump.isNone then .ready else .done) jump))) ∧
            St w0 M (W3.putObj l (.loop (rec (if jump.isNone then .ready else .done) jump))) (L' ++ (Ent.obj l (.loop (rec (if jump.isNone then .ready else .done) jump)) :: (Ent.obj D (.deferred (some [])) :: E))) := fun jump W3 L' hst3 => by
          have hl3 := hst3.getMid
          have hr := run_endRound (P := P) jump hl3
          refine ⟨?_, hst3.putMid _⟩
          rw [hrec] at hr ⊢
          exact hr
        intro e a3 W3 hp
        cases e with
        | normal =>
          obtain ⟨L', hi', hst3⟩ := hp
          obtain ⟨hr, hst4⟩ := fin none W3 L' hst3
          exact ⟨_, _, hr, .inl ⟨rfl, _, ⟨L', rfl, hi'⟩, by simpa [List.append_assoc] using hst4⟩⟩
        | ret =>
          obtain ⟨L', hi', hst3⟩ := hp
          obtain ⟨hr, hst4⟩ := fin (some .ret) W3 L' hst3
          exact ⟨_, _, hr, .inr ⟨rfl, _, ⟨_, L', rfl, hi'⟩, by simpa [List.append_assoc] using hst4⟩⟩
        | exit id =>
          obtain ⟨L', hi', hst3⟩ := hp
          obtain ⟨hr, hst4⟩ := fin (some (.exit id)) W3 L' hst3
          exact ⟨_, _, hr, .inr ⟨rfl, _, ⟨_, L', rfl, hi'⟩, by simpa [List.append_assoc] using hst4⟩⟩
        | goto t =>
          obtain ⟨L', hi', hst3⟩ := hp
          obtain ⟨hr, hst4⟩ := fin (some (.goto t)) W3 L' hst3
          exact ⟨_, _, hr, .inr ⟨rfl, _, ⟨_, L', rfl, hi'⟩, by simpa [List.append_assoc] using hst4⟩⟩
        | panic ch => exact hp.elim
        | outgrown => exact hp.elim
      | exit id => exact hp.elim
      | goto t => exact hp.elim
      | ret => exact hp.elim
      | panic ch => exact hp.elim
      | outgrown => exact hp.elim
    · refine hs1.perm ?_
      rw [List.append_assoc]
      exact (List.perm_append_comm).append_left L0
    · -- behind the iterator
      rintro e W2 ⟨⟨v, rfl⟩, _, (⟨L', rfl, hi⟩ | ⟨c, L', rfl, hi⟩), hst⟩
      · have hst' : St w0 M W2 (L' ++ (Ent.obj l (.loop (rec .ready none)) :: (Ent.obj D (.deferred (some [])) :: E0))) := by simpa [List.append_assoc] using hst
        have hlW := hst'.getMid
        refine ⟨none, _, by have := run_endLoop (P := P) hlW (by rw [hrec]; simp); rw [hrec] at this; exact this, hdone D _ L' hi ?_⟩
        exact (hst'.putMid _).sub (List.Sublist.append (List.Sublist.refl _) (List.sublist_cons_self _ _))
      · have hst' : St w0 M W2 (L' ++ (Ent.obj l (.loop (rec .done (some c))) :: (Ent.obj D (.deferred (some [])) :: E0))) := by simpa [List.append_assoc] using hst
        have hlW := hst'.getMid
        refine ⟨some c, _, by have := run_endLoop (P := P) hlW (by rw [hrec]; simp); rw [hrec] at this; exact this, hstop D c _ L' hi ?_⟩
        exact (hst'.putMid _).sub (List.Sublist.append (List.Sublist.refl _) (List.sublist_cons_self _ _))

/-- A call of yield. -/
theorem wp_yield {l : Nat} {a : Act} {o : Oper} {K : Act → World → Prop} {Q : Exit → Act → World → Prop} {x : Operand} {asz : Array Operand} {ts : Array TypeId} {args : Array Value} {Rp : Ending → World → Prop}
    (ho : o.op = .call { callee := .value x, args := asz, argTypes := ts }) (hx : a.eval x = .func (.yield l) #[] #[]) (hargs : (asz.toList.map a.eval).toArray = args)
    (hY : YieldAt Fence.wide 0 P l args w Rp) (hK : ∀ e w', Rp e w' → ∃ v, e = .returned v ∧ K (a.put o.dst v) w') : o.wpIn Fence.wide 0 P a w K Q := by
  refine ⟨fun f _ => trivial, ?_⟩
  rw [Oper.semAt_plain Fence.wide _ o (by intro c hc; rw [ho] at hc; cases hc)]
  obtain ⟨fn, tmps, assign, body, hy, hR⟩ := hY
  have hrun : (execOp a.eval o).run P w = .ok (.round l fn tmps assign body) w := by
    simp only [execOp, ho, resolve, Sem.run_bind, hx, Deferred.ofValue, Sem.run_pure, Result.andThen_ok, invoke]
    rw [← hy, ← hargs]
    congr 2
    apply Array.ext'
    simp
  rw [hrun]
  refine ⟨fun h => (by cases h), hR.mono fun e w' hr => ?_⟩
  obtain ⟨v, rfl, hk⟩ := hK e w' hr
  exact hk

/-- A function that holds such a statement is entered. -/
theorem enterM {f : FuncId} {fn : Func} {c : Code} {args : Array Value} {Rp : Ending → World → Prop} (hf : P.funcs[f]? = some fn) (hb : fn.body = some c)
    (h : c.wpIn Fence.wide 0 P (bodyPostM Fence.wide 0 P fn Rp) { tmps := args ++ Array.replicate (fn.ntmps - args.size) undef, defers := [] } w) : Calls P f args w Rp :=
  (callsIn_wide (n := 0)).1 (callsIn_of_wp_marks hf hb trivial h)

/-- It returns without a mark. -/
theorem leave0 {fn : Func} {a : Act} {Rp : Ending → World → Prop} {v : Value} (hd : a.defers = []) (hr : (results fn a.tmps).run P w = .ok v w) (h : Rp (.returned v) w) : bodyPostM Fence.wide 0 P fn Rp .ret a w := by
  show LeavesInM Fence.wide 0 P fn a.tmps Rp a.defers .returning w
  rw [hd]
  exact ⟨v, hr, h⟩
theorem leave0n {fn : Func} {a : Act} {Rp : Ending → World → Prop} {v : Value} (hd : a.defers = []) (hr : (results fn a.tmps).run P w = .ok v w) (h : Rp (.returned v) w) : bodyPostM Fence.wide 0 P fn Rp .normal a w :=
  leave0 hd hr h

/-- It returns with one mark. -/
theorem leave1 {fn : Func} {a : Act} {Rp : Ending → World → Prop} {v : Value} {D : Nat} {L1 L2 : List Ent} (hs : St w0 M w (L1 ++ Ent.obj D (.deferred (some [])) :: L2)) (hd : a.defers = [{ target := .collected D, args := #[] }])
    (hr : ∀ w, (results fn a.tmps).run P w = .ok v w) (h : ∀ w', St w0 M w' (L1 ++ L2) → Rp (.returned v) w') : bodyPostM Fence.wide 0 P fn Rp .ret a w := by
  show LeavesInM Fence.wide 0 P fn a.tmps Rp a.defers .returning w
  rw [hd]
  refine ⟨by simp, .inl ⟨D, _, rfl, run_takeDeferred hs.getMid, ?_⟩⟩
  refine ⟨v, hr _, h _ ?_⟩
  exact (hs.putMid (.deferred none)).sub (List.Sublist.append (List.Sublist.refl _) (List.sublist_cons_self _ _))
theorem leave1n {fn : Func} {a : Act} {Rp : Ending → World → Prop} {v : Value} {D : Nat} {L1 L2 : List Ent} (hs : St w0 M w (L1 ++ Ent.obj D (.deferred (some [])) :: L2)) (hd : a.defers = [{ target := .collected D, args := #[] }])
    (hr : ∀ w, (results fn a.tmps).run P w = .ok v w) (h : ∀ w', St w0 M w' (L1 ++ L2) → Rp (.returned v) w') : bodyPostM Fence.wide 0 P fn Rp .normal a w :=
  leave1 hs hd hr h

end SX
end Go.Proofs.Ytogjkgoiofngaaa

/- Slices that are read, and lists of integers. -/
namespace Go.Proofs.Ytogjkgoiofngaaa
open Go.RowKit
set_option linter.unusedSimpArgs false
set_option linter.unusedVariables false

def ints (k : IntKind) (l : List Int) : List Value := l.map (Value.int k)

/-- v is a slice of one-cell elements that reads xs, in blocks that are there. -/
def Sl (w : World) (A : Option Addr) (xs : List Value) : Prop :=
  0 < xs.length → ∃ b off, A = some ⟨b, off, none⟩ ∧ b < w.heap.size ∧ ∀ j u, xs[j]? = some u → w.cell? ⟨b, off + j, none⟩ = some u

/-- element i of l -/
def elt (l : List Int) (i : Int) : Int := l.getD i.toNat 0

theorem Sl.at {w : World} {A : Option Addr} {k : IntKind} {l : List Int} (h : Sl w A (ints k l)) {i : Int} (h0 : 0 ≤ i) (hi : i < l.length) :
    ∃ b off, A = some ⟨b, off, none⟩ ∧ b < w.heap.size ∧ w.cell? ⟨b, off + i.toNat, none⟩ = some (.int k (elt l i)) := by
  obtain ⟨b, off, rfl, hb, hc⟩ := h (by simp [ints]; omega)
  have hi' : i.toNat < l.length := by omega
  exact ⟨b, off, rfl, hb, hc i.toNat _ (by simp [ints, elt, hi'])⟩

theorem Sl.st {w0 w : World} {L : List SX.Ent} {A : Option Addr} {xs : List Value} (h : Sl w0 A xs) (hs : SX.St w0 [] w L) : Sl w A xs := fun hp => by
  obtain ⟨b, off, e, hb, hc⟩ := h hp
  exact ⟨b, off, e, Nat.lt_of_lt_of_le hb hs.size, fun j u hu => (hs.oldcell (p := ⟨b, off + j, none⟩) hb (by simp)).trans (hc j u hu)⟩

theorem Sl.tail {w : World} {k : IntKind} {b off c : Nat} {x : Int} {r : List Int} (h : Sl w (some ⟨b, off, none⟩) (ints k (x :: r))) (hc : r.length + 1 ≤ c) :
    Sl w (if c = 1 then some ⟨b, off, none⟩ else some ⟨b, off + 1, none⟩) (ints k r) := by
  intro hp
  obtain ⟨b', off', he, hb, hcell⟩ := h (by simp [ints])
  obtain ⟨rfl, rfl⟩ : b' = b ∧ off' = off := by simpa [eq_comm] using he
  have : c ≠ 1 := by simp [ints] at hp; omega
  refine ⟨b', off' + 1, by rw [if_neg this], hb, fun j u hu => ?_⟩
  have := hcell (j + 1) u (by simpa [ints] using hu)
  rw [show off' + 1 + j = off' + (j + 1) from by omega]
  exact this


theorem prefix_range {pre : List Nat} {x q : Nat} (h : (pre ++ [x]) <+: List.range q) : pre = List.range x ∧ x < q := by
  have hl := h.length_le
  simp at hl
  have hx : (pre ++ [x])[pre.length]? = (List.range q)[pre.length]? := by
    obtain ⟨t, ht⟩ := h
    rw [← ht]
    simp
  have hxe : x = pre.length := by
    rw [List.getElem?_range (by omega)] at hx
    simpa using hx
  refine ⟨?_, by omega⟩
  obtain ⟨t, ht⟩ := h
  have h2 := congrArg (List.take pre.length) ht
  rw [List.append_assoc, List.take_left' rfl, List.take_range] at h2
  rw [h2]
  congr 1
  omega

theorem row_form {w0 w : World} {M : List Nat} {L : List SX.Ent} {j T size n : Nat} {v : Value} {xs : List Value} (hs : SX.St w0 M w L) (hj : L[j]? = some (SX.Ent.row v T size n xs)) (hn : 0 < n) :
    ∃ g cap, v = .slice (some ⟨g, 0, none⟩) n cap ∧ n ≤ cap ∧ cap ≤ maxLen := by
  have hr : w.ownsRow 0 T size v n xs := hs.get hj
  rcases hr.2 with ⟨_, h⟩ | ⟨g, cap, cur, rfl, _, _, h1, h2, _⟩
  · omega
  · exact ⟨g, cap, rfl, h1, h2⟩

theorem row_sl {w0 w : World} {M : List Nat} {L : List SX.Ent} {j T g k cap n : Nat} {xs : List Value} (hs : SX.St w0 M w L) (hj : L[j]? = some (SX.Ent.row (.slice (some ⟨g, 0, none⟩) k cap) T 1 n xs)) :
    Sl w (some ⟨g, 0, none⟩) xs := fun _ => by
  have hr : w.ownsRow 0 T 1 (.slice (some ⟨g, 0, none⟩) k cap) n xs := hs.get hj
  have hlt := (hr.lt g rfl).2
  refine ⟨g, 0, rfl, hlt, fun i u hu => ?_⟩
  simpa using SX.row_cell hs hj hu

theorem ints_get {k : IntKind} {l : List Int} {i : Int} (h0 : 0 ≤ i) (hi : i < l.length) : (ints k l)[i.toNat]? = some (.int k (elt l i)) := by
  have hi' : i.toNat < l.length := by omega
  simp [ints, elt, hi']
theorem ints_length {k : IntKind} {l : List Int} : (ints k l).length = l.length := by simp [ints]

theorem ofInt_i64 (a : Nat) (ha : a < 9223372036854775808) : (BitVec.ofInt 64 (a : Int)).toNat = a := by
  rw [BitVec.ofInt_natCast, BitVec.toNat_ofNat]; exact Nat.mod_eq_of_lt (by omega)
theorem i64_and_nat (a b : Nat) (ha : a < 9223372036854775808) (hb : b < 9223372036854775808) : bits .and .i64 (a : Int) (b : Int) = ((a &&& b : Nat) : Int) := by
  have hx : a &&& b < 2 ^ 63 := Nat.and_lt_two_pow _ (by omega)
  show IntKind.i64.wrap ((BitVec.ofInt 64 (a : Int) &&& BitVec.ofInt 64 (b : Int)).toNat : Int) = _
  rw [BitVec.toNat_and, ofInt_i64 a ha, ofInt_i64 b hb, IntKind.wrap_i64]
  omega

/-- A slice's reading behind whatever left what was there asz it was. -/
theorem Sl.below {w w' : World} {A : Option Addr} {xs : List Value} (h : Sl w A xs) (hb : Below w.heap.size w w') : Sl w' A xs := fun hp => by
  obtain ⟨b, off, e, hlt, hc⟩ := h hp
  exact ⟨b, off, e, Nat.lt_of_lt_of_le hlt hb.size, fun j u hu => (hb.cell (p := ⟨b, off + j, none⟩) hlt).trans (hc j u hu)⟩

end Go.Proofs.Ytogjkgoiofngaaa

/- Aggregates in memory, and rows made by literals. -/
namespace Go.Proofs.Ytogjkgoiofngaaa
open Go.RowKit
set_option linter.unusedSimpArgs false
set_option linter.unusedVariables false
namespace SX
variable {F : Fence} {n : Nat} {P : Program} {w0 w : World} {M : List Nat} {L : List Ent} {a : Act} {K : Act → World → Prop} {Q : Exit → Act → World → Prop}
variable {o : Oper} {T : TypeId}

/-- A block whose cells are all those of a row is a row. -/
theorem St.asRow {g T k size : Nat} {cs : Array Value} (h : St w0 M w (Ent.obj g (.cells cs T (0, 0)) :: L)) (hs : cs.size = k * size) (hk : k ≤ maxLen) :
    St w0 M w (Ent.row (.slice (some ⟨g, 0, none⟩) k k) T size k cs.toList :: L) := by
  have hb : w.heap[g]? = some (.cells cs T (0, 0)) := h.get at0
  refine h.step rfl rfl rfl (Nat.le_refl _) (fun _ _ _ => rfl) (by simp [Ent.row, Value.ownBlock]) (by simp [Ent.row, Value.ownBlock, Ent.obj]) ?_
  refine ⟨by simpa using hs, .inr ⟨g, k, cs, rfl, Nat.zero_le _, hb, Nat.le_refl _, hk, hs, ?_⟩⟩
  rw [← hs]
  exact List.take_of_length_le (by simp)

/-- A guarded one, whose guard says yes. -/
theorem lsmw {ops : Array Oper} {rest : List Oper} (hm : isMem o.op = true) (hw : Region.wanted o (yielded ops a.tmps) = true) (h : o.wpIn F n P a w (wpListIn F n P ops Q rest) Q) : wpListIn F n P ops Q (o :: rest) a w := by
  simp only [wpListIn, hw, if_true]
  exact h

theorem lscw {ops : Array Oper} {rest : List Oper} (hm : isCall o.op = true) (hw : Region.wanted o (yielded ops a.tmps) = true) (h : o.wpIn F n P a w (wpListIn F n P ops Q rest) Q) : wpListIn F n P ops Q (o :: rest) a w := by
  simp only [wpListIn, hw, if_true]
  exact h

/-- The walk stands still. -/
structure Stop (q : Prop) : Prop where
  out : q
theorem hold {p : Prop} (h : ∀ q : Prop, Hid (p → Stop q) → Stop q) : p := (h p (Lib.hid Stop.mk)).out

theorem row_slB {j T k size c m : Nat} {A : Option Addr} {xs : List Value} (hs : St w0 M w L) (hj : L[j]? = some (Ent.row (.slice A k c) T size m xs)) : Sl w A xs := by
  have hr : w.ownsRow 0 T size (.slice A k c) m xs := hs.get hj
  rcases hr.2 with ⟨hv, h⟩ | ⟨g, cap, cur, hv, _, _, h1, h2, _⟩
  · intro hp
    have := hr.1
    rw [h] at this
    simp at this
    rw [this] at hp
    cases hp
  · simp only [Value.slice.injEq] at hv
    obtain ⟨rfl, rfl, rfl⟩ := hv
    intro _
    have hlt := (hr.lt g rfl).2
    exact ⟨g, 0, rfl, hlt, fun i u hu => by simpa using row_cell hs hj hu⟩

/-- A row is read. -/
theorem row_slv {j T k size : Nat} {v : Value} {xs : List Value} (hs : St w0 M w L) (hj : L[j]? = some (Ent.row v T size k xs)) :
    ∃ A cap, v = .slice A k cap ∧ k ≤ cap ∧ cap ≤ maxLen ∧ Sl w A xs := by
  have hr : w.ownsRow 0 T size v k xs := hs.get hj
  rcases hr.2 with ⟨rfl, h⟩ | ⟨g, cap, cur, rfl, _, _, h1, h2, _⟩
  · subst h
    refine ⟨none, 0, rfl, Nat.le_refl _, Nat.zero_le _, fun hp => ?_⟩
    have := hr.1
    simp at this
    rw [this] at hp
    cases hp
  · refine ⟨_, cap, rfl, h1, h2, fun _ => ?_⟩
    have hlt := (hr.lt g rfl).2
    refine ⟨g, 0, rfl, hlt, fun i u hu => ?_⟩
    simpa using row_cell hs hj hu

/-- A block is read asz a slice. -/
theorem blk_sl {j g T : Nat} {cs : Array Value} (hs : St w0 M w L) (hj : L[j]? = some (Ent.blk g T cs)) : Sl w (some ⟨g, 0, none⟩) cs.toList := fun _ =>
  ⟨g, 0, rfl, lt_of_some (hs.blk hj), fun i u hu => by rw [Nat.zero_add]; exact (cell_blk (hs.blk hj) i).trans (by simpa using hu)⟩

/-- A cell of a block of ours. -/
theorem St.cellOf {j g i : Nat} {cs : Array Value} {v : Value} (h : St w0 M w L) (hj : L[j]? = some (Ent.blk g T cs)) (hv : cs[i]? = some v) : g < w.heap.size ∧ w.cell? ⟨g, i, none⟩ = some v :=
  ⟨lt_of_some (h.blk hj), (cell_blk (h.blk hj) i).trans hv⟩

theorem ids_inj {b : Nat} : ∀ {L : List Ent} {i j : Nat} {e e' : Ent}, (idsOf L).Nodup → L[i]? = some e → L[j]? = some e' → b ∈ e.ids → b ∈ e'.ids → i = j
  | [], _, _, _, _, _, hi, _, _, _ => by simp at hi
  | a :: L, 0, 0, _, _, _, _, _, _, _ => rfl
  | a :: L, 0, j + 1, e, e', hn, hi, hj, hb, hb' => by
    obtain rfl : a = e := by simpa using hi
    simp only [idsOf, List.flatMap_cons] at hn
    exact absurd rfl ((List.nodup_append.1 hn).2.2 b hb b (mem_ids (List.mem_of_getElem? (by simpa using hj)) hb'))
  | a :: L, i + 1, 0, e, e', hn, hi, hj, hb, hb' => by
    obtain rfl : a = e' := by simpa using hj
    simp only [idsOf, List.flatMap_cons] at hn
    exact absurd rfl ((List.nodup_append.1 hn).2.2 b hb' b (mem_ids (List.mem_of_getElem? (by simpa using hi)) hb))
  | a :: L, i + 1, j + 1, e, e', hn, hi, hj, hb, hb' => by
    simp only [idsOf, List.flatMap_cons] at hn
    exact congrArg (· + 1) (ids_inj (List.nodup_append.1 hn).2.1 (by simpa using hi) (by simpa using hj) hb hb')

theorem ids_nodup {L : List Ent} {e : Ent} (hn : (idsOf L).Nodup) (he : e ∈ L) : e.ids.Nodup := by
  induction L with
  | nil => cases he
  | cons a L ih =>
    simp only [idsOf, List.flatMap_cons] at hn
    rcases List.mem_cons.1 he with rfl | he
    · exact (List.nodup_append.1 hn).1
    · exact ih (List.nodup_append.1 hn).2.1 he

/-- Some of the things, in any order. -/
theorem St.sel (h : St w0 M w L) (is : List Nat) (hnd : is.Nodup) : St w0 M w (is.filterMap (L[·]?)) := by
  have hm : ∀ is : List Nat, ∀ e ∈ is.filterMap (L[·]?), ∃ i ∈ is, L[i]? = some e := fun is e he => by
    obtain ⟨i, hi, he⟩ := List.mem_filterMap.1 he
    exact ⟨i, hi, he⟩
  have hme : ∀ e ∈ is.filterMap (L[·]?), e ∈ L := fun e he => by
    obtain ⟨i, _, hi⟩ := hm is e he
    exact List.mem_of_getElem? hi
  refine ⟨h.os, h.tape, h.output, h.size, ?_, fun b hb => ?_, fun e he => h.ok e (hme e he), h.old⟩
  · clear hme
    induction is with
    | nil => simp [idsOf]
    | cons i is ih =>
      have hnd' := List.nodup_cons.1 hnd
      cases hi : L[i]? with
      | none => simpa [List.filterMap_cons, hi] using ih hnd'.2
      | some e =>
        rw [List.filterMap_cons, hi]
        simp only [idsOf, List.flatMap_cons]
        refine List.nodup_append.2 ⟨ids_nodup h.nodup (List.mem_of_getElem? hi), ih hnd'.2, fun b hb c hc hbc => ?_⟩
        subst hbc
        obtain ⟨e', he', hb'⟩ := List.mem_flatMap.1 hc
        obtain ⟨j, hj, hje⟩ := hm is e' he'
        exact hnd'.1 (ids_inj h.nodup hi hje hb hb' ▸ hj)
  · obtain ⟨e, he, hbe⟩ := List.mem_flatMap.1 hb
    exact h.new b (mem_ids (hme e he) hbe)

theorem run_loadVar_agg {p : Addr} {cs : List Value} (ty : TypeId) (hagg : ∀ w, (isAgg ty).run P w = .ok true w) (hsz : (P.info? ty).map (·.size) = some cs.length) (hc : ∀ j v, cs[j]? = some v → w.cell? (p.add j) = some v) :
    (loadVar ty p).run P w = .ok (.agg cs.toArray) w := by
  cases hq : P.info? ty with
  | none => simp [hq] at hsz
  | some i =>
    have hs : i.size = cs.length := by simpa [hq] using hsz
    simp [loadVar, hagg, sizeOf, typeInfo, hq, hs, run_loadCells_list w p cs hc]

/-- An aggregate is loaded. -/
theorem load_agg {p : Operand} {b i : Nat} (cs : List Value) (ho : o.op = .load T p) (hagg : ∀ w, (isAgg T).run P w = .ok true w) (hsz : (P.info? T).map (·.size) = some cs.length)
    (hp : a.eval p = .pointer (some ⟨b, i, none⟩)) (hc : ∀ j v, cs[j]? = some v → w.cell? ⟨b, i + j, none⟩ = some v)
    (hK : K (a.put o.dst (.agg cs.toArray)) w) : o.wpIn F n P a w K Q := by
  refine val (by intro c h; rw [ho] at h; cases h) (by intro c h; rw [ho] at h; cases h) (w' := w) ?_ hK
  have := run_loadVar_agg (w := w) (p := ⟨b, i, none⟩) T hagg hsz (fun j v hv => by
    have hadd : (⟨b, i, none⟩ : Addr).add j = ⟨b, i + j, none⟩ := by unfold Addr.add; split <;> simp_all
    rw [hadd]; exact hc j v hv)
  simp [execOp, ho, hp, Instr.loadAt, Instr.sureAddr, this]

theorem load_aggB {p : Operand} {g : Nat} {T' : TypeId} {cs : Array Value} {j : Nat} (ho : o.op = .load T p) (hs : St w0 M w L) (hagg : ∀ w, (isAgg T).run P w = .ok true w)
    (hp : a.eval p = .pointer (some ⟨g, 0, none⟩)) (hj : L[j]? = some (Ent.blk g T' cs)) (hsz : (P.info? T).map (·.size) = some cs.toList.length)
    (hK : K (a.put o.dst (.agg cs)) w) : o.wpIn F n P a w K Q := by
  have := load_agg (K := K) (Q := Q) (n := n) (F := F) cs.toList ho hagg hsz hp (fun j v hv => by rw [cell_blk (hs.blk hj)]; simpa using hv)
  exact this (by simpa using hK)

/-- An aggregate is stored into a block of its own. -/
theorem store_agg {p x : Operand} {g : Nat} {T' : TypeId} {cs cs' : Array Value} {j : Nat} (ho : o.op = .store T p x) (hs : St w0 M w L)
    (hp : a.eval p = .pointer (some ⟨g, 0, none⟩)) (hx : a.eval x = .agg cs') (hsz : (P.info? T).map (·.size) = some cs'.size) (h1 : cs'.all (·.oneCell') = true) (hj : L[j]? = some (Ent.blk g T' cs)) (hi : cs.size = cs'.size)
    (hK : ∀ w', St w0 M w' (L.set j (Ent.blk g T' cs')) → K (a.put o.dst undef) w') : o.wpIn F n P a w K Q := by
  have hb := hs.blk hj
  refine nov (by intro c h; rw [ho] at h; cases h) (by intro c h; rw [ho] at h; cases h) (w' := w.setRow g cs') ?_ (hK _ ?_)
  · simp [execOp, ho, hp, hx, Instr.storeAt, Instr.sureAddr, run_storeVar_row w g T' T cs cs' hb hsz hi h1]
  · have hlt := lt_of_some hb
    refine St.back hj ((hs.front hj).step rfl rfl rfl (by simp [World.setRow]) (fun b _ hne => ?_) (by simp [Ent.blk, Ent.obj]) (by simp [Ent.blk, Ent.obj]) ?_)
    · have hne' : g ≠ b := fun e => hne (by simp [Ent.blk, Ent.obj, e])
      simp [World.setRow, Array.getElem?_modify, hne']
    · show (w.setRow g cs').heap[g]? = _
      simp [World.setRow, Array.getElem?_modify, hb]

theorem Keep.row {Ls : List Ent} {w : World} (h : Keep w0 M Ls w) {g k c T size m : Nat} {xs : List Value} {i : Nat} {v : Value} (hm : Ent.row (.slice (some ⟨g, 0, none⟩) k c) T size m xs ∈ Ls) (hv : xs[i]? = some v) : w.cell? ⟨g, i, none⟩ = some v := by
  obtain ⟨R, hR, hL⟩ := h
  obtain ⟨j, hj⟩ := List.getElem?_of_mem (hL _ hm)
  exact row_cell hR hj hv

/-- A pointer or the like is loaded within a region: from a row. -/
theorem y_loadr {p : Operand} {g k c m size T' : Nat} {xs : List Value} {i : Nat} {v : Value} {Ls : List Ent} (ho : o.op = .load T p) (hagg : ∀ w, (isAgg T).run P w = .ok false w) (hp : a.eval p = .pointer (some ⟨g, i, none⟩))
    (hm : Ent.row (.slice (some ⟨g, 0, none⟩) k c) T' size m xs ∈ Ls) (hv : xs[i]? = some v) : ∀ w, Keep w0 M Ls w → (execOp a.eval o).run P w = .ok (.value v) w :=
  y_load ho hagg hp fun _ h => h.row hm hv
end SX
end Go.Proofs.Ytogjkgoiofngaaa

/- Arguments of any shape, asz they read: integers, slices, structs. -/
namespace Go.Proofs.Ytogjkgoiofngaaa
open Go.ChangeShapes Go.WideShapes Go.ChangeAt Go.RowKit
set_option linter.unusedVariables false
set_option linter.unusedSimpArgs false

/-- the cells cs read asz a value of type t -/
def Rd (P : Program) (W : World) (t : TypeId) (cs : List Value) : Prop :=
  ∃ (H : Type) (enc : TypeId × Value → H) (fuel : Nat) (x : DataW H × List MemPlace), DataW.trod enc P W 0 (fun _ => true) true fuel t cs = some x

variable {P : Program} {W : World} {t e : TypeId} {cs : List Value} {k : IntKind}

theorem Rd.of {H : Type} {enc : TypeId × Value → H} {v : Value} {d : DataW H} {p : List MemPlace} (h : DataW.Trod enc P W 0 (fun _ => true) true t v d p) : Rd P W t v.cells.toList := by
  obtain ⟨fuel, h⟩ := h
  exact ⟨H, enc, fuel, _, h⟩

theorem Rd.int (ht : P.underlying t = some (.int k)) (h : Rd P W t cs) : ∃ n, cs = [.int k n] ∧ (Lit.int k n).wf = true := by
  obtain ⟨H, enc, fuel, x, h⟩ := h
  cases fuel with
  | zero => simp [DataW.trod] at h
  | succ n =>
    unfold DataW.trod at h
    rw [ht] at h
    split at h <;> simp_all
theorem Rd.bool (ht : P.underlying t = some .bool) (h : Rd P W t cs) : ∃ b, cs = [.bool b] := by
  obtain ⟨H, enc, fuel, x, h⟩ := h
  cases fuel with
  | zero => simp [DataW.trod] at h
  | succ n =>
    unfold DataW.trod at h
    rw [ht] at h
    split at h <;> simp_all
theorem Rd.string (ht : P.underlying t = some .string) (h : Rd P W t cs) : ∃ s, cs = [.string s] ∧ s.size ≤ maxLen := by
  obtain ⟨H, enc, fuel, x, h⟩ := h
  cases fuel with
  | zero => simp [DataW.trod] at h
  | succ n =>
    unfold DataW.trod at h
    rw [ht] at h
    split at h <;> simp_all
theorem Rd.field {fs : Array Field} (ht : P.underlying t = some (.struct fs)) (h : Rd P W t cs) :
    cs.length = P.cellsOf t ∧ ∀ (i : Nat) (f : Field), fs[i]? = some f → Rd P W f.type ((cs.drop f.offset).take (P.cellsOf f.type)) := by
  obtain ⟨H, enc, fuel, x, h⟩ := h
  obtain ⟨xs, n, _, _, h1, h2, h3⟩ := DataW.trod_struct ht h
  refine ⟨h1, fun i f hf => ?_⟩
  have h4 := h3 i f hf
  have hi : i < xs.length := by
    rw [h2]
    exact (Array.getElem?_eq_some_iff.1 hf).1
  rw [List.getElem?_eq_getElem hi] at h4
  exact ⟨H, enc, n, _, h4⟩
theorem Rd.array {n : Nat} (ht : P.underlying t = some (.array n e)) (h : Rd P W t cs) :
    cs.length = P.cellsOf t ∧ ∀ i, i < n → Rd P W e ((cs.drop (i * P.cellsOf e)).take (P.cellsOf e)) := by
  obtain ⟨H, enc, fuel, x, h⟩ := h
  cases fuel with
  | zero => simp [DataW.trod] at h
  | succ m =>
    unfold DataW.trod at h
    rw [ht] at h
    simp only at h
    by_cases hl : cs.length = P.cellsOf t
    · rw [if_pos hl] at h
      refine ⟨hl, fun i hi => ?_⟩
      obtain ⟨xs, hx, -⟩ := Option.map_eq_some_iff.1 h
      have : ∀ (l : List Nat) (ys : List (DataW H × List MemPlace)), l.mapM (fun i => DataW.trod enc P W 0 (fun _ => true) true m e ((cs.drop (i * P.cellsOf e)).take (P.cellsOf e))) = some ys → ∀ i ∈ l, ∃ y, DataW.trod enc P W 0 (fun _ => true) true m e ((cs.drop (i * P.cellsOf e)).take (P.cellsOf e)) = some y := by
        intro l
        induction l with
        | nil => intro ys _ i hi; cases hi
        | cons j l ih =>
          intro ys hy i hi
          simp only [List.mapM_cons, Option.bind_eq_bind, Option.bind_eq_some_iff] at hy
          obtain ⟨y, hy1, zs, hz, _⟩ := hy
          rcases List.mem_cons.1 hi with rfl | hi
          · exact ⟨y, hy1⟩
          · exact ih zs hz i hi
      obtain ⟨y, hy⟩ := this _ _ hx i (List.mem_range.2 hi)
      exact ⟨H, enc, m, y, hy⟩
    · rw [if_neg hl] at h; cases h
theorem cells_len {a : Addr} {n : Nat} {r : List Value} (h : W.cells? 0 a n = some r) : r.length = n ∧ ∀ (j : Nat) (u : Value), r[j]? = some u → W.cell? (a.add j) = some u := by
  unfold World.cells? at h
  rw [if_pos (Nat.zero_le _)] at h
  have key : ∀ (l : List Nat) (r : List Value), l.mapM (fun i => W.cell? (a.add i)) = some r → r.length = l.length ∧ ∀ (j : Nat) (u : Value), r[j]? = some u → ∃ i, l[j]? = some i ∧ W.cell? (a.add i) = some u := by
    intro l
    induction l with
    | nil => intro r hr; simp at hr; subst hr; simp
    | cons i l ih =>
      intro r hr
      simp only [List.mapM_cons, Option.bind_eq_bind, Option.bind_eq_some_iff] at hr
      obtain ⟨y, hy, ys, hys, hr⟩ := hr
      obtain rfl : y :: ys = r := by simpa using hr
      obtain ⟨h1, h2⟩ := ih ys hys
      refine ⟨by simp [h1], fun j u hu => ?_⟩
      cases j with
      | zero =>
        obtain rfl : y = u := by simpa using hu
        exact ⟨i, rfl, hy⟩
      | succ j =>
        obtain ⟨i', h3, h4⟩ := h2 j u (by simpa using hu)
        exact ⟨i', by simpa using h3, h4⟩
  obtain ⟨h1, h2⟩ := key _ r h
  refine ⟨by simpa using h1, fun j u hu => ?_⟩
  obtain ⟨i, h3, h4⟩ := h2 j u hu
  have hj : j < n := by
    have := (List.getElem?_eq_some_iff.1 hu).1
    simp at h1
    omega
  rw [List.getElem?_range hj] at h3
  obtain rfl : j = i := by simpa using h3
  exact h4
theorem Rd.slice (ht : P.underlying t = some (.slice e)) (h : Rd P W t cs) :
    cs = [.slice none 0 0] ∨ ∃ (a : Addr) (len cap : Nat) (rows : List (List Value)), cs = [.slice (some a) len cap] ∧ len ≤ cap ∧ cap ≤ maxLen ∧ rows.length = len ∧
      ∀ i r, rows[i]? = some r → W.cells? 0 (a.add (i * P.cellsOf e)) (P.cellsOf e) = some r ∧ Rd P W e r := by
  obtain ⟨H, enc, fuel, x, h⟩ := h
  rcases DataW.trod_slice ht h with ⟨h1, _⟩ | ⟨a, len, cap, elems, rest, n, _, h1, _, _, h2, h3, h4, h5, _⟩
  · exact .inl h1
  · refine .inr ⟨a, len, cap, (List.range len).map fun i => (W.cells? 0 (a.add (i * P.cellsOf e)) (P.cellsOf e)).getD [], h1, h2, h3, by simp, fun i r hr => ?_⟩
    rw [List.getElem?_map] at hr
    obtain ⟨i', hi', hr⟩ := Option.map_eq_some_iff.1 hr
    have hi : i < len := by
      have := (List.getElem?_eq_some_iff.1 hi').1
      simpa using this
    rw [List.getElem?_range hi] at hi'
    obtain rfl : i = i' := by simpa using hi'
    have h6 := h5 i hi
    rw [List.getElem?_eq_getElem (by omega)] at h6
    obtain ⟨r', h7, h8⟩ := Option.bind_eq_some_iff.1 h6
    rw [h7] at hr
    obtain rfl : r' = r := by simpa using hr
    exact ⟨h7, H, enc, n, _, h8⟩

theorem addr_none {a : Addr} {j : Nat} {u : Value} (hj : a.spot.isSome = true → 0 < j) (h : W.cell? (a.add j) = some u) : True := trivial

/-- a slice whose elements decode -/
theorem Rd.rows {α : Type} {A : Option Addr} {n c : Nat} (enc : α → List Value) (Good : α → Prop) (ht : P.underlying t = some (.slice e)) (hpos : 0 < P.cellsOf e)
    (dec : ∀ r, Rd P W e r → ∃ x, r = enc x ∧ Good x) (hsz : ∀ x, (enc x).length = P.cellsOf e) (h : Rd P W t [.slice A n c]) :
    ∃ xs : List α, xs.length = n ∧ n ≤ c ∧ c ≤ maxLen ∧ (∀ x ∈ xs, Good x) ∧ Sl W A (xs.flatMap enc) := by
  rcases Rd.slice ht h with h1 | ⟨a, len, cap, rows, h1, h2, h3, h4, h5⟩
  · simp only [List.cons.injEq, Value.slice.injEq, and_true] at h1
    obtain ⟨rfl, rfl, rfl⟩ := h1
    exact ⟨[], rfl, Nat.le_refl _, Nat.zero_le _, by simp, fun hp => by simp at hp⟩
  · simp only [List.cons.injEq, Value.slice.injEq, and_true] at h1
    obtain ⟨rfl, rfl, rfl⟩ := h1
    have key : ∀ (l : List (List Value)), (∀ r ∈ l, Rd P W e r) → ∃ xs : List α, l = xs.map enc ∧ ∀ x ∈ xs, Good x := by
      intro l
      induction l with
      | nil => intro _; exact ⟨[], rfl, by simp⟩
      | cons r l ih =>
        intro hl
        obtain ⟨x, rfl, hx⟩ := dec r (hl r (by simp))
        obtain ⟨xs, rfl, hxs⟩ := ih (fun r hr => hl r (by simp [hr]))
        exact ⟨x :: xs, rfl, fun y hy => by
          rcases List.mem_cons.1 hy with rfl | hy
          · exact hx
          · exact hxs y hy⟩
    obtain ⟨xs, hxs, hG⟩ := key rows (fun r hr => by
      obtain ⟨i, hi⟩ := List.getElem?_of_mem hr
      exact (h5 i r hi).2)
    have hlen : xs.length = n := by rw [← h4, hxs, List.length_map]
    refine ⟨xs, hlen, h2, h3, hG, fun hp => ?_⟩
    -- the cells, one by one
    have hcell : ∀ (i : Nat) (x : α), xs[i]? = some x → ∀ (j : Nat) (u : Value), (enc x)[j]? = some u → W.cell? ((a.add (i * P.cellsOf e)).add j) = some u := by
      intro i x hx j u hu
      have hr : rows[i]? = some (enc x) := by
        rw [hxs, List.getElem?_map, hx]
        rfl
      exact (cells_len (h5 i _ hr).1).2 j u hu
    have hn0 : 0 < n := by
      rw [← hlen]
      cases xs with
      | nil => simp at hp
      | cons x xs => simp
    -- the address has no spot
    have hspot : a.spot = none := by
      have hx0 : xs[0]? = some (xs[0]'(by omega)) := List.getElem?_eq_getElem (by omega)
      have hl0 := hsz (xs[0]'(by omega))
      have := hcell 0 _ hx0 0 _ (List.getElem?_eq_getElem (by omega))
      have e0 : (a.add (0 * P.cellsOf e)).add 0 = a := by simp [Addr.add]
      rw [e0] at this
      unfold World.cell? at this
      split at this
      · cases hs : a.spot with
        | none => rfl
        | some s => simp [hs] at this
      · cases this
    obtain ⟨b, off, sp⟩ := a
    simp only at hspot
    subst hspot
    have hadd : ∀ o m, (⟨b, o, none⟩ : Addr).add m = ⟨b, o + m, none⟩ := fun o m => by
      unfold Addr.add
      split
      · rename_i h; rw [h]; rfl
      · rfl
    have hall : ∀ (ys : List α) (i : Nat), (∀ j, j < ys.length → xs[i + j]? = ys[j]?) → i + ys.length ≤ n → ∀ m u, (ys.flatMap enc)[m]? = some u → W.cell? ⟨b, off + (i * P.cellsOf e + m), none⟩ = some u := by
      intro ys
      induction ys with
      | nil => intro i _ _ m u hu; simp at hu
      | cons y ys ih =>
        intro i hy hle m u hu
        simp only [List.length_cons] at hle
        rw [List.flatMap_cons] at hu
        have hyl := hsz y
        by_cases hm : m < P.cellsOf e
        · rw [List.getElem?_append_left (by omega)] at hu
          have h0 := hy 0 (by simp)
          simp at h0
          have := hcell i y h0 m u hu
          rw [hadd, hadd] at this
          rw [← Nat.add_assoc]
          exact this
        · rw [List.getElem?_append_right (by omega), hyl] at hu
          have := ih (i + 1) (fun j hj => by
            have := hy (j + 1) (by simp; omega)
            rw [show i + 1 + j = i + (j + 1) from by omega, this]
            simp) (by omega) (m - P.cellsOf e) u hu
          rw [Nat.add_mul, Nat.one_mul] at this
          rw [show i * P.cellsOf e + m = i * P.cellsOf e + P.cellsOf e + (m - P.cellsOf e) from by omega]
          exact this
    have hfin := hall xs 0 (fun j _ => by simp) (by omega)
    simp only [Nat.zero_mul, Nat.zero_add] at hfin
    refine ⟨b, off, rfl, ?_, fun j u hu => hfin j u hu⟩
    have hpp : 0 < (xs.flatMap enc).length := hp
    have := hfin 0 _ (List.getElem?_eq_getElem hpp)
    exact World.block_lt_of_cell? _ _ this
theorem list1 {α : Type} {l : List α} (h : l.length = 1) : ∃ a, l = [a] := by
  match l, h with
  | [a], _ => exact ⟨a, rfl⟩
theorem list2 {α : Type} {l : List α} (h : l.length = 2) : ∃ a b, l = [a, b] := by
  match l, h with
  | [a, b], _ => exact ⟨a, b, rfl⟩
theorem list3 {α : Type} {l : List α} (h : l.length = 3) : ∃ a b c, l = [a, b, c] := by
  match l, h with
  | [a, b, c], _ => exact ⟨a, b, c, rfl⟩
theorem list4 {α : Type} {l : List α} (h : l.length = 4) : ∃ a b c d, l = [a, b, c, d] := by
  match l, h with
  | [a, b, c, d], _ => exact ⟨a, b, c, d, rfl⟩
theorem list5 {α : Type} {l : List α} (h : l.length = 5) : ∃ a b c d e, l = [a, b, c, d, e] := by
  match l, h with
  | [a, b, c, d, e], _ => exact ⟨a, b, c, d, e, rfl⟩
theorem list6 {α : Type} {l : List α} (h : l.length = 6) : ∃ a b c d e f, l = [a, b, c, d, e, f] := by
  match l, h with
  | [a, b, c, d, e, f], _ => exact ⟨a, b, c, d, e, f, rfl⟩
theorem wf_bd {n : Int} (h : (Lit.int k n).wf = true) : k.min ≤ n ∧ n ≤ k.max := by
  simpa [Lit.wf] using h
theorem wf_u8 {n : Int} (h : (Lit.int .u8 n).wf = true) : 0 ≤ n ∧ n ≤ 255 := wf_bd h
theorem wf_i64 {n : Int} (h : (Lit.int .i64 n).wf = true) : -9223372036854775808 ≤ n ∧ n ≤ 9223372036854775807 := wf_bd h
theorem wf_u64 {n : Int} (h : (Lit.int .u64 n).wf = true) : 0 ≤ n ∧ n ≤ 18446744073709551615 := wf_bd h
end Go.Proofs.Ytogjkgoiofngaaa
