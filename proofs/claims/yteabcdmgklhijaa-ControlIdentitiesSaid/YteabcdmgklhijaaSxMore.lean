/- Aggregates in memory, and rows made by literals. -/
import Derived.Test.YteabcdmgklhijaaSxSl
import Derived.Laws.Tables
namespace Go.Proofs.Yteabcdmgklhijaa
open Go.RowKit
set_option linter.unusedSimpArgs false
set_option linter.unusedVariables false
namespace SX
variable {F : Fence} {n : Nat} {P : Program} {w0 w : World} {M : List Nat} {L : List Ent} {a : Act} {K : Act → World → Prop} {Q : Exit → Act → World → Prop}
variable {o : Oper} {T : TypeId}

/-- A block whose cells are all those of a row is a row. -/
theorem St.asRow {g T k size : Nat} {cs : Array Value} (h : St w0 M w (Ent.obj g (.cells cs T (0, 0)) :: L)) (hs : cs.size = k * size) (hk : k ≤ maxLen) :
    St w0 M w (Ent.row (.slice (some ⟨g, 0, none⟩) k k) T size k cs.toList :: L) := by
  have hb : w.heap[g]? = some (.cells cs T (0, 0)) := h.get at0
  refine h.step rfl rfl rfl (Nat.le_refl _) (fun _ _ _ => rfl) (by simp [Ent.row, Value.ownBlock]) (by simp [Ent.row, Value.ownBlock, Ent.obj]) ?_
  refine ⟨by simpa using hs, .inr ⟨g, k, cs, rfl, Nat.zero_le _, hb, Nat.le_refl _, hk, hs, ?_⟩⟩
  rw [← hs]
  exact List.take_of_length_le (by simp)

/-- A guarded one, whose guard says yes. -/
theorem lsmw {ops : Array Oper} {rest : List Oper} (hm : isMem o.op = true) (hw : Region.wanted o (yielded ops a.tmps) = true) (h : o.wpIn F n P a w (wpListIn F n P ops Q rest) Q) : wpListIn F n P ops Q (o :: rest) a w := by
  simp only [wpListIn, hw, if_true]
  exact h

theorem lscw {ops : Array Oper} {rest : List Oper} (hm : isCall o.op = true) (hw : Region.wanted o (yielded ops a.tmps) = true) (h : o.wpIn F n P a w (wpListIn F n P ops Q rest) Q) : wpListIn F n P ops Q (o :: rest) a w := by
  simp only [wpListIn, hw, if_true]
  exact h

/-- The walk stands still. -/
structure Stop (q : Prop) : Prop where
  out : q
theorem hold {p : Prop} (h : ∀ q : Prop, Hid (p → Stop q) → Stop q) : p := (h p (Lib.hid Stop.mk)).out

theorem row_slB {j T k size c m : Nat} {A : Option Addr} {xs : List Value} (hs : St w0 M w L) (hj : L[j]? = some (Ent.row (.slice A k c) T size m xs)) : Sl w A xs := by
  have hr : w.ownsRow 0 T size (.slice A k c) m xs := hs.get hj
  rcases hr.2 with ⟨hv, h⟩ | ⟨g, cap, cur, hv, _, _, h1, h2, _⟩
  · intro hp
    have := hr.1
    rw [h] at this
    simp at this
    rw [this] at hp
    cases hp
  · simp only [Value.slice.injEq] at hv
    obtain ⟨rfl, rfl, rfl⟩ := hv
    intro _
    have hlt := (hr.lt g rfl).2
    exact ⟨g, 0, rfl, hlt, fun i u hu => by simpa using row_cell hs hj hu⟩

/-- A row is read. -/
theorem row_slv {j T k size : Nat} {v : Value} {xs : List Value} (hs : St w0 M w L) (hj : L[j]? = some (Ent.row v T size k xs)) :
    ∃ A cap, v = .slice A k cap ∧ k ≤ cap ∧ cap ≤ maxLen ∧ Sl w A xs := by
  have hr : w.ownsRow 0 T size v k xs := hs.get hj
  rcases hr.2 with ⟨rfl, h⟩ | ⟨g, cap, cur, rfl, _, _, h1, h2, _⟩
  · subst h
    refine ⟨none, 0, rfl, Nat.le_refl _, Nat.zero_le _, fun hp => ?_⟩
    have := hr.1
    simp at this
    rw [this] at hp
    cases hp
  · refine ⟨_, cap, rfl, h1, h2, fun _ => ?_⟩
    have hlt := (hr.lt g rfl).2
    refine ⟨g, 0, rfl, hlt, fun i u hu => ?_⟩
    simpa using row_cell hs hj hu

/-- A block is read as a slice. -/
theorem blk_sl {j g T : Nat} {cs : Array Value} (hs : St w0 M w L) (hj : L[j]? = some (Ent.blk g T cs)) : Sl w (some ⟨g, 0, none⟩) cs.toList := fun _ =>
  ⟨g, 0, rfl, lt_of_some (hs.blk hj), fun i u hu => by rw [Nat.zero_add]; exact (cell_blk (hs.blk hj) i).trans (by simpa using hu)⟩

/-- A cell of a block of ours. -/
theorem St.cellOf {j g i : Nat} {cs : Array Value} {v : Value} (h : St w0 M w L) (hj : L[j]? = some (Ent.blk g T cs)) (hv : cs[i]? = some v) : g < w.heap.size ∧ w.cell? ⟨g, i, none⟩ = some v :=
  ⟨lt_of_some (h.blk hj), (cell_blk (h.blk hj) i).trans hv⟩

theorem ids_inj {b : Nat} : ∀ {L : List Ent} {i j : Nat} {e e' : Ent}, (idsOf L).Nodup → L[i]? = some e → L[j]? = some e' → b ∈ e.ids → b ∈ e'.ids → i = j
  | [], _, _, _, _, _, hi, _, _, _ => by simp at hi
  | a :: L, 0, 0, _, _, _, _, _, _, _ => rfl
  | a :: L, 0, j + 1, e, e', hn, hi, hj, hb, hb' => by
    obtain rfl : a = e := by simpa using hi
    simp only [idsOf, List.flatMap_cons] at hn
    exact absurd rfl ((List.nodup_append.1 hn).2.2 b hb b (mem_ids (List.mem_of_getElem? (by simpa using hj)) hb'))
  | a :: L, i + 1, 0, e, e', hn, hi, hj, hb, hb' => by
    obtain rfl : a = e' := by simpa using hj
    simp only [idsOf, List.flatMap_cons] at hn
    exact absurd rfl ((List.nodup_append.1 hn).2.2 b hb' b (mem_ids (List.mem_of_getElem? (by simpa using hi)) hb))
  | a :: L, i + 1, j + 1, e, e', hn, hi, hj, hb, hb' => by
    simp only [idsOf, List.flatMap_cons] at hn
    exact congrArg (· + 1) (ids_inj (List.nodup_append.1 hn).2.1 (by simpa using hi) (by simpa using hj) hb hb')

theorem ids_nodup {L : List Ent} {e : Ent} (hn : (idsOf L).Nodup) (he : e ∈ L) : e.ids.Nodup := by
  induction L with
  | nil => cases he
  | cons a L ih =>
    simp only [idsOf, List.flatMap_cons] at hn
    rcases List.mem_cons.1 he with rfl | he
    · exact (List.nodup_append.1 hn).1
    · exact ih (List.nodup_append.1 hn).2.1 he

/-- Some of the things, in any order. -/
theorem St.sel (h : St w0 M w L) (is : List Nat) (hnd : is.Nodup) : St w0 M w (is.filterMap (L[·]?)) := by
  have hm : ∀ is : List Nat, ∀ e ∈ is.filterMap (L[·]?), ∃ i ∈ is, L[i]? = some e := fun is e he => by
    obtain ⟨i, hi, he⟩ := List.mem_filterMap.1 he
    exact ⟨i, hi, he⟩
  have hme : ∀ e ∈ is.filterMap (L[·]?), e ∈ L := fun e he => by
    obtain ⟨i, _, hi⟩ := hm is e he
    exact List.mem_of_getElem? hi
  refine ⟨h.os, h.tape, h.output, h.size, ?_, fun b hb => ?_, fun e he => h.ok e (hme e he), h.old⟩
  · clear hme
    induction is with
    | nil => simp [idsOf]
    | cons i is ih =>
      have hnd' := List.nodup_cons.1 hnd
      cases hi : L[i]? with
      | none => simpa [List.filterMap_cons, hi] using ih hnd'.2
      | some e =>
        rw [List.filterMap_cons, hi]
        simp only [idsOf, List.flatMap_cons]
        refine List.nodup_append.2 ⟨ids_nodup h.nodup (List.mem_of_getElem? hi), ih hnd'.2, fun b hb c hc hbc => ?_⟩
        subst hbc
        obtain ⟨e', he', hb'⟩ := List.mem_flatMap.1 hc
        obtain ⟨j, hj, hje⟩ := hm is e' he'
        exact hnd'.1 (ids_inj h.nodup hi hje hb hb' ▸ hj)
  · obtain ⟨e, he, hbe⟩ := List.mem_flatMap.1 hb
    exact h.new b (mem_ids (hme e he) hbe)

theorem run_loadVar_agg {p : Addr} {cs : List Value} (ty : TypeId) (hagg : ∀ w, (isAgg ty).run P w = .ok true w) (hsz : (P.info? ty).map (·.size) = some cs.length) (hc : ∀ j v, cs[j]? = some v → w.cell? (p.add j) = some v) :
    (loadVar ty p).run P w = .ok (.agg cs.toArray) w := by
  cases hq : P.info? ty with
  | none => simp [hq] at hsz
  | some i =>
    have hs : i.size = cs.length := by simpa [hq] using hsz
    simp [loadVar, hagg, sizeOf, typeInfo, hq, hs, run_loadCells_list w p cs hc]

/-- An aggregate is loaded. -/
theorem load_agg {p : Operand} {b i : Nat} (cs : List Value) (ho : o.op = .load T p) (hagg : ∀ w, (isAgg T).run P w = .ok true w) (hsz : (P.info? T).map (·.size) = some cs.length)
    (hp : a.eval p = .pointer (some ⟨b, i, none⟩)) (hc : ∀ j v, cs[j]? = some v → w.cell? ⟨b, i + j, none⟩ = some v)
    (hK : K (a.put o.dst (.agg cs.toArray)) w) : o.wpIn F n P a w K Q := by
  refine val (by intro c h; rw [ho] at h; cases h) (by intro c h; rw [ho] at h; cases h) (w' := w) ?_ hK
  have := run_loadVar_agg (w := w) (p := ⟨b, i, none⟩) T hagg hsz (fun j v hv => by
    have hadd : (⟨b, i, none⟩ : Addr).add j = ⟨b, i + j, none⟩ := by unfold Addr.add; split <;> simp_all
    rw [hadd]; exact hc j v hv)
  simp [execOp, ho, hp, Instr.loadAt, Instr.sureAddr, this]

theorem load_aggB {p : Operand} {g : Nat} {T' : TypeId} {cs : Array Value} {j : Nat} (ho : o.op = .load T p) (hs : St w0 M w L) (hagg : ∀ w, (isAgg T).run P w = .ok true w)
    (hp : a.eval p = .pointer (some ⟨g, 0, none⟩)) (hj : L[j]? = some (Ent.blk g T' cs)) (hsz : (P.info? T).map (·.size) = some cs.toList.length)
    (hK : K (a.put o.dst (.agg cs)) w) : o.wpIn F n P a w K Q := by
  have := load_agg (K := K) (Q := Q) (n := n) (F := F) cs.toList ho hagg hsz hp (fun j v hv => by rw [cell_blk (hs.blk hj)]; simpa using hv)
  exact this (by simpa using hK)

/-- An aggregate is stored into a block of its own. -/
theorem store_agg {p x : Operand} {g : Nat} {T' : TypeId} {cs cs' : Array Value} {j : Nat} (ho : o.op = .store T p x) (hs : St w0 M w L)
    (hp : a.eval p = .pointer (some ⟨g, 0, none⟩)) (hx : a.eval x = .agg cs') (hsz : (P.info? T).map (·.size) = some cs'.size) (h1 : cs'.all (·.oneCell') = true) (hj : L[j]? = some (Ent.blk g T' cs)) (hi : cs.size = cs'.size)
    (hK : ∀ w', St w0 M w' (L.set j (Ent.blk g T' cs')) → K (a.put o.dst undef) w') : o.wpIn F n P a w K Q := by
  have hb := hs.blk hj
  refine nov (by intro c h; rw [ho] at h; cases h) (by intro c h; rw [ho] at h; cases h) (w' := w.setRow g cs') ?_ (hK _ ?_)
  · simp [execOp, ho, hp, hx, Instr.storeAt, Instr.sureAddr, run_storeVar_row w g T' T cs cs' hb hsz hi h1]
  · have hlt := lt_of_some hb
    refine St.back hj ((hs.front hj).step rfl rfl rfl (by simp [World.setRow]) (fun b _ hne => ?_) (by simp [Ent.blk, Ent.obj]) (by simp [Ent.blk, Ent.obj]) ?_)
    · have hne' : g ≠ b := fun e => hne (by simp [Ent.blk, Ent.obj, e])
      simp [World.setRow, Array.getElem?_modify, hne']
    · show (w.setRow g cs').heap[g]? = _
      simp [World.setRow, Array.getElem?_modify, hb]

theorem Keep.row {Ls : List Ent} {w : World} (h : Keep w0 M Ls w) {g k c T size m : Nat} {xs : List Value} {i : Nat} {v : Value} (hm : Ent.row (.slice (some ⟨g, 0, none⟩) k c) T size m xs ∈ Ls) (hv : xs[i]? = some v) : w.cell? ⟨g, i, none⟩ = some v := by
  obtain ⟨R, hR, hL⟩ := h
  obtain ⟨j, hj⟩ := List.getElem?_of_mem (hL _ hm)
  exact row_cell hR hj hv

/-- A pointer or the like is loaded within a region: from a row. -/
theorem y_loadr {p : Operand} {g k c m size T' : Nat} {xs : List Value} {i : Nat} {v : Value} {Ls : List Ent} (ho : o.op = .load T p) (hagg : ∀ w, (isAgg T).run P w = .ok false w) (hp : a.eval p = .pointer (some ⟨g, i, none⟩))
    (hm : Ent.row (.slice (some ⟨g, 0, none⟩) k c) T' size m xs ∈ Ls) (hv : xs[i]? = some v) : ∀ w, Keep w0 M Ls w → (execOp a.eval o).run P w = .ok (.value v) w :=
  y_load ho hagg hp fun _ h => h.row hm hv
end SX
end Go.Proofs.Yteabcdmgklhijaa
