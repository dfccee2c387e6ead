/- The laws of the operations that touch memory, over the list of a function's own blocks. -/
import Derived.Test.YteabcdmgklhijaaSx
namespace Go.Proofs.Yteabcdmgklhijaa
open Go.RowKit
set_option linter.unusedVariables false
set_option linter.unusedSimpArgs false
namespace SX
variable {F : Fence} {n : Nat} {P : Program} {w0 w : World} {M : List Nat} {L : List Ent} {a : Act} {K : Act → World → Prop} {Q : Exit → Act → World → Prop}
variable {o : Oper} {T : TypeId}

theorem semAt_plain (F : Fence) (ρ : Operand → Value) (o : Oper) (h : ∀ c, o.op ≠ .defer c) : o.semAt F.round ρ = execOp ρ o := Oper.semAt_plain F ρ o h

theorem val {v : Value} {w' : World} (h1 : ∀ c, o.op ≠ .call c) (h2 : ∀ c, o.op ≠ .defer c) (hr : (execOp a.eval o).run P w = .ok (.value v) w') (hK : K (a.put o.dst v) w') : o.wpIn F n P a w K Q := by
  refine ⟨fun f hf => ?_, ?_⟩
  · exfalso
    unfold Oper.about at hf
    cases ho : o.op <;> simp only [ho] at hf <;> first | cases hf | exact h1 _ ho
  · rw [semAt_plain F _ o h2, hr]
    exact hK

theorem nov {w' : World} (h1 : ∀ c, o.op ≠ .call c) (h2 : ∀ c, o.op ≠ .defer c) (hr : (execOp a.eval o).run P w = .ok .skip w') (hK : K (a.put o.dst undef) w') : o.wpIn F n P a w K Q := by
  refine ⟨fun f hf => ?_, ?_⟩
  · exfalso
    unfold Oper.about at hf
    cases ho : o.op <;> simp only [ho] at hf <;> first | cases hf | exact h1 _ ho
  · rw [semAt_plain F _ o h2, hr]
    exact hK

/-- One cell is loaded. -/
theorem load1 {p : Operand} {q : Addr} {v : Value} (ho : o.op = .load T p) (hagg : ∀ w, (isAgg T).run P w = .ok false w) (hp : a.eval p = .pointer (some q)) (hc : w.cell? q = some v)
    (hK : K (a.put o.dst v) w) : o.wpIn F n P a w K Q := by
  refine val (by intro c h; rw [ho] at h; cases h) (by intro c h; rw [ho] at h; cases h) (v := v) (w' := w) ?_ hK
  simp [execOp, ho, hp, Instr.loadAt, Instr.sureAddr, loadVar, hagg, hc]

theorem load_blk {p : Operand} {g i : Nat} {v : Value} {T' : TypeId} {cs : Array Value} {j : Nat} (ho : o.op = .load T p) (hs : St w0 M w L) (hagg : ∀ w, (isAgg T).run P w = .ok false w)
    (hp : a.eval p = .pointer (some ⟨g, i, none⟩)) (hj : L[j]? = some (Ent.blk g T' cs)) (hv : cs[i]? = some v)
    (hK : K (a.put o.dst v) w) : o.wpIn F n P a w K Q :=
  load1 ho hagg hp ((cell_blk (hs.blk hj) i).trans hv) hK

theorem load_old {p : Operand} {g i : Nat} {v : Value} (ho : o.op = .load T p) (hs : St w0 M w L) (hagg : ∀ w, (isAgg T).run P w = .ok false w)
    (hp : a.eval p = .pointer (some ⟨g, i, none⟩)) (hg : g < w0.heap.size) (hM : g ∉ M) (hc : w0.cell? ⟨g, i, none⟩ = some v)
    (hK : K (a.put o.dst v) w) : o.wpIn F n P a w K Q :=
  load1 ho hagg hp ((hs.oldcell (p := ⟨g, i, none⟩) hg hM).trans hc) hK

theorem row_cell {g k c m size : Nat} {xs : List Value} {j i : Nat} {v : Value} (hs : St w0 M w L) (hj : L[j]? = some (Ent.row (.slice (some ⟨g, 0, none⟩) k c) T size m xs)) (hv : xs[i]? = some v) :
    w.cell? ⟨g, i, none⟩ = some v := by
  have := (hs.get hj : w.ownsRow 0 T size _ m xs).cells (g := g) rfl i v hv
  have hadd : (⟨g, 0, none⟩ : Addr).add i = ⟨g, i, none⟩ := by unfold Addr.add; split <;> simp_all
  rwa [hadd] at this

theorem load_row {p : Operand} {g i : Nat} {v : Value} {T' : TypeId} {k c m size : Nat} {xs : List Value} {j : Nat} (ho : o.op = .load T p) (hs : St w0 M w L) (hagg : ∀ w, (isAgg T).run P w = .ok false w)
    (hp : a.eval p = .pointer (some ⟨g, i, none⟩)) (hj : L[j]? = some (Ent.row (.slice (some ⟨g, 0, none⟩) k c) T' size m xs)) (hv : xs[i]? = some v)
    (hK : K (a.put o.dst v) w) : o.wpIn F n P a w K Q :=
  load1 ho hagg hp (row_cell hs hj hv) hK

/-- One cell is stored. -/
theorem store1 {p x : Operand} {q : Addr} {v u : Value} (ho : o.op = .store T p x) (hsz : ∀ w, (sizeOf T).run P w = .ok 1 w) (hp : a.eval p = .pointer (some q)) (hx : a.eval x = v) (h1 : v.oneCell' = true)
    (hc : w.cell? q = some u) (hf : w.frozen? q = false)
    (hK : K (a.put o.dst undef) (w.setCell q v)) : o.wpIn F n P a w K Q := by
  refine nov (by intro c h; rw [ho] at h; cases h) (by intro c h; rw [ho] at h; cases h) (w' := w.setCell q v) ?_ hK
  have hcs : v.cells = #[v] := by cases v <;> first | rfl | simp [Value.oneCell'] at h1
  have hadd : q.add 0 = q := by simp [Addr.add]
  simp [execOp, ho, hp, hx, Instr.storeAt, Instr.sureAddr, storeVar, hsz, hcs, storeCells, hadd, run_store P w q v _ h1, hc, hf]

theorem store_blk {p x : Operand} {g i : Nat} {v : Value} {T' : TypeId} {cs : Array Value} {j : Nat} (ho : o.op = .store T p x) (hs : St w0 M w L) (hsz : ∀ w, (sizeOf T).run P w = .ok 1 w)
    (hp : a.eval p = .pointer (some ⟨g, i, none⟩)) (hx : a.eval x = v) (h1 : v.oneCell' = true) (hj : L[j]? = some (Ent.blk g T' cs)) (hi : i < cs.size)
    (hK : ∀ w', St w0 M w' (L.set j (Ent.blk g T' (cs.setIfInBounds i v))) → K (a.put o.dst undef) w') : o.wpIn F n P a w K Q :=
  store1 ho hsz hp hx h1 (u := cs[i]) ((cell_blk (hs.blk hj) i).trans (by simp [hi])) (frozen_blk (hs.blk hj) i) (hK _ (hs.set hj v))

theorem row_set {g k c m size : Nat} {xs : List Value} {j i : Nat} (hs : St w0 M w L) (hj : L[j]? = some (Ent.row (.slice (some ⟨g, 0, none⟩) k c) T size m xs)) (v : Value) :
    St w0 M (w.setCell ⟨g, i, none⟩ v) (L.set j (Ent.row (.slice (some ⟨g, 0, none⟩) k c) T size m (xs.set i v))) := by
  have hr : w.ownsRow 0 T size (.slice (some ⟨g, 0, none⟩) k c) m xs := hs.get hj
  refine St.back hj ((hs.front hj).step rfl rfl rfl (by simp [World.setCell]) (fun b _ hne => ?_) (by simp [Ent.row, Value.ownBlock]) (by simp [Ent.row, Value.ownBlock]) ?_)
  · exact Below.heap_setCell _ _ _ _ (by simpa [Ent.row, Value.ownBlock] using hne)
  · obtain ⟨h1, h2⟩ := hr
    refine ⟨by simpa using h1, ?_⟩
    rcases h2 with ⟨h, _⟩ | ⟨g', cap, cur, hv, hb, hh, hn, hm, hcs, ht⟩
    · cases h
    · simp only [Value.slice.injEq, Option.some.injEq, Addr.mk.injEq, and_true] at hv
      obtain ⟨rfl, rfl, rfl⟩ := hv
      refine .inr ⟨g, c, cur.setIfInBounds i v, rfl, hb, heap_set hh v, hn, hm, by simpa using hcs, ?_⟩
      rw [Array.toList_setIfInBounds, ← ht, List.take_set]

theorem row_frozen {g k c m size : Nat} {xs : List Value} {j i : Nat} (hs : St w0 M w L) (hj : L[j]? = some (Ent.row (.slice (some ⟨g, 0, none⟩) k c) T size m xs)) : w.frozen? ⟨g, i, none⟩ = false := by
  have hr : w.ownsRow 0 T size (.slice (some ⟨g, 0, none⟩) k c) m xs := hs.get hj
  rcases hr.2 with ⟨h, _⟩ | ⟨g', cap, cur, hv, hb, hh, _⟩
  · cases h
  · simp only [Value.slice.injEq, Option.some.injEq, Addr.mk.injEq, and_true] at hv
    obtain ⟨rfl, rfl, rfl⟩ := hv
    simp [World.frozen?, hh]

theorem store_row {p x : Operand} {g i : Nat} {v : Value} {T' : TypeId} {k c m size : Nat} {xs : List Value} {j : Nat} (ho : o.op = .store T p x) (hs : St w0 M w L) (hsz : ∀ w, (sizeOf T).run P w = .ok 1 w)
    (hp : a.eval p = .pointer (some ⟨g, i, none⟩)) (hx : a.eval x = v) (h1 : v.oneCell' = true) (hj : L[j]? = some (Ent.row (.slice (some ⟨g, 0, none⟩) k c) T' size m xs)) (hi : i < xs.length)
    (hK : ∀ w', St w0 M w' (L.set j (Ent.row (.slice (some ⟨g, 0, none⟩) k c) T' size m (xs.set i v))) → K (a.put o.dst undef) w') : o.wpIn F n P a w K Q :=
  store1 ho hsz hp hx h1 (u := xs[i]) (row_cell hs hj (by simp [hi])) (row_frozen hs hj) (hK _ (row_set hs hj v))

/-- A row of our own that is nil. -/
theorem St.nil (h : St w0 M w L) (T size : Nat) : St w0 M w (Ent.row (.slice none 0 0) T size 0 [] :: L) :=
  h.add rfl rfl rfl (Nat.le_refl _) (fun _ _ => rfl) (by simp [Ent.row, Value.ownBlock]) (by simp [Ent.row, Value.ownBlock]) (World.ownsRow_nil w 0 T size)

/-- A row of our own is made. -/
theorem mk_row {l c : Operand} {T' t : TypeId} {m size bytes : Nat} {kl kc : IntKind} {i0 : TypeInfo} {z : Value} (ho : o.op = .makeSlice t l c) (hs : St w0 M w L)
    (ht : P.underlying t = some (.slice T')) (hi : P.info? T' = some i0) (hz : i0.zero = some z) (hsize : i0.size = size) (hby : i0.bytes = bytes)
    (hl : a.eval l = .int kl (m : Int)) (hc : a.eval c = .int kc (m : Int)) (hbytes : bytes * m ≤ 281474976710656) (h63 : m ≤ maxLen)
    (hK : ∀ g w', St w0 M w' (Ent.row (.slice (some ⟨g, 0, none⟩) m m) T' size m (madeCells z.cells (m * size)).toList :: L) → K (a.put o.dst (.slice (some ⟨g, 0, none⟩) m m)) w') :
    o.wpIn F n P a w K Q := by
  subst hby
  obtain ⟨w', hrun, hown, hg⟩ := run_make_full (P := P) w 0 t T' i0 z size ht hi hz hsize kl kc m hbytes h63 (Nat.zero_le _)
  refine val (by intro c h; rw [ho] at h; cases h) (by intro c h; rw [ho] at h; cases h) (v := .slice (some ⟨w.heap.size, 0, none⟩) m m) (w' := w') ?_ (hK _ _ ?_)
  · simp [execOp, ho, hl, hc, hrun]
  · exact hs.add hg.os hg.tape hg.output hg.size (fun b hb => hg.block b hb (by simp)) (by simp [Ent.row, Value.ownBlock]) (by simp [Ent.row, Value.ownBlock]) hown

theorem madeCells_one (z : Value) (n : Nat) : (madeCells #[z] n).toList = List.replicate n z := by
  apply List.ext_getElem?
  intro i
  by_cases h : i < n
  · simp [madeCells, List.getElem?_replicate, h, Nat.mod_one]
  · rw [List.getElem?_eq_none (by simp [madeCells]; omega), List.getElem?_eq_none (by simp; omega)]

/-- What an append onto a row of our own does. -/
theorem append_row {s x : Operand} {v : Value} {T' t : TypeId} {k m c size bytes : Nat} {xs news : List Value} {j : Nat} {ad : Addr} {i0 : TypeInfo} {z : Value} (ho : o.op = .call { callee := .builtin .append, args := #[s, x], argTypes := #[t, t] }) (hs : St w0 M w L)
    (ht : P.underlying t = some (.slice T')) (hi : P.info? T' = some i0) (hz : i0.zero = some z) (hsize : i0.size = size) (hby : i0.bytes = bytes) (hzs : z.cells.size = size) (hpos : 0 < size)
    (hv : a.eval s = v) (hx : a.eval x = .slice (some ad) m c) (hj : L[j]? = some (Ent.row v T' size k xs)) (hl : news.length = m * size)
    (hnews : ∀ i u, news[i]? = some u → w.cell? (ad.add i) = some u) (h1 : ∀ u ∈ news, u.oneCell' = true) (hm : 0 < m) (h63 : k + m ≤ maxLen) (hbytes : (k + m) * bytes ≤ 140737488355328)
    (hK : ∀ g cap w', St w0 M w' (L.set j (Ent.row (.slice (some ⟨g, 0, none⟩) (k + m) cap) T' size (k + m) (xs ++ news))) → K (a.put o.dst (.slice (some ⟨g, 0, none⟩) (k + m) cap)) w') :
    o.wpIn F n P a w K Q := by
  have hr : w.ownsRow 0 T' size v k xs := hs.get hj
  obtain ⟨v', w', hrun, h2, h3, _, h5⟩ := run_append_own_at (P := P) w 0 t o.type T' i0 z size bytes ht hi hz hsize hby hzs hpos v k xs hr ad m c news hl hnews h1 h63 hbytes (Nat.zero_le _)
  obtain ⟨g, cap, hv', _⟩ := h2.form (by omega)
  subst hv'
  refine ⟨?_, ?_⟩
  · simp [Oper.about, ho, resolve, Target.leads, Sem.run_pure]
  · rw [Oper.semAt_plain F _ _ (by intro c hc; rw [ho] at hc; cases hc)]
    simp only [execOp, ho, resolve, invoke, builtin, Sem.run_bind, Sem.run_pure, Result.andThen_ok, List.map_toArray, List.map_cons, List.map_nil, hv, hx, hrun]
    refine hK g cap w' (St.back hj ((hs.front hj).step h3.os h3.tape h3.output h3.size (fun b hb hne => h3.block b hb (fun e => hne ?_)) (by simp [Ent.row, Value.ownBlock]) (fun b hb => ?_) ?_))
    · simp [Ent.row, ← e]
    · have hb' : b = g := by simpa [Ent.row, Value.ownBlock] using hb
      subst hb'
      rcases h5 with h5 | h5
      · left
        have h6 : v.ownBlock = some b := h5.symm
        simp [Ent.row, h6]
      · right
        simp only [Value.ownBlock, Option.some.injEq] at h5
        omega
    · exact h2

/-- The elements to append lie in a block of ours, which is dropped. -/
theorem append_blk {s x : Operand} {v : Value} {T' t : TypeId} {k m c size bytes g' : Nat} {xs : List Value} {cs : Array Value} {j j' : Nat} {T'' : TypeId} {i0 : TypeInfo} {z : Value} (ho : o.op = .call { callee := .builtin .append, args := #[s, x], argTypes := #[t, t] }) (hs : St w0 M w L)
    (ht : P.underlying t = some (.slice T')) (hi : P.info? T' = some i0) (hz : i0.zero = some z) (hsize : i0.size = size) (hby : i0.bytes = bytes) (hzs : z.cells.size = size) (hpos : 0 < size)
    (hv : a.eval s = v) (hx : a.eval x = .slice (some ⟨g', 0, none⟩) m c) (hj : L[j]? = some (Ent.row v T' size k xs)) (hj' : L[j']? = some (Ent.blk g' T'' cs)) (hl : cs.toList.length = m * size)
    (h1 : ∀ u ∈ cs.toList, u.oneCell' = true) (hm : 0 < m) (h63 : k + m ≤ maxLen) (hbytes : (k + m) * bytes ≤ 140737488355328)
    (hK : ∀ g cap w', St w0 M w' ((L.set j (Ent.row (.slice (some ⟨g, 0, none⟩) (k + m) cap) T' size (k + m) (xs ++ cs.toList))).eraseIdx j') → K (a.put o.dst (.slice (some ⟨g, 0, none⟩) (k + m) cap)) w') :
    o.wpIn F n P a w K Q :=
  append_row ho hs ht hi hz hsize hby hzs hpos hv hx hj hl (fun i u hu => by
    have hadd : (⟨g', 0, none⟩ : Addr).add i = ⟨g', i, none⟩ := by unfold Addr.add; split <;> simp_all
    rw [hadd, cell_blk (hs.blk hj')]
    simpa using hu) h1 hm h63 hbytes fun g cap w' h => hK g cap w' (h.sub (List.eraseIdx_sublist _ _))

/-- x is y; a name that simp does not look behind. -/
def Is (x y : Result Next) : Prop := x = y

def isPtr : Op → Bool
  | .box .. | .alloc .. => true
  | _ => false
def isSl : Op → Bool
  | .buildSlice .. | .makeSlice .. => true
  | _ => false

/-- A new block, whose address is yielded as a pointer. -/
theorem alc_ptr {ob : Obj} (h1 : isPtr o.op = true) (hs : St w0 M w L) (hr : ∀ W : World, Is ((execOp a.eval o).run P W) (.ok (.value (.pointer (some ⟨W.heap.size, 0, none⟩))) (W.alloc ob)))
    (hK : ∀ g w', St w0 M w' (Ent.obj g ob :: L) → K (a.put o.dst (.pointer (some ⟨g, 0, none⟩))) w') : o.wpIn F n P a w K Q :=
  val (by intro c h; rw [h] at h1; cases h1) (by intro c h; rw [h] at h1; cases h1) (hr w) (hK _ _ (hs.alloc ob))

/-- A new block, of which a slice is yielded. -/
theorem alc_slice {ob : Obj} {k c : Nat} (h1 : isSl o.op = true) (hs : St w0 M w L) (hr : ∀ W : World, Is ((execOp a.eval o).run P W) (.ok (.value (.slice (some ⟨W.heap.size, 0, none⟩) k c)) (W.alloc ob)))
    (hK : ∀ g w', St w0 M w' (Ent.obj g ob :: L) → K (a.put o.dst (.slice (some ⟨g, 0, none⟩) k c)) w') : o.wpIn F n P a w K Q :=
  val (by intro c h; rw [h] at h1; cases h1) (by intro c h; rw [h] at h1; cases h1) (hr w) (hK _ _ (hs.alloc ob))

/-- A new block gets a name, and so does the world behind it. -/
theorem named {ob : Obj} (hs : St w0 M w L) (h : St w0 M (w.alloc ob) (Ent.obj w.heap.size ob :: L) → K a (w.alloc ob)) : K a (w.alloc ob) := h (hs.alloc ob)
theorem named_drew (hs : St w0 M w L) (h : St w0 M w.drew L → K a w.drew) : K a w.drew := h hs.drew

theorem at0 {e : Ent} {R : List Ent} : (e :: R)[0]? = some e := rfl
theorem at1 {e0 e : Ent} {R : List Ent} : (e0 :: e :: R)[1]? = some e := rfl
theorem at2 {e0 e1 e : Ent} {R : List Ent} : (e0 :: e1 :: e :: R)[2]? = some e := rfl
theorem at3 {e0 e1 e2 e : Ent} {R : List Ent} : (e0 :: e1 :: e2 :: e :: R)[3]? = some e := rfl
theorem at4 {e0 e1 e2 e3 e : Ent} {R : List Ent} : (e0 :: e1 :: e2 :: e3 :: e :: R)[4]? = some e := rfl
theorem at5 {e0 e1 e2 e3 e4 e : Ent} {R : List Ent} : (e0 :: e1 :: e2 :: e3 :: e4 :: e :: R)[5]? = some e := rfl

theorem ls {ops : Array Oper} {rest : List Oper} (hg : o.guard = none) (h : o.wpIn F n P a w (wpListIn F n P ops Q rest) Q) : wpListIn F n P ops Q (o :: rest) a w := by
  simp only [wpListIn, Region.wanted, hg, if_true]
  exact h

/-- Does it load, store or make memory? -/
def isMem : Op → Bool
  | .load .. | .store .. | .box .. | .alloc .. | .buildSlice .. | .makeSlice .. => true
  | _ => false
theorem lsm {ops : Array Oper} {rest : List Oper} (hm : isMem o.op = true) (hg : o.guard = none) (h : o.wpIn F n P a w (wpListIn F n P ops Q rest) Q) : wpListIn F n P ops Q (o :: rest) a w := ls hg h
/-- Is it a call of a function value? -/
def isCall : Op → Bool
  | .call { callee := .value _, .. } => true
  | _ => false
theorem lsc {ops : Array Oper} {rest : List Oper} (hm : isCall o.op = true) (hg : o.guard = none) (h : o.wpIn F n P a w (wpListIn F n P ops Q rest) Q) : wpListIn F n P ops Q (o :: rest) a w := ls hg h
/-- Is it a call of append? -/
def isApp : Op → Bool
  | .call { callee := .builtin .append, .. } => true
  | _ => false
theorem lsa {ops : Array Oper} {rest : List Oper} (hm : isApp o.op = true) (hg : o.guard = none) (h : o.wpIn F n P a w (wpListIn F n P ops Q rest) Q) : wpListIn F n P ops Q (o :: rest) a w := ls hg h

/-- A function is entered. -/
theorem enter {f : FuncId} {fn : Func} {c : Code} {args : Array Value} {R : Ending → World → Prop} (hf : P.funcs[f]? = some fn) (hb : fn.body = some c)
    (h : c.wpIn Fence.wide 0 P (bodyPost P fn R) { tmps := args ++ Array.replicate (fn.ntmps - args.size) undef, defers := [] } w) : Calls P f args w R :=
  (callsIn_wide (n := 0)).1 (callsIn_of_wp hf hb trivial h)

/-- What a contract of a plain call says is said within the fence. -/
theorem call {f : FuncId} {args : Array Value} {R : Ending → World → Prop} (h : Calls P f args w R) : CallsIn Fence.wide n P f args w R := callsIn_wide.2 h
theorem callR {f : FuncId} {args : Array Value} {R : Ending → World → Prop} {l : Nat} (h : Calls P f args w R) : CallsIn (Fence.wide.inRound l) n P f args w R := CallsIn.inRound l (callsIn_wide.2 h)

/-- A contract's post: it returns a value of which Φ holds. -/
def Ret (Φ : Value → World → Prop) (e : Ending) (w' : World) : Prop := ∃ v, e = .returned v ∧ Φ v w'

end SX
end Go.Proofs.Yteabcdmgklhijaa
