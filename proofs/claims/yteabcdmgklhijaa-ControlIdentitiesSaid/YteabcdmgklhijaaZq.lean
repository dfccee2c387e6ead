/- What changes memory, calls, regions that draw, the forms of code, functions. -/
import Derived.Test.YteabcdmgklhijaaZp
namespace Go.Proofs.Yteabcdmgklhijaa
open Go.RowKit
set_option linter.unusedVariables false
set_option linter.unusedSimpArgs false
namespace Z

class Wider (F : Fence) : Prop extends Wide F where
  calls : ∀ {m : Nat} {P : Program} {f : FuncId} {args : Array Value} {w : World} {R : Ending → World → Prop}, Calls P f args w R → CallsIn F m P f args w R
instance : Wider Fence.wide := ⟨fun h => callsIn_wide.2 h⟩
instance (l : Nat) : Wider (Fence.wide.inRound l) := ⟨fun h => CallsIn.inRound l (callsIn_wide.2 h)⟩

variable {N : Nat} {E : Env} {D : List Deferred} {a : Act} {G : Guards} {F : Fence} {n : Nat} {P : Program} {S : World → Prop} {ops : Array Oper} {o : Oper} {v : Value}
variable {K : Act → World → Prop} {Q : Exit → Act → World → Prop} {w w' w0 : World} {rest : List Oper} {M : List Nat} {L : List SX.Ent}
variable {x y : Operand} {k : FuncId} {T T' : TypeId} {d : Nat}

theorem gnil : gholds a [] := fun g hg => by cases hg
/-- one operation, whatever comes behind it -/
def ZO (F : Fence) (n : Nat) (P : Program) (N : Nat) (E : Env) (D : List Deferred) (o : Oper) (K : Act → World → Prop) (Q : Exit → Act → World → Prop) (w : World) : Prop :=
  ∀ a, Holds a N E D → o.wpIn F n P a w K Q

/-- the guards hold -/
def GTrue (E : Env) : Guards → Prop
  | [] => True
  | g :: G => look g.1 E = some ([], .bool g.2) ∧ GTrue E G
theorem GTrue.holds (ha : Holds a N E D) : ∀ {G : Guards}, GTrue E G → gholds a G
  | [], _, g, hg => by cases hg
  | g :: G, h, g', hg => by
    rcases List.mem_cons.1 hg with rfl | hg
    · have := ha.get _ _ _ h.1
      rwa [if_pos gnil] at this
    · exact GTrue.holds ha h.2 g' hg

theorem le [Wide F] (hG : effG ops E o = some G) (ht : GTrue E G) (h : ZO F n P N E D o (wpListIn F n P ops Q rest) Q w) : Z N E D (wpListIn F n P ops Q (o :: rest)) w := by
  intro a ha
  have hw := (wanted_of (ops := ops) (o := o) ha hG).2 (ht.holds ha)
  unfold wpListIn
  rw [if_pos hw]
  exact h a ha

/-- an operation whose guard says no -/
theorem skipped (ha : Holds a N E D) {s : Nat} {b : Bool} (hG : effG ops E o = some ((s, b) :: G)) (hs : look s E = some ([], .bool (!b))) : Region.wanted o (yielded ops a.tmps) = false := by
  cases hw : Region.wanted o (yielded ops a.tmps) with
  | false => rfl
  | true =>
    have h1 := (wanted_of (ops := ops) (o := o) ha hG).1 hw (s, b) List.mem_cons_self
    have h2 := ha.get _ _ _ hs
    rw [if_pos gnil] at h2
    simp only at h1
    rw [h1] at h2
    cases b <;> simp at h2
theorem ls [Wide F] {s : Nat} {b : Bool} (hG : effG ops E o = some ((s, b) :: G)) (hs : look s E = some ([], .bool (!b))) (hd : o.dst = some d) (hc : chk N d E [] = true)
    (h : Z N ((d, [], undef) :: E) D (wpListIn F n P ops Q rest) w) : Z N E D (wpListIn F n P ops Q (o :: rest)) w := by
  intro a ha
  have hw := skipped ha hG hs
  obtain ⟨h1, h2, h3⟩ := chk_spec hc
  unfold wpListIn
  rw [if_neg (by rw [hw]; simp)]
  refine ⟨fun f _ => Wide.fn f, ?_⟩
  rw [hd]
  exact h _ (ha.put h1 h2 h3 (by simp))
theorem lsn [Wide F] {s : Nat} {b : Bool} (hG : effG ops E o = some ((s, b) :: G)) (hs : look s E = some ([], .bool (!b))) (hd : o.dst = none)
    (h : Z N E D (wpListIn F n P ops Q rest) w) : Z N E D (wpListIn F n P ops Q (o :: rest)) w := by
  intro a ha
  have hw := skipped ha hG hs
  unfold wpListIn
  rw [if_neg (by rw [hw]; simp)]
  refine ⟨fun f _ => Wide.fn f, ?_⟩
  rw [hd]
  exact h _ ha

/-- a slot that is a known bool: what hangs on it is decided -/
def strip (s : Nat) (b : Bool) : Env → Env
  | [] => []
  | e :: E => (e.1, e.2.1.filter (fun g => !(Nat.beq g.1 s && beqB g.2 b)), e.2.2) :: strip s b E
theorem look_strip {s : Nat} {b : Bool} : ∀ {E : Env} {i : Nat} {gs : Guards} {v : Value}, look i (strip s b E) = some (gs, v) → ∃ gs', look i E = some (gs', v) ∧ gs = gs'.filter (fun g => !(Nat.beq g.1 s && beqB g.2 b))
  | (j, hs, u) :: E, i, gs, v, h => by
    unfold strip look at h
    unfold look
    cases hb : Nat.beq i j with
    | true =>
      simp only [hb, cond_true, Option.some.injEq, Prod.mk.injEq] at h ⊢
      exact ⟨hs, ⟨rfl, h.2⟩, h.1.symm⟩
    | false =>
      simp only [hb, cond_false] at h ⊢
      exact look_strip h

theorem yes0 {s : Nat} {t b : Bool} {E' : Env} (hl : look s E = some ([], .bool t)) (ht : t = b) (he : (s, [], .bool b) :: strip s b E = E') (h : Z N E' D K w) : Z N E D K w := by
  intro a ha
  subst ht
  refine h a ⟨ha.size, fun i gs v hi => ?_, ha.defers⟩
  have hs := ha.get _ _ _ hl
  rw [if_pos gnil] at hs
  rw [← he] at hi
  unfold look at hi
  cases hb : Nat.beq i s with
  | true =>
    simp only [hb, cond_true, Option.some.injEq, Prod.mk.injEq] at hi
    obtain ⟨rfl, rfl⟩ := hi
    obtain rfl := Nat.eq_of_beq_eq_true hb
    rw [if_pos gnil]
    exact hs
  | false =>
    simp only [hb, cond_false] at hi
    obtain ⟨gs', h1, rfl⟩ := look_strip hi
    have h2 := ha.get _ _ _ h1
    have h3 : gholds a gs' ↔ gholds a (gs'.filter (fun g => !(Nat.beq g.1 s && beqB g.2 t))) := by
      refine ⟨fun hh g hg => hh g (List.mem_filter.1 hg).1, fun hh g hg => ?_⟩
      cases hgb : (Nat.beq g.1 s && beqB g.2 t) with
      | true =>
        simp only [Bool.and_eq_true] at hgb
        have e1 := Nat.eq_of_beq_eq_true hgb.1
        have e2 := beqB_eq hgb.2
        rw [e1, e2]
        exact hs
      | false => exact hh g (List.mem_filter.2 ⟨hg, by rw [hgb]; rfl⟩)
    rw [h2]
    by_cases hh : gholds a gs'
    · rw [if_pos hh, if_pos (h3.1 hh)]
    · rw [if_neg hh, if_neg (fun e => hh (h3.2 e))]

/-- drops the guard from a list -/
def unG (s : Nat) (b : Bool) : Guards → Guards
  | [] => []
  | (i, c) :: G => bif Nat.beq i s && beqB c b then unG s b G else (i, c) :: unG s b G
theorem unG_eq (s : Nat) (b : Bool) : ∀ G : Guards, unG s b G = G.filter (fun g => !(Nat.beq g.1 s && beqB g.2 b))
  | [] => rfl
  | (i, c) :: G => by
    unfold unG
    rw [List.filter_cons, unG_eq s b G]
    cases h : (Nat.beq i s && beqB c b) <;> simp
def force (G : Guards) (k : Guards → Option Env) : Option Env :=
  match G with
  | [] => k []
  | g :: G => k (g :: G)
theorem force_eq (G : Guards) (k : Guards → Option Env) : force G k = k G := by cases G <;> rfl
def stripO (s : Nat) (b : Bool) : Env → Env → Option Env
  | [], acc => some acc
  | (i, gs, v) :: E, acc => match look i acc with
    | some _ => stripO s b E acc
    | none => force (unG s b gs) fun gs' => stripO s b E ((i, gs', v) :: acc)
theorem look_mem : ∀ {E : Env} {i : Nat} {p : Guards × Value}, look i E = some p → ∃ x ∈ E, x.1 = i ∧ x.2 = p
  | (j, gs, v) :: E, i, p, h => by
    unfold look at h
    cases hb : Nat.beq i j with
    | true =>
      simp only [hb, cond_true, Option.some.injEq] at h
      exact ⟨_, List.mem_cons_self, (Nat.eq_of_beq_eq_true hb).symm, h⟩
    | false =>
      simp only [hb, cond_false] at h
      obtain ⟨x, hx, h⟩ := look_mem h
      exact ⟨x, List.mem_cons_of_mem _ hx, h⟩
/-- what is told of each slot of acc or, if none, of E, is told of T -/
theorem stripO_sub {s : Nat} {b : Bool} {T E' : Env} : ∀ (E acc : Env), Sub acc T → (∀ i p, look i acc = none → look i (strip s b E) = some p → look i T = some p) → stripO s b E acc = some E' → Sub E' T
  | [], acc, h, _, e => by
    obtain rfl := Option.some.inj e
    exact h
  | (i, gs, v) :: E, acc, h, hT, e => by
    unfold stripO at e
    cases hl : look i acc with
    | some q =>
      rw [hl] at e
      refine stripO_sub E acc h (fun j p hj hp => hT j p hj ?_) e
      unfold strip look
      cases hb : Nat.beq j i with
      | true => rw [Nat.eq_of_beq_eq_true hb, hl] at hj; cases hj
      | false => exact hp
    | none =>
      rw [hl] at e
      simp only [force_eq] at e
      refine stripO_sub E ((i, unG s b gs, v) :: acc) ⟨hT i (unG s b gs, v) hl ?_, h⟩ (fun j p hj hp => hT j p ?_ ?_) e
      · unfold strip look
        simp [unG_eq]
      · unfold look at hj
        cases hb : Nat.beq j i with
        | true => simp [hb] at hj
        | false => simpa [hb] using hj
      · unfold look at hj
        unfold strip look
        cases hb : Nat.beq j i with
        | true => simp [hb] at hj
        | false => exact hp
theorem yes {s : Nat} {t b : Bool} {E' : Env} (hl : look s E = some ([], .bool t)) (ht : t = b) (he : stripO s b E [(s, [], .bool b)] = some E') (h : Z N E' D K w) : Z N E D K w := by
  refine yes0 hl ht rfl (forget (stripO_sub E [(s, [], .bool b)] ⟨?_, trivial⟩ (fun i p hi hp => ?_) he) h)
  · unfold look
    simp
  · unfold look at hi
    unfold look
    cases hb : Nat.beq i s with
    | true => simp [hb] at hi
    | false => exact hp

theorem split {s : Nat} {t : Bool} (hl : look s E = some ([], .bool t)) (h1 : t = true → Z N E D K w) (h2 : t = false → Z N E D K w) : Z N E D K w := by
  cases t
  · exact h2 rfl
  · exact h1 rfl

def cellsO : Value → Option (Array Value)
  | .agg cs => some cs
  | v => some #[v]
theorem cellsO_eq {u : Value} {cs : Array Value} (h : cellsO u = some cs) : u.cells = cs := by
  cases u <;> simp only [cellsO, Option.some.injEq] at h <;> rw [← h] <;> rfl
/-! ## what changes the world -/
theorem ZO.value [Wide F] (hdf : ∀ c, o.op ≠ .defer c) (hd : o.dst = some d) (hc : chk N d E [] = true) (hr : ∀ a, Holds a N E D → (execOp a.eval o).run P w = .ok (.value v) w')
    (h : Z N ((d, [], v) :: E) D K w') : ZO F n P N E D o K Q w := by
  intro a ha
  obtain ⟨h1, h2, h3⟩ := chk_spec hc
  refine ⟨fun f _ => Wide.fn f, ?_⟩
  rw [Oper.semAt_plain F _ o hdf, hr a ha]
  show K (a.put o.dst v) w'
  rw [hd]
  exact h _ (ha.put h1 h2 h3 (by rw [if_pos gnil]))
theorem ZO.unit [Wide F] (hdf : ∀ c, o.op ≠ .defer c) (hd : o.dst = none) (hr : ∀ a, Holds a N E D → (execOp a.eval o).run P w = .ok .skip w') (h : Z N E D K w') : ZO F n P N E D o K Q w := by
  intro a ha
  refine ⟨fun f _ => Wide.fn f, ?_⟩
  rw [Oper.semAt_plain F _ o hdf, hr a ha]
  show K (a.put o.dst undef) w'
  rw [hd]
  exact h _ ha
theorem ev0 (ha : Holds a N E D) (hx : ev E [] x = some v) : a.eval x = v := ev_eval ha (fun g hg => by cases hg) hx

/-- an operation that leaves the world alone, under guards that hold -/
theorem ZO.quiet [Wide F] (hd : o.dst = some d) (hc : chk N d E [] = true) (hS : S w) (y : Yd P N D S E [] o.op v) (h : Z N ((d, [], v) :: E) D K w) : ZO F n P N E D o K Q w :=
  ZO.value y.1 hd hc (fun a ha => y.2 a ha (fun g hg => by cases hg) o rfl w hS) h

theorem ZO.box [Wide F] {u : Value} {cs : Array Value} (ho : o.op = .box T x) (hd : o.dst = some d) (hc : chk N d E [] = true) (hx : ev E [] x = some u) (hu : cellsO u = some cs) (hs : SX.St w0 M w L)
    (h : ∀ g w', SX.St w0 M w' (SX.Ent.blk g T cs :: L) → Z N ((d, [], .pointer (some ⟨g, 0, none⟩)) :: E) D K w') : ZO F n P N E D o K Q w := by
  obtain rfl := cellsO_eq hu
  refine ZO.value (v := .pointer (some ⟨w.heap.size, 0, none⟩)) (w' := w.alloc (.cells u.cells T)) (by intro c e; rw [ho] at e; cases e) hd hc (fun a ha => ?_) (h _ _ (hs.alloc _))
  have h1 := ev0 ha hx
  simp [execOp, ho, h1, Instr.box, newVar, newRow]
theorem ZO.alloc [Wide F] {z : Value} {cs : Array Value} (ho : o.op = .alloc T) (hd : o.dst = some d) (hc : chk N d E [] = true) (hz : ∀ w, (zeroValue T).run P w = .ok z w) (hu : cellsO z = some cs) (hs : SX.St w0 M w L)
    (h : ∀ g w', SX.St w0 M w' (SX.Ent.blk g T cs :: L) → Z N ((d, [], .pointer (some ⟨g, 0, none⟩)) :: E) D K w') : ZO F n P N E D o K Q w := by
  obtain rfl := cellsO_eq hu
  refine ZO.value (v := .pointer (some ⟨w.heap.size, 0, none⟩)) (w' := w.alloc (.cells z.cells T)) (by intro c e; rw [ho] at e; cases e) hd hc (fun a ha => ?_) (h _ _ (hs.alloc _))
  simp [execOp, ho, Instr.alloc, hz, newVar, newRow]

/-- a slice literal -/
theorem ZO.lit [Wide F] {ps : Array (Nat × Operand)} {us : List (Nat × Value)} {len : Nat} {cs : Array Value} (ho : o.op = .buildSlice T len ps) (hd : o.dst = some d) (hc : chk N d E [] = true) (hx : evp E [] ps.toList = some us)
    (hr : ∀ W : World, (Instr.buildSlice T len us.toArray).run P W = .ok (.slice (some ⟨W.heap.size, 0, none⟩) len len) (W.alloc (.cells cs T'))) (hs : SX.St w0 M w L)
    (h : ∀ g w', SX.St w0 M w' (SX.Ent.blk g T' cs :: L) → Z N ((d, [], .slice (some ⟨g, 0, none⟩) len len) :: E) D K w') : ZO F n P N E D o K Q w := by
  refine ZO.value (v := .slice (some ⟨w.heap.size, 0, none⟩) len len) (w' := w.alloc (.cells cs T')) (by intro c e; rw [ho] at e; cases e) hd hc (fun a ha => ?_) (h _ _ (hs.alloc _))
  have := evp_arr ha (fun g hg => by cases hg) hx
  simp only [execOp, ho, this]
  rw [Sem.run_bind, hr]
  rfl

theorem ZO.make [Wide F] {lo co : Operand} {m size bytes : Nat} {kl kc : IntKind} {i0 : TypeInfo} {z : Value} (ho : o.op = .makeSlice T lo co) (hd : o.dst = some d) (hc : chk N d E [] = true) (hs : SX.St w0 M w L)
    (ht : P.underlying T = some (.slice T')) (hi : P.info? T' = some i0) (hz : i0.zero = some z) (hsize : i0.size = size) (hby : i0.bytes = bytes)
    (hl : ev E [] lo = some (.int kl (m : Int))) (hcc : ev E [] co = some (.int kc (m : Int))) (hbytes : bytes * m ≤ 281474976710656) (h63 : m ≤ maxLen)
    (h : ∀ g w', SX.St w0 M w' (SX.Ent.row (.slice (some ⟨g, 0, none⟩) m m) T' size m (madeCells z.cells (m * size)).toList :: L) → Z N ((d, [], .slice (some ⟨g, 0, none⟩) m m) :: E) D K w') : ZO F n P N E D o K Q w := by
  intro a ha
  obtain ⟨h1, h2, h3⟩ := chk_spec hc
  refine SX.mk_row ho hs ht hi hz hsize hby (ev0 ha hl) (ev0 ha hcc) hbytes h63 fun g w' hs' => ?_
  rw [hd]
  exact h g w' hs' _ (ha.put h1 h2 h3 (by rw [if_pos gnil]))

/-- the same, where an element is one cell -/
theorem ZO.make1 [Wide F] {lo co : Operand} {m bytes : Nat} {kl kc : IntKind} {i0 : TypeInfo} {z : Value} (ho : o.op = .makeSlice T lo co) (hd : o.dst = some d) (hc : chk N d E [] = true) (hs : SX.St w0 M w L)
    (ht : P.underlying T = some (.slice T')) (hi : P.info? T' = some i0) (hz : i0.zero = some z) (hsize : i0.size = 1) (hby : i0.bytes = bytes) (hz1 : cellsO z = some #[z])
    (hl : ev E [] lo = some (.int kl (m : Int))) (hcc : ev E [] co = some (.int kc (m : Int))) (hbytes : bytes * m ≤ 281474976710656) (h63 : m ≤ maxLen)
    (h : ∀ g w', SX.St w0 M w' (SX.Ent.row (.slice (some ⟨g, 0, none⟩) m m) T' 1 m (List.replicate m z) :: L) → Z N ((d, [], .slice (some ⟨g, 0, none⟩) m m) :: E) D K w') : ZO F n P N E D o K Q w :=
  ZO.make ho hd hc hs ht hi hz hsize hby hl hcc hbytes h63 fun g w' hs' => h g w' (by rw [cellsO_eq hz1, SX.madeCells_one, Nat.mul_one] at hs'; exact hs')

/-- one cell of a block of ours is stored -/
theorem ZO.store [Wide F] {u : Value} {g i j : Nat} {cs : Array Value} (ho : o.op = .store T x y) (hd : o.dst = none) (hs : SX.St w0 M w L) (hsz : ∀ w, (sizeOf T).run P w = .ok 1 w)
    (hx : ev E [] x = some (.pointer (some ⟨g, i, none⟩))) (hy : ev E [] y = some u) (h1 : u.oneCell' = true) (hj : L[j]? = some (SX.Ent.blk g T' cs)) (hi : i < cs.size)
    (h : ∀ w', SX.St w0 M w' (L.set j (SX.Ent.blk g T' (cs.setIfInBounds i u))) → Z N E D K w') : ZO F n P N E D o K Q w := by
  intro a ha
  refine SX.store_blk ho hs hsz (ev0 ha hx) (ev0 ha hy) h1 hj hi fun w' hs' => ?_
  rw [hd]
  exact h w' hs' a ha
/-- an aggregate is stored over a block of ours -/
theorem ZO.storeA [Wide F] {g j : Nat} {cs cs' : Array Value} (ho : o.op = .store T x y) (hd : o.dst = none) (hs : SX.St w0 M w L)
    (hx : ev E [] x = some (.pointer (some ⟨g, 0, none⟩))) (hy : ev E [] y = some (.agg cs')) (hsz : (P.info? T).map (·.size) = some cs'.size) (h1 : cs'.all (·.oneCell') = true) (hj : L[j]? = some (SX.Ent.blk g T' cs)) (hi : cs.size = cs'.size)
    (h : ∀ w', SX.St w0 M w' (L.set j (SX.Ent.blk g T' cs')) → Z N E D K w') : ZO F n P N E D o K Q w := by
  intro a ha
  refine SX.store_agg ho hs (ev0 ha hx) (ev0 ha hy) hsz h1 hj hi fun w' hs' => ?_
  rw [hd]
  exact h w' hs' a ha
/-- one cell of a row of ours is stored -/
theorem ZO.storeR [Wide F] {u : Value} {g i j kk cc size m : Nat} {xs : List Value} (ho : o.op = .store T x y) (hd : o.dst = none) (hs : SX.St w0 M w L) (hsz : ∀ w, (sizeOf T).run P w = .ok 1 w)
    (hx : ev E [] x = some (.pointer (some ⟨g, i, none⟩))) (hy : ev E [] y = some u) (h1 : u.oneCell' = true) (hj : L[j]? = some (SX.Ent.row (.slice (some ⟨g, 0, none⟩) kk cc) T' size m xs)) (hi : i < xs.length)
    (h : ∀ w', SX.St w0 M w' (L.set j (SX.Ent.row (.slice (some ⟨g, 0, none⟩) kk cc) T' size m (xs.set i u))) → Z N E D K w') : ZO F n P N E D o K Q w := by
  intro a ha
  refine SX.store_row ho hs hsz (ev0 ha hx) (ev0 ha hy) h1 hj hi fun w' hs' => ?_
  rw [hd]
  exact h w' hs' a ha

/-- append onto a row of ours; the new elements lie in a block of ours, which is dropped -/
theorem ZO.append [Wide F] {s z : Operand} {u : Value} {t kk m cc size bytes g' j j' : Nat} {xs : List Value} {cs : Array Value} {T'' : TypeId} {i0 : TypeInfo} {zv : Value}
    (ho : o.op = .call { callee := .builtin .append, args := #[s, z], argTypes := #[t, t] }) (hd : o.dst = some d) (hc : chk N d E [] = true) (hs : SX.St w0 M w L)
    (ht : P.underlying t = some (.slice T')) (hi : P.info? T' = some i0) (hz : i0.zero = some zv) (hsize : i0.size = size) (hby : i0.bytes = bytes) (hzs : zv.cells.size = size) (hpos : 0 < size)
    (hv : ev E [] s = some u) (hx : ev E [] z = some (.slice (some ⟨g', 0, none⟩) m cc)) (hj' : L[j']? = some (SX.Ent.blk g' T'' cs)) (hj : L[j]? = some (SX.Ent.row u T' size kk xs)) (hl : cs.toList.length = m * size)
    (h1 : ∀ u ∈ cs.toList, u.oneCell' = true) (hm : 0 < m) (h63 : kk + m ≤ maxLen) (hbytes : (kk + m) * bytes ≤ 140737488355328)
    (h : ∀ g cap w', SX.St w0 M w' ((L.set j (SX.Ent.row (.slice (some ⟨g, 0, none⟩) (kk + m) cap) T' size (kk + m) (xs ++ cs.toList))).eraseIdx j') → Z N ((d, [], .slice (some ⟨g, 0, none⟩) (kk + m) cap) :: E) D K w') : ZO F n P N E D o K Q w := by
  intro a ha
  obtain ⟨c1, c2, c3⟩ := chk_spec hc
  refine SX.append_blk ho hs ht hi hz hsize hby hzs hpos (ev0 ha hv) (ev0 ha hx) hj hj' hl h1 hm h63 hbytes fun g cap w' hs' => ?_
  rw [hd]
  exact h g cap w' hs' _ (ha.put c1 c2 c3 (by rw [if_pos gnil]))
/-- append onto a row of ours, from wherever -/
theorem ZO.appendS [Wide F] {s z : Operand} {u : Value} {t kk m cc size bytes j : Nat} {ad : Addr} {xs news : List Value} {i0 : TypeInfo} {zv : Value}
    (ho : o.op = .call { callee := .builtin .append, args := #[s, z], argTypes := #[t, t] }) (hd : o.dst = some d) (hc : chk N d E [] = true) (hs : SX.St w0 M w L)
    (ht : P.underlying t = some (.slice T')) (hi : P.info? T' = some i0) (hz : i0.zero = some zv) (hsize : i0.size = size) (hby : i0.bytes = bytes) (hzs : zv.cells.size = size) (hpos : 0 < size)
    (hv : ev E [] s = some u) (hx : ev E [] z = some (.slice (some ad) m cc)) (hj : L[j]? = some (SX.Ent.row u T' size kk xs)) (hl : news.length = m * size) (hn : ∀ i u, news[i]? = some u → w.cell? (ad.add i) = some u)
    (h1 : ∀ u ∈ news, u.oneCell' = true) (hm : 0 < m) (h63 : kk + m ≤ maxLen) (hbytes : (kk + m) * bytes ≤ 140737488355328)
    (h : ∀ g cap w', SX.St w0 M w' (L.set j (SX.Ent.row (.slice (some ⟨g, 0, none⟩) (kk + m) cap) T' size (kk + m) (xs ++ news))) → Z N ((d, [], .slice (some ⟨g, 0, none⟩) (kk + m) cap) :: E) D K w') : ZO F n P N E D o K Q w := by
  intro a ha
  obtain ⟨c1, c2, c3⟩ := chk_spec hc
  refine SX.append_row ho hs ht hi hz hsize hby hzs hpos (ev0 ha hv) (ev0 ha hx) hj hl hn h1 hm h63 hbytes fun g cap w' hs' => ?_
  rw [hd]
  exact h g cap w' hs' _ (ha.put c1 c2 c3 (by rw [if_pos gnil]))

/-- a call of a function value -/
theorem upon_call [Wider F] {as : Array Operand} {ts : Array TypeId} {first cap args : Array Value} {vs : List Value} {R : Ending → World → Prop} (ha : Holds a N E D)
    (ho : o.op = .call { callee := .value x, args := as, argTypes := ts }) (hx : ev E [] x = some (.func (.func k) first cap)) (hv : evs E [] as.toList = some vs) (hk : ∀ args w, (callFunc k args).run P w = .ok (.enter k args) w)
    (he : (first.toList ++ (vs ++ cap.toList)).toArray = args) (h : Calls P k args w R) (hR : ∀ e w', R e w' → match e with | .returned v => K (a.put o.dst v) w' | .panicked c => Q (.panic c) a w' | .outgrown => SX.NP Q .outgrown a w') (hQ : ∀ a w, SX.NP Q .outgrown a w → LetsOut Q) : o.wpIn F n P a w K Q := by
  refine ⟨fun f _ => Wide.fn f, ?_⟩
  rw [Oper.semAt_plain F _ o (by intro c hc; rw [ho] at hc; cases hc)]
  have hrun : (execOp a.eval o).run P w = .ok (.enter k args) w := by
    have h1 := ev0 ha hx
    have h2 := evs_eval ha (fun g hg => by cases hg) hv
    simp only [execOp, ho, resolve, Sem.run_bind, h1, Deferred.ofValue, Sem.run_pure, Result.andThen_ok, invoke, hk]
    rw [← he, ← h2]
    congr 2
    apply Array.ext'
    simp
  rw [hrun]
  refine ⟨fun h => (by rw [Wide.depth (F := F)] at h; cases h), CallsIn.mono (Wider.calls h) fun e w' hr => ?_⟩
  have := hR e w' hr
  cases e with
  | returned v => exact this
  | panicked c => exact this
  | outgrown => exact hQ _ _ this

theorem ZO.call [Wider F] {as : Array Operand} {ts : Array TypeId} {first cap args : Array Value} {vs : List Value} {Φ : Value → World → Prop}
    (ho : o.op = .call { callee := .value x, args := as, argTypes := ts }) (hd : o.dst = some d) (hc : chk N d E [] = true) (hx : ev E [] x = some (.func (.func k) first cap)) (hv : evs E [] as.toList = some vs) (hk : ∀ args w, (callFunc k args).run P w = .ok (.enter k args) w)
    (he : (first.toList ++ (vs ++ cap.toList)).toArray = args) (h : Calls P k args w (SX.Ret Φ)) (hR : ∀ v w', Φ v w' → Z N ((d, [], v) :: E) D K w') : ZO F n P N E D o K Q w := by
  intro a ha
  obtain ⟨c1, c2, c3⟩ := chk_spec hc
  refine upon_call ha ho hx hv hk he h (fun e w' hr => ?_) (fun a w h => ⟨a, w, h⟩)
  obtain ⟨v, rfl, hΦ⟩ := hr
  show K (a.put o.dst v) w'
  rw [hd]
  exact hR v w' hΦ _ (ha.put c1 c2 c3 (by rw [if_pos gnil]))
theorem ZO.calln [Wider F] {as : Array Operand} {ts : Array TypeId} {first cap args : Array Value} {vs : List Value} {Φ : Value → World → Prop}
    (ho : o.op = .call { callee := .value x, args := as, argTypes := ts }) (hd : o.dst = none) (hx : ev E [] x = some (.func (.func k) first cap)) (hv : evs E [] as.toList = some vs) (hk : ∀ args w, (callFunc k args).run P w = .ok (.enter k args) w)
    (he : (first.toList ++ (vs ++ cap.toList)).toArray = args) (h : Calls P k args w (SX.Ret Φ)) (hR : ∀ v w', Φ v w' → Z N E D K w') : ZO F n P N E D o K Q w := by
  intro a ha
  refine upon_call ha ho hx hv hk he h (fun e w' hr => ?_) (fun a w h => ⟨a, w, h⟩)
  obtain ⟨v, rfl, hΦ⟩ := hr
  show K (a.put o.dst v) w'
  rw [hd]
  exact hR v w' hΦ _ ha
/-- a call that panics -/
def Pan (Φ : List PanicEntry → World → Prop) (e : Ending) (w' : World) : Prop := ∃ c, e = .panicked c ∧ Φ c w'
theorem ZO.callP [Wider F] {as : Array Operand} {ts : Array TypeId} {first cap args : Array Value} {vs : List Value} {Φ : List PanicEntry → World → Prop}
    (ho : o.op = .call { callee := .value x, args := as, argTypes := ts }) (hx : ev E [] x = some (.func (.func k) first cap)) (hv : evs E [] as.toList = some vs) (hk : ∀ args w, (callFunc k args).run P w = .ok (.enter k args) w)
    (he : (first.toList ++ (vs ++ cap.toList)).toArray = args) (h : Calls P k args w (Pan Φ)) (hR : ∀ c w', Φ c w' → Z N E D (Q (.panic c)) w') : ZO F n P N E D o K Q w := by
  intro a ha
  refine upon_call ha ho hx hv hk he h (fun e w' hr => ?_) (fun a w h => ⟨a, w, h⟩)
  obtain ⟨c, rfl, hΦ⟩ := hr
  exact hR c w' hΦ _ ha
end Z
end Go.Proofs.Yteabcdmgklhijaa
