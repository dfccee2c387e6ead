/- Part 2 of the proofs that lead to the statement. -/
import Derived.Test.YtcieclifabbkjaaY1
import Derived.Test.YtcieclifabbkjaaRows
import Derived.WalkKit
import Derived.ProofKit
import Derived.OpenShut
import Derived.ShutString
import Derived.ChangeOld
import Derived.Below
/- Structs and arrays compared. -/
namespace Go.Proofs.Ytcieclifabbkjaa
open Go.RowKit
set_option linter.unusedVariables false
set_option linter.unusedSimpArgs false
namespace Z
/-- the shape of a type whose values are compared cell by cell -/
inductive Sh where
  | b | i | fn
  | st (l : Sh)
  | fc (off size : Nat) (h t : Sh)
  | ar (n size : Nat) (e : Sh)
def Sh.isA : Sh → Bool
  | .st _ => true
  | .ar _ _ _ => true
  | _ => false
def andO : Option Bool → Option Bool → Option Bool
  | some a, some b => some (a && b)
  | _, _ => none
/-- a part of a struct or array -/
def prt (ag : Bool) (off size : Nat) : Value → Option Value
  | .agg cs => bif ag then some (.agg ((cs.toList.drop off).take size).toArray) else nth cs.toList off
  | _ => none
def eqAr (f : Value → Value → Option Bool) (ag : Bool) (size : Nat) (x y : Value) : Nat → Nat → Option Bool
  | _, 0 => some true
  | i, n + 1 => match prt ag (i * size) size x, prt ag (i * size) size y with
    | some u, some v => andO (f u v) (eqAr f ag size x y (i + 1) n)
    | _, _ => none
def eqS : Sh → Value → Value → Option Bool
  | .b, .bool a, .bool b => some (a == b)
  | .i, .int k a, .int k' b => bif sameK k k' then some (a == b) else none
  | .st l, .agg xs, .agg ys => eqS l (.agg xs) (.agg ys)
  | .fn, _, _ => some true
  | .fc off size h t, x, y => match prt h.isA off size x, prt h.isA off size y with
    | some u, some v => andO (eqS h u v) (eqS t x y)
    | _, _ => none
  | .ar n size e, .agg xs, .agg ys => eqAr (fun u v => eqS e u v) e.isA size (.agg xs) (.agg ys) 0 n
  | _, _, _ => none
def szB (P : Program) (T size : Nat) : Bool := match P.info? T with
  | some i => Nat.beq i.size size
  | none => false
def isVal : Sh → Bool
  | .fn => false
  | .fc _ _ _ _ => false
  | _ => true
def okS (P : Program) : Sh → TypeId → List Field → Bool
  | .b, T, _ => match P.underlying T with
    | some .bool => true
    | _ => false
  | .i, T, _ => match P.underlying T with
    | some (.int _) => true
    | _ => false
  | .st l, T, _ => match P.underlying T with
    | some (.struct fs) => !P.stoodInHeld T && (okS P l 0 fs.toList && !isVal l)
    | _ => false
  | .fn, _, [] => true
  | .fc off size h t, _, f :: fs => f.name != "_" && (Nat.beq f.offset off && (okS P h f.type [] && (szB P f.type size && (okS P t 0 fs && (isVal h && !isVal t)))))
  | .ar n size e, T, _ => match P.underlying T with
    | some (.array m el) => Nat.beq n m && (okS P e el [] && (szB P el size && isVal e))
    | _ => false
  | _, _, _ => false
def dp : Sh → Nat
  | .b => 1
  | .i => 1
  | .fn => 0
  | .st l => dp l + 1
  | .fc _ _ h t => max (dp h) (dp t)
  | .ar _ _ e => dp e + 1
variable {P : Program} {w : World}
theorem szB_run {T size : Nat} (h : szB P T size = true) : (sizeOf T).run P w = .ok size w := by
  unfold szB at h
  split at h
  · rename_i i hi
    simp [Go.sizeOf, typeInfo, hi, Nat.eq_of_beq_eq_true h]
  · cases h
theorem isAgg_run {sh : Sh} {T : TypeId} (hv : isVal sh = true) (h : okS P sh T [] = true) : (isAgg T).run P w = .ok sh.isA w := by
  cases sh <;> simp only [okS] at h <;> try (simp [isVal] at hv; done)
  all_goals
    (split at h
     · rename_i hu; simp [isAgg, run_underlying hu, Sh.isA]
     · cases h)
theorem part_run {sh : Sh} {T : TypeId} {off size : Nat} {cs : Array Value} {u : Value} (hv : isVal sh = true) (h : okS P sh T [] = true) (hs : szB P T size = true) (hp : prt sh.isA off size (.agg cs) = some u) : (part T cs off).run P w = .ok u w := by
  unfold part
  simp only [Sem.run_bind, isAgg_run hv h, Result.andThen_ok]
  unfold prt at hp
  cases hA : sh.isA with
  | true =>
    rw [hA] at hp
    simp only [cond_true, Option.some.injEq] at hp
    subst hp
    simp only [if_true, Sem.run_bind, szB_run hs, Result.andThen_ok, Sem.run_pure]
    congr 2
    apply Array.ext'
    simp [List.take_drop, Nat.add_comm]
  | false =>
    rw [hA] at hp
    simp only [cond_false, nth_eq] at hp
    have : cs[off]? = some u := by simpa using hp
    simp [this]

def loopB : Option Bool × Unit → Bool
  | (some r, _) => r
  | (none, _) => true
/-- the loop over the fields -/
def FieldsRun (P : Program) (d : Nat) (xs ys : Array Value) (fs : List Field) (r : Bool) : Prop := ∀ w, ∃ z, (forIn (m := Sem) fs ((none, ()) : Option Bool × Unit) fun f __s =>
      if f.name ≠ "_" then do
        let __do_lift ← part f.type xs f.offset
        let __do_lift_1 ← part f.type ys f.offset
        let __do_lift ← Op.equalIn d f.type __do_lift __do_lift_1
        if (!__do_lift) = true then pure (ForInStep.done (some false, ())) else pure (ForInStep.yield (none, ()))
      else pure (ForInStep.yield (none, ()))).run P w = .ok z w ∧ loopB z = r
def ElemsRun (P : Program) (d : Nat) (e : TypeId) (size : Nat) (xs ys : Array Value) (is : List Nat) (r : Bool) : Prop := ∀ w, ∃ z, (forIn (m := Sem) is ((none, ()) : Option Bool × Unit) fun i __s => do
        let __do_lift ← part e xs (i * size)
        let __do_lift_1 ← part e ys (i * size)
        let __do_lift ← Op.equalIn d e __do_lift __do_lift_1
        if (!__do_lift) = true then pure (ForInStep.done (some false, ())) else pure (ForInStep.yield (none, ()))).run P w = .ok z w ∧ loopB z = r
theorem andO_some {a b : Option Bool} {r : Bool} (h : andO a b = some r) : ∃ x y, a = some x ∧ b = some y ∧ r = (x && y) := by
  cases a <;> cases b <;> simp [andO] at h
  exact ⟨_, _, rfl, rfl, h.symm⟩
theorem prt_agg {ag : Bool} {off size : Nat} {x u : Value} (h : prt ag off size x = some u) : ∃ cs, x = .agg cs := by
  cases x <;> simp [prt] at h
  exact ⟨_, rfl⟩
theorem elems_run {xs ys : Array Value} {d : Nat} {e : Sh} {el : TypeId} {size : Nat} (hv : isVal e = true) (hok : okS P e el [] = true) (hs : szB P el size = true)
    (H : ∀ x y r, eqS e x y = some r → ∀ w, (Op.equalIn d el x y).run P w = .ok r w) : ∀ (n i : Nat) (r : Bool), eqAr (fun u v => eqS e u v) e.isA size (.agg xs) (.agg ys) i n = some r → ElemsRun P d el size xs ys (List.range' i n) r := by
  intro n
  induction n with
  | zero =>
    intro i r he w
    simp [eqAr] at he
    subst he
    exact ⟨(none, ()), by simp, rfl⟩
  | succ n ih =>
    intro i r he w
    simp only [eqAr] at he
    cases hu : prt e.isA (i * size) size (.agg xs) with
    | none => rw [hu] at he; simp at he
    | some u =>
      cases hv2 : prt e.isA (i * size) size (.agg ys) with
      | none => rw [hu, hv2] at he; simp at he
      | some v =>
        rw [hu, hv2] at he
        simp only at he
        obtain ⟨a, b, ha, hb, rfl⟩ := andO_some he
        obtain ⟨z, hz, hzb⟩ := ih (i + 1) b hb w
        have p1 := part_run (w := w) hv hok hs hu
        have p2 := part_run (w := w) hv hok hs hv2
        have p3 := H u v a ha w
        rw [List.range'_succ]
        cases a with
        | true => exact ⟨z, by
            rw [List.forIn_cons]
            simp only [Sem.run_bind, p1, p2, p3, Result.andThen_ok, Bool.not_true, Bool.false_eq_true, if_false, Sem.run_pure]
            exact hz, by simp [hzb]⟩
        | false => exact ⟨(some false, ()), by simp [p1, p2, p3], rfl⟩
theorem eqS_run (sh : Sh) : (∀ T x y r d, isVal sh = true → dp sh ≤ d → okS P sh T [] = true → eqS sh x y = some r → ∀ w, (Op.equalIn d T x y).run P w = .ok r w) ∧
    (isVal sh = false → ∀ fs xs ys r d, dp sh ≤ d → okS P sh 0 fs = true → eqS sh (.agg xs) (.agg ys) = some r → FieldsRun P d xs ys fs r) := by
  induction sh with
  | b =>
    refine ⟨fun T x y r d _ hd hok he w => ?_, fun h => (by cases h)⟩
    obtain ⟨d, rfl⟩ : ∃ k, d = k + 1 := ⟨d - 1, by simp [dp] at hd; omega⟩
    simp only [okS] at hok
    split at hok
    · rename_i hu
      cases x <;> cases y <;> simp [eqS] at he
      subst he
      simp [Op.equalIn, run_underlying hu]
    · cases hok
  | i =>
    refine ⟨fun T x y r d _ hd hok he w => ?_, fun h => (by cases h)⟩
    obtain ⟨d, rfl⟩ : ∃ k, d = k + 1 := ⟨d - 1, by simp [dp] at hd; omega⟩
    simp only [okS] at hok
    split at hok
    · rename_i hu
      cases x <;> cases y <;> simp only [eqS] at he <;> first | (cases he; done) | skip
      rename_i k a k' b
      cases hk : sameK k k' with
      | false => rw [hk] at he; cases he
      | true =>
        rw [hk] at he
        simp only [cond_true, Option.some.injEq] at he
        subst he
        obtain rfl := sameK_eq hk
        simp [Op.equalIn, run_underlying hu]
    · cases hok
  | fn =>
    refine ⟨fun T x y r d h => (by cases h), fun _ fs xs ys r d _ hok he w => ?_⟩
    cases fs with
    | nil =>
      simp [eqS] at he
      subst he
      exact ⟨(none, ()), by simp, rfl⟩
    | cons f fs => simp [okS] at hok
  | st l ih =>
    refine ⟨fun T x y r d _ hd hok he w => ?_, fun h => (by cases h)⟩
    obtain ⟨d, rfl⟩ : ∃ k, d = k + 1 := ⟨d - 1, by simp [dp] at hd; omega⟩
    simp only [okS] at hok
    split at hok
    · rename_i fs hu
      simp only [Bool.and_eq_true, Bool.not_eq_true'] at hok
      obtain ⟨hst, hok, hl⟩ := hok
      cases x <;> cases y <;> simp only [eqS] at he <;> first | (cases he; done) | skip
      rename_i xs ys
      obtain ⟨z, hz, hzb⟩ := ih.2 hl fs.toList xs ys r d (by simp [dp] at hd; omega) hok he w
      simp only [Op.equalIn, Sem.run_bind, run_underlying hu, Result.andThen_ok, run_program, hst, Bool.false_eq_true, if_false]
      rw [← Array.forIn_toList, hz]
      simp only [Result.andThen_ok]
      obtain ⟨o, u⟩ := z
      cases o <;> simp [loopB] at hzb ⊢ <;> exact hzb
    · cases hok
  | fc off size h t ihh iht =>
    refine ⟨fun T x y r d h => (by cases h), fun _ fs xs ys r d hd hok he w => ?_⟩
    cases fs with
    | nil => simp [okS] at hok
    | cons f fs =>
      simp only [okS, Bool.and_eq_true, bne_iff_ne, ne_eq, Bool.not_eq_true'] at hok
      obtain ⟨h1, h2, h3, h4, h5, h6, h7⟩ := hok
      have hoff := Nat.eq_of_beq_eq_true h2
      simp only [eqS] at he
      cases hu : prt h.isA off size (.agg xs) with
      | none => rw [hu] at he; simp at he
      | some u =>
        cases hv2 : prt h.isA off size (.agg ys) with
        | none => rw [hu, hv2] at he; simp at he
        | some v =>
          rw [hu, hv2] at he
          simp only at he
          obtain ⟨a, b, ha, hb, rfl⟩ := andO_some he
          simp only [dp] at hd
          obtain ⟨z, hz, hzb⟩ := iht.2 h7 fs xs ys b d (by omega) h5 hb w
          rw [← hoff] at hu hv2
          have p1 := part_run (w := w) h6 h3 h4 hu
          have p2 := part_run (w := w) h6 h3 h4 hv2
          have p3 := ihh.1 f.type u v a d h6 (by omega) h3 ha w
          cases a with
          | true => exact ⟨z, by
              rw [List.forIn_cons, if_pos h1]
              simp only [Sem.run_bind, p1, p2, p3, Result.andThen_ok, Bool.not_true, Bool.false_eq_true, if_false, Sem.run_pure]
              exact hz, by simp [hzb]⟩
          | false => exact ⟨(some false, ()), by simp [h1, p1, p2, p3], rfl⟩
  | ar n size e ih =>
    refine ⟨fun T x y r d _ hd hok he w => ?_, fun h => (by cases h)⟩
    obtain ⟨d, rfl⟩ : ∃ k, d = k + 1 := ⟨d - 1, by simp [dp] at hd; omega⟩
    simp only [okS] at hok
    split at hok
    · rename_i m el hu
      simp only [Bool.and_eq_true] at hok
      obtain ⟨hn, hok, hsz, hv⟩ := hok
      have hn := Nat.eq_of_beq_eq_true hn
      subst hn
      cases x <;> cases y <;> simp only [eqS] at he <;> first | (cases he; done) | skip
      rename_i xs ys
      obtain ⟨z, hz, hzb⟩ := elems_run (xs := xs) (ys := ys) (d := d) hv hok hsz (fun x y r he w => ih.1 el x y r d hv (by simp [dp] at hd; omega) hok he w) n 0 r he w
      simp only [Op.equalIn, Sem.run_bind, run_underlying hu, Result.andThen_ok, szB_run hsz]
      rw [Std.Legacy.Range.forIn_eq_forIn_range']
      simp only [Std.Legacy.Range.size, Nat.sub_zero, Nat.add_sub_cancel, Nat.div_one]
      rw [hz]
      simp only [Result.andThen_ok]
      obtain ⟨o, u⟩ := z
      cases o <;> simp [loopB] at hzb ⊢ <;> exact hzb
    · cases hok

variable {N : Nat} {E : Env} {D : List Deferred} {G : Guards} {S : World → Prop} {x y : Operand} {T T' : TypeId} {u v : Value}
theorem equal_run (sh : Sh) {r : Bool} (hd : Nat.ble (dp sh) 100 = true) (hv : isVal sh = true) (hok : okS P sh T [] = true) (he : eqS sh u v = some r) : (Op.equal T u v).run P w = .ok r w :=
  (eqS_run sh).1 T u v r Op.maxDepth hv (Nat.le_trans (Nat.le_of_ble_eq_true hd) (by decide)) hok he w
theorem eqGuard_agg {op : BinOp} {xs ys : Array Value} (hg : P.eqGuardType P.depth T = false) : (eqGuard op T x y (.agg xs) (.agg ys)).run P w = .ok () w := by
  unfold eqGuard
  cases op <;> simp [run_program, hg]
theorem Yd.eqA (sh : Sh) {xs ys : Array Value} {r : Bool} (hx : ev E G x = some (.agg xs)) (hy : ev E G y = some (.agg ys)) (hd : Nat.ble (dp sh) 100 = true) (hv : isVal sh = true) (hok : okS P sh T [] = true) (hg : P.eqGuardType P.depth T = false) (he : eqS sh (.agg xs) (.agg ys) = some r) : Yd P N D S E G (.binOp .eql T x y T') (.bool r) :=
  Yd.bin hx hy fun _ w => by
    rw [Sem.run_bind, eqGuard_agg hg]
    simp [binOp, equal_run sh hd hv hok he]
theorem Yd.neA (sh : Sh) {xs ys : Array Value} {r : Bool} (hx : ev E G x = some (.agg xs)) (hy : ev E G y = some (.agg ys)) (hd : Nat.ble (dp sh) 100 = true) (hv : isVal sh = true) (hok : okS P sh T [] = true) (hg : P.eqGuardType P.depth T = false) (he : eqS sh (.agg xs) (.agg ys) = some r) : Yd P N D S E G (.binOp .neq T x y T') (.bool (!r)) :=
  Yd.bin hx hy fun _ w => by
    rw [Sem.run_bind, eqGuard_agg hg]
    simp [binOp, equal_run sh hd hv hok he]
/-- a function value is not nil -/
theorem Yd.fnNil {f : Fn} {a b : Array Value} {ps rs : Array TypeId} {vd : Bool} (hx : ev E G x = some (.func f a b)) (hy : ev E G y = some .nilFunc) (ht : P.underlying T = some (.func ps rs vd)) : Yd P N D S E G (.binOp .eql T x y T') (.bool false) :=
  Yd.bin hx hy fun _ w => by
    have : eqGuard .eql T x y (.func f a b) .nilFunc = Pure.pure () := rfl
    rw [this]
    have h : ∀ q, (Op.equalIn (q + 1) T (.func f a b) .nilFunc).run P w = .ok false w := fun q => by simp [Op.equalIn, run_underlying ht]
    simp only [binOp]
    simp [Op.equal, Op.maxDepth, h 9999]

/-! ## a struct stored in a part of a block or of a row -/
theorem putL_cons : ∀ (n : Nat) (v : Value) (vs l : List Value), n < l.length → putL n (v :: vs) l = putL (n + 1) vs (l.set n v)
  | 0, v, vs, [], h => by simp at h
  | 0, v, vs, x :: l, _ => by simp [putL]
  | n + 1, v, vs, [], h => by simp at h
  | n + 1, v, vs, x :: l, h => by
    simp only [putL, List.set_cons_succ]
    rw [putL_cons n v vs l (by simpa using h)]
theorem putL_nil : ∀ (n : Nat) (l : List Value), putL n [] l = l
  | 0, [] => rfl
  | 0, _ :: _ => rfl
  | _ + 1, [] => rfl
  | n + 1, x :: l => by simp [putL, putL_nil n l]
theorem putL_length : ∀ (n : Nat) (vs l : List Value), n + vs.length ≤ l.length → (putL n vs l).length = l.length
  | n, [], l, _ => by rw [putL_nil]
  | n, v :: vs, l, h => by
    simp only [List.length_cons] at h
    rw [putL_cons n v vs l (by omega), putL_length (n + 1) vs _ (by simp; omega), List.length_set]
/-- what is put in place by place -/
theorem putL_eq : ∀ (n : Nat) (vs l : List Value), n + vs.length ≤ l.length → putL n vs l = l.take n ++ vs ++ l.drop (n + vs.length)
  | n, [], l, _ => by rw [putL_nil]; simp
  | n, v :: vs, l, h => by
    simp only [List.length_cons] at h
    rw [putL_cons n v vs l (by omega), putL_eq (n + 1) vs _ (by simp; omega)]
    rw [List.take_set, List.drop_set_of_lt (by omega), List.take_add_one, List.getElem?_eq_getElem (by omega)]
    rw [List.set_append_right _ _ (by simp; omega)]
    simp only [List.length_take, Nat.min_eq_left (show n ≤ l.length by omega), Nat.sub_self, Option.toList, List.set_cons_zero, List.length_cons]
    simp [Nat.add_assoc, Nat.add_comm 1]
variable {M : List Nat} {L : List SX.Ent} {w0 : World}
theorem storeCells_blk {g T' o j : Nat} : ∀ (vs : List Value) (i : Nat) (w : World) (L : List SX.Ent) (cs : List Value), SX.St w0 M w L → L[j]? = some (SX.Ent.blk g T' cs.toArray) → (∀ u ∈ vs, u.oneCell' = true) → o + i + vs.length ≤ cs.length →
    ∃ w', (storeCells ⟨g, o, none⟩ vs i).run P w = .ok () w' ∧ SX.St w0 M w' (L.set j (SX.Ent.blk g T' (putL (o + i) vs cs).toArray))
  | [], i, w, L, cs, hs, hj, _, _ => ⟨w, by simp [storeCells], by
      rw [putL_nil]
      have hjl := (List.getElem?_eq_some_iff.1 hj)
      obtain ⟨h1, h2⟩ := hjl
      rw [← h2, List.set_getElem_self]
      exact hs⟩
  | v :: vs, i, w, L, cs, hs, hj, h1, hl => by
    simp only [List.length_cons] at hl
    have hjl := (List.getElem?_eq_some_iff.1 hj).1
    have hc : w.cell? ⟨g, o + i, none⟩ = some (cs[o + i]'(by omega)) := (SX.cell_blk (hs.blk hj) (o + i)).trans (by simp)
    have hf : w.frozen? ⟨g, o + i, none⟩ = false := SX.frozen_blk (hs.blk hj) (o + i)
    have hs2 := hs.set (i := o + i) hj v
    rw [List.setIfInBounds_toArray] at hs2
    obtain ⟨w', hrun, hs3⟩ := storeCells_blk (g := g) (T' := T') (o := o) (j := j) vs (i + 1) _ _ (cs.set (o + i) v) hs2 (by simp [hjl]) (fun u hu => h1 u (by simp [hu])) (by simp; omega)
    refine ⟨w', ?_, ?_⟩
    · simp only [storeCells, add_none, Sem.run_bind, run_store P w ⟨g, o + i, none⟩ v _ (h1 v (by simp)), hc, hf]
      simpa using hrun
    · rw [List.set_set] at hs3
      rw [putL_cons _ _ _ _ (by omega)]
      exact hs3
theorem storeCells_row {g T' o j kk cc size m : Nat} : ∀ (vs : List Value) (i : Nat) (w : World) (L : List SX.Ent) (cs : List Value), SX.St w0 M w L → L[j]? = some (SX.Ent.row (.slice (some ⟨g, 0, none⟩) kk cc) T' size m cs) → (∀ u ∈ vs, u.oneCell' = true) → o + i + vs.length ≤ cs.length →
    ∃ w', (storeCells ⟨g, o, none⟩ vs i).run P w = .ok () w' ∧ SX.St w0 M w' (L.set j (SX.Ent.row (.slice (some ⟨g, 0, none⟩) kk cc) T' size m (putL (o + i) vs cs)))
  | [], i, w, L, cs, hs, hj, _, _ => ⟨w, by simp [storeCells], by
      rw [putL_nil]
      have hjl := (List.getElem?_eq_some_iff.1 hj)
      obtain ⟨h1, h2⟩ := hjl
      rw [← h2, List.set_getElem_self]
      exact hs⟩
  | v :: vs, i, w, L, cs, hs, hj, h1, hl => by
    simp only [List.length_cons] at hl
    have hjl := (List.getElem?_eq_some_iff.1 hj).1
    have hc : w.cell? ⟨g, o + i, none⟩ = some (cs[o + i]'(by omega)) := SX.row_cell hs hj (by simp)
    have hf : w.frozen? ⟨g, o + i, none⟩ = false := SX.row_frozen hs hj
    have hs2 := SX.row_set (i := o + i) hs hj v
    obtain ⟨w', hrun, hs3⟩ := storeCells_row (g := g) (T' := T') (o := o) (j := j) (kk := kk) (cc := cc) (size := size) (m := m) vs (i + 1) _ _ (cs.set (o + i) v) hs2 (by simp [hjl]) (fun u hu => h1 u (by simp [hu])) (by simp; omega)
    refine ⟨w', ?_, ?_⟩
    · simp only [storeCells, add_none, Sem.run_bind, run_store P w ⟨g, o + i, none⟩ v _ (h1 v (by simp)), hc, hf]
      simpa using hrun
    · rw [List.set_set] at hs3
      rw [putL_cons _ _ _ _ (by omega)]
      exact hs3
theorem storeVar_run {a : Addr} {vs : List Value} {w' : World} (hsz : (P.info? T).map (·.size) = some vs.length) (h : (storeCells a vs 0).run P w = .ok () w') : (storeVar T a (.agg vs.toArray)).run P w = .ok () w' := by
  cases hq : P.info? T with
  | none => simp [hq] at hsz
  | some i =>
    have hi : i.size = vs.length := by simpa [hq] using hsz
    simp [storeVar, Go.sizeOf, typeInfo, hq, hi, Value.cells, h]
variable {F : Fence} {n : Nat} {o : Oper} {K : Act → World → Prop} {Q : Exit → Act → World → Prop}
theorem ZO.storeP [Wide F] {g off j : Nat} {cs vs : List Value} (ho : o.op = .store T x y) (hd : o.dst = none) (hs : SX.St w0 M w L)
    (hx : ev E [] x = some (.pointer (some ⟨g, off, none⟩))) (hy : ev E [] y = some (.agg vs.toArray)) (hsz : (P.info? T).map (·.size) = some vs.length) (h1 : (vs.toArray).all (·.oneCell') = true) (hj : L[j]? = some (SX.Ent.blk g T' cs.toArray)) (hi : off + vs.length ≤ cs.length)
    (h : ∀ w', SX.St w0 M w' (L.set j (SX.Ent.blk g T' (putL off vs cs).toArray)) → Z N E D K w') : ZO F n P N E D o K Q w := by
  obtain ⟨w', hrun, hs'⟩ := storeCells_blk (P := P) (o := off) vs 0 w L cs hs hj (fun u hu => by rw [List.all_toArray] at h1; exact List.all_eq_true.1 h1 u hu) (by omega)
  exact ZO.unit (by intro c e; rw [ho] at e; cases e) hd (fun a ha => by simp [execOp, ho, ev0 ha hx, ev0 ha hy, Instr.storeAt, Instr.sureAddr, storeVar_run hsz hrun]) (h w' hs')
theorem ZO.storePR [Wide F] {g off j kk cc size m : Nat} {cs vs : List Value} (ho : o.op = .store T x y) (hd : o.dst = none) (hs : SX.St w0 M w L)
    (hx : ev E [] x = some (.pointer (some ⟨g, off, none⟩))) (hy : ev E [] y = some (.agg vs.toArray)) (hsz : (P.info? T).map (·.size) = some vs.length) (h1 : (vs.toArray).all (·.oneCell') = true) (hj : L[j]? = some (SX.Ent.row (.slice (some ⟨g, 0, none⟩) kk cc) T' size m cs)) (hi : off + vs.length ≤ cs.length)
    (h : ∀ w', SX.St w0 M w' (L.set j (SX.Ent.row (.slice (some ⟨g, 0, none⟩) kk cc) T' size m (putL off vs cs))) → Z N E D K w') : ZO F n P N E D o K Q w := by
  obtain ⟨w', hrun, hs'⟩ := storeCells_row (P := P) (o := off) vs 0 w L cs hs hj (fun u hu => by rw [List.all_toArray] at h1; exact List.all_eq_true.1 h1 u hu) (by omega)
  exact ZO.unit (by intro c e; rw [ho] at e; cases e) hd (fun a ha => by simp [execOp, ho, ev0 ha hx, ev0 ha hy, Instr.storeAt, Instr.sureAddr, storeVar_run hsz hrun]) (h w' hs')
end Z
end Go.Proofs.Ytcieclifabbkjaa

/- Iterators used inside of loops: the marks are carried along. -/
namespace Go.Proofs.Ytcieclifabbkjaa
open Go.RowKit
set_option linter.unusedVariables false
set_option linter.unusedSimpArgs false
namespace Z
variable {N : Nat} {E E' : Env} {D : List Deferred} {a : Act} {G : Guards} {F : Fence} {n : Nat} {P : Program} {o : Oper} {v : Value}
variable {K : Act → World → Prop} {Q : Exit → Act → World → Prop} {w w' w0 : World} {x y : Code} {d k : Nat} {f : FuncId} {M : List Nat} {L L1 L2 : List SX.Ent}
/-- a mark among the calls put off, and its object -/
def mkD (d : Nat) : Deferred := { target := .collected d, args := #[] }
def mkE (d : Nat) : SX.Ent := SX.Ent.obj d (.deferred (some []))
theorem loopD {ι : Type} (Dm : ι → List Deferred) (is : List Nat) {E0 : Env} (hk : keepO E is [] = some E0) (envm : ι → Env) (I : ι → World → Prop) (μ : ι → Nat) (i0 : ι) (hD : Dm i0 = D) (hE : Sub (envm i0) E) (h0 : I i0 w)
    (round : ∀ i w, I i w → Z N (envm i ++ E0) (Dm i) (x.wpIn F n P (Exit.then (fun a' w' => ∃ j, Holds a' N (envm j ++ E0) (Dm j) ∧ I j w' ∧ μ j < μ i) Q)) w) : Z N E D ((Code.loop x).wpIn F n P Q) w := by
  classical
  intro a ha
  subst hD
  have hleast : ∀ a w, (∃ i, Holds a N (envm i ++ E0) (Dm i) ∧ I i w) → ∃ m, (∃ i, Holds a N (envm i ++ E0) (Dm i) ∧ I i w ∧ μ i = m) ∧ ∀ k, (∃ i, Holds a N (envm i ++ E0) (Dm i) ∧ I i w ∧ μ i = k) → m ≤ k :=
    fun a w ⟨i, h1, h2⟩ => least (p := fun m => ∃ i, Holds a N (envm i ++ E0) (Dm i) ∧ I i w ∧ μ i = m) ⟨i, h1, h2, rfl⟩
  let μ' : Act → World → Nat := fun a w => if h : ∃ i, Holds a N (envm i ++ E0) (Dm i) ∧ I i w then Classical.choose (hleast a w h) else 0
  refine wpIn_loop (fun a w => ∃ i, Holds a N (envm i ++ E0) (Dm i) ∧ I i w) μ' ⟨i0, ha.sub (Sub.append hE (keepO_sub E is [] trivial hk)), h0⟩ fun a w hi => ?_
  obtain ⟨⟨i, h1, h2, h3⟩, -⟩ := Classical.choose_spec (hleast a w hi)
  have hm : μ' a w = μ i := by simp only [μ', dif_pos hi]; exact h3.symm
  refine wpIn_mono (round i w h2 a h1) fun e a' w' hq => ?_
  cases e with
  | normal =>
    obtain ⟨j, hj1, hj2, hj3⟩ := hq
    refine ⟨⟨j, hj1, hj2⟩, ?_⟩
    have hex' : ∃ i, Holds a' N (envm i ++ E0) (Dm i) ∧ I i w' := ⟨j, hj1, hj2⟩
    have : μ' a' w' ≤ μ j := by simp only [μ', dif_pos hex']; exact (Classical.choose_spec (hleast a' w' hex')).2 _ ⟨j, hj1, hj2, rfl⟩
    rw [hm]
    omega
  | exit _ => exact hq
  | goto _ => exact hq
  | ret => exact hq
  | panic _ => exact hq
  | outgrown => exact hq
theorem againD {ι : Type} {Dm : ι → List Deferred} {env : ι → Env} {I : ι → World → Prop} {μ : ι → Nat} {i : ι} (j : ι) (hD : D = Dm j) (hE : Sub (env j) E) (hI : I j w) (hμ : μ j < μ i) :
    Z N E D (fun a' w' => ∃ j, Holds a' N (env j) (Dm j) ∧ I j w' ∧ μ j < μ i) w := fun a ha => ⟨j, hD ▸ ha.sub hE, hI, hμ⟩

theorem leaveMs {fn : Func} {R : Ending → World → Prop} {tmps : Array Value} {v : Value} : ∀ (ds : List Nat) (w : World), SX.St w0 M w (ds.map mkE ++ L) → (∀ w', SX.St w0 M w' L → (results fn tmps).run P w' = .ok v w' ∧ R (.returned v) w') →
    LeavesInM Fence.wide 0 P fn tmps R (ds.map mkD) .returning w
  | [], w, hs, h => ⟨v, (h w hs).1, (h w hs).2⟩
  | d :: ds, w, hs, h => by
    have hs1 : SX.St w0 M w (([] : List SX.Ent) ++ SX.Ent.obj d (.deferred (some [])) :: (ds.map mkE ++ L)) := hs
    refine ⟨by simp, .inl ⟨d, _, rfl, run_takeDeferred hs1.getMid, ?_⟩⟩
    exact leaveMs ds _ (hs1.putMid (.deferred none)).tl h
theorem outMs {fn : Func} {R : Ending → World → Prop} {vs : List Value} (ds : List Nat) (L : List SX.Ent) (hs : SX.St w0 M w (ds.map mkE ++ L)) (h : ∀ w', SX.St w0 M w' L → RV P w' E fn.results.toList vs) (hR : ∀ w', SX.St w0 M w' L → R (.returned (pack vs)) w') :
    Z N E (ds.map mkD) (bodyPostM Fence.wide 0 P fn R .ret) w := fun a ha => by
  show LeavesInM Fence.wide 0 P fn a.tmps R a.defers .returning w
  rw [ha.defers]
  exact leaveMs ds w hs fun w' hs' => ⟨results_run ha (h w' hs') rfl, hR w' hs'⟩
theorem outMsn {fn : Func} {R : Ending → World → Prop} {vs : List Value} (ds : List Nat) (L : List SX.Ent) (hs : SX.St w0 M w (ds.map mkE ++ L)) (h : ∀ w', SX.St w0 M w' L → RV P w' E fn.results.toList vs) (hR : ∀ w', SX.St w0 M w' L → R (.returned (pack vs)) w') :
    Z N E (ds.map mkD) (bodyPostM Fence.wide 0 P fn R .normal) w := outMs ds L hs h hR
/-- the new mark is put to the others -/
theorem marksEnd {ds : List Nat} {d : Nat} (hs : SX.St w0 M w ((L ++ ds.map mkE) ++ [SX.Ent.obj d (.deferred (some []))])) : SX.St w0 M w (L ++ (d :: ds).map mkE) := by
  refine hs.perm ?_
  rw [List.append_assoc]
  exact List.Perm.append_left _ (List.perm_append_comm (l₁ := [mkE d]))
theorem marksFront {ds : List Nat} (hs : SX.St w0 M w (L ++ ds.map mkE)) : SX.St w0 M w (ds.map mkE ++ L) := hs.rot
/-- a struct of a row of ours -/
theorem cellsRf {α : Type} {enc : α → List Value} {s : Nat} {xs : List α} {g kk cc T m i : Nat} {x : α} {cs : List Value} (hm : SX.Ent.row (.slice (some ⟨g, 0, none⟩) kk cc) T s m (xs.flatMap enc) ∈ L) (hs : ∀ x, (enc x).length = s) (hx : xs[i]? = some x) (hcs : enc x = cs) :
    ∀ w, SX.Keep w0 M L w → ∀ j u, cs[j]? = some u → w.cell? ⟨g, 0 + (i : Int).toNat * s + j, none⟩ = some u := fun w hk j u hu => cellR hm (flat_pos hs hx (by rw [hcs]; exact hu)) w hk

/-! ## drawn regions out of which a panic may come, in a function that puts calls off -/
def PQd (Q : Exit → Act → World → Prop) (d : Nat) : Prop := ∀ (c : List PanicEntry) (a : Act) (u : Value) (w : World), Q (.panic c) (a.put (some d) u) w → Q (.panic c) a w
theorem tXD [Wide F] {ops : Array Oper} {S : World → Prop} {Dn : Nat → Bool} {done : List Nat} (i : Nat) (T : List Nat) (hQ : PQd Q d) (hi : ops[i]? = some o) (hG : effG ops E o = some G) (hd : o.dst = some d) (hc : chk N d E G = true) (hm : (left ops done && SX.mayTakeT .any ops Dn (flags ops.size done) i T) = true)
    (hS : S w) (y : Yd P N D S E G o.op v) (h : Z N ((d, G, v) :: E) D (wpP F n P ops Q S Dn (i :: done)) w) : Z N E D (wpP F n P ops Q S Dn done) w := by
  classical
  simp only [Bool.and_eq_true] at hm
  intro a ha
  obtain ⟨h1, h2, h3⟩ := chk_spec hc
  have hw := wanted_of (ops := ops) (o := o) ha hG
  unfold wpP
  rw [fuel_eq (i := i) hm.1]
  have hmt := hm.2
  obtain ⟨q1, q2, q3, q4⟩ := SX.mayTakeT_spec hmt hi
  have hmt' := hmt
  simp only [SX.mayTakeT, Bool.and_eq_true] at hmt'
  obtain ⟨⟨⟨⟨⟨⟨⟨k1, k2⟩, k3⟩, -⟩, -⟩, -⟩, -⟩, k8⟩ := hmt'
  have hQ' : ∀ u : Value, ∀ c a w, Q (.panic c) (a.put o.dst u) w → Q (.panic c) a w := fun u c a w h => by rw [hd] at h; exact hQ c a u w h
  by_cases hg : gholds a G
  · exact SX.wpAnyS_firstT (fun j => T.contains j) k3 (fun f => Wide.fn f) hi (Region.noSelect_spec k1) (SX.noDefer_spec k2) q1 q2 (hQ' v) _ _ a w q3 q4 (by simpa using k8) (.inl ⟨hw.2 hg, fun w hS => y.2 a ha hg o rfl w hS⟩) hS (by
      rw [hd]
      exact h _ (ha.put h1 h2 h3 (by rw [if_pos hg])))
  · exact SX.wpAnyS_firstT (fun j => T.contains j) k3 (fun f => Wide.fn f) hi (Region.noSelect_spec k1) (SX.noDefer_spec k2) q1 q2 (hQ' undef) _ _ a w q3 q4 (by simpa using k8) (.inr ⟨(by
      cases hb : Region.wanted o (yielded ops a.tmps) with
      | false => rfl
      | true => exact absurd (hw.1 hb) hg), rfl⟩) hS (by
      rw [hd]
      exact h _ (ha.put h1 h2 h3 (by rw [if_neg hg])))
def slotR : ResultVar → Nat
  | .tmp t => t
  | .cell a _ => a
theorem mapM_same {α β : Type} : ∀ (l : List α) (f g : α → Sem β), (∀ x ∈ l, f x = g x) → l.mapM f = l.mapM g
  | [], _, _, _ => rfl
  | x :: l, f, g, h => by
    rw [List.mapM_cons, List.mapM_cons, h x (by simp), mapM_same l f g fun y hy => h y (by simp [hy])]
theorem results_put {fn : Func} {tmps : Array Value} {u : Value} (h : fn.results.toList.all (fun r => slotR r != d) = true) : results fn (tmps.setIfInBounds d u) = results fn tmps := by
  have h2 : ∀ (f : ResultVar → Sem Value), (fn.results.mapM f) = (do let l ← fn.results.toList.mapM f; Pure.pure l.toArray) := fun f => by
    rw [Array.mapM_eq_mapM_toList]
    simp [Functor.map]
  unfold results
  rw [h2, h2]
  congr 1
  congr 1
  refine mapM_same _ _ _ fun r hr => ?_
  have hne : slotR r ≠ d := by simpa using List.all_eq_true.1 h r hr
  have hg : ∀ t, t ≠ d → (tmps.setIfInBounds d u).getD t undef = tmps.getD t undef := fun t ht => by
    simp [Array.getD_eq_getD_getElem?, Array.getElem?_setIfInBounds, Ne.symm ht]
  cases r with
  | tmp t => simp only [slotR] at hne; simp only [hg t hne]
  | cell a t => simp only [slotR] at hne; simp only [hg a hne]
theorem leaves_same {fn : Func} {R : Ending → World → Prop} {t t' : Array Value} (ht : results fn t = results fn t') : ∀ (ds : List Deferred) (m : FrameMode) (w : World), LeavesIn F n P fn t R ds m w → LeavesIn F n P fn t' R ds m w
  | [], .returning, w => fun ⟨v, h1, h2⟩ => ⟨v, ht ▸ h1, h2⟩
  | [], .panicking c, w => id
  | [], .run, w => id
  | d :: ds, m, w => fun ⟨h1, h2, fv, cap, f, args, a1, a2, a3, hc⟩ => ⟨h1, h2, fv, cap, f, args, a1, a2, a3, CallsDIn.mono hc fun e u' w' h => by
    cases e with
    | returned v => exact leaves_same ht ds _ _ h
    | panicked c => exact leaves_same ht ds _ _ h
    | outgrown => exact h⟩
theorem leaves_put {fn : Func} {R : Ending → World → Prop} {tmps : Array Value} {u : Value} {ds : List Deferred} {m : FrameMode} (hr : fn.results.toList.all (fun r => slotR r != d) = true) (h : LeavesIn F n P fn (tmps.setIfInBounds d u) R ds m w) : LeavesIn F n P fn tmps R ds m w :=
  leaves_same (results_put hr) ds m w h
theorem tnSPG [Wide F] {ops : Array Oper} {S : World → Prop} {Dn : Nat → Bool} {done : List Nat} (s : Nat) (b : Bool) (i : Nat) (hi : ops[i]? = some o) (hm : left ops done = true) (hr : Region.ready .any ops (flags ops.size done) = [i]) (hG : effG ops E o = some G) (hs : look s E = some ([], .bool (!b))) (hmem : (s, b) ∈ G)
    (hd : o.dst = some d) (hc : chk N d E G = true) (hS : Dn i = true → S w) (h : Z N ((d, G, undef) :: E) D (wpP F n P ops Q S Dn (i :: done)) w) : Z N E D (wpP F n P ops Q S Dn done) w := by
  intro a ha
  unfold wpP
  rw [fuel_eq (i := i) hm]
  refine ⟨fun h0 => (by rw [hr] at h0; cases h0), fun k hk => ?_⟩
  rw [hr] at hk
  obtain rfl : k = i := by simpa using hk
  obtain ⟨h1, h2, h3⟩ := chk_spec hc
  have hnot := not_holds ha hs hmem
  have hw : Region.wanted o (yielded ops a.tmps) = false := by
    cases hb : Region.wanted o (yielded ops a.tmps) with
    | false => rfl
    | true => exact absurd ((wanted_of (ops := ops) (o := o) ha hG).1 hb) hnot
  unfold Go.wpOpIn
  simp only [hi, hw, Bool.false_eq_true, if_false]
  refine ⟨fun f _ => Wide.fn f, hS, ?_⟩
  rw [hd]
  exact h _ (ha.put h1 h2 h3 (by rw [if_neg hnot]))
end Z
end Go.Proofs.Ytcieclifabbkjaa

/- Iterators over iterators: a round of the one calls the other's round. -/
namespace Go.Proofs.Ytcieclifabbkjaa
open Go.RowKit
set_option linter.unusedVariables false
set_option linter.unusedSimpArgs false
namespace SX
variable {w0 w w' : World} {M : List Nat} {L1 L2 L3 : List Ent}
theorem St.swap (h : St w0 M w (L1 ++ (L2 ++ L3))) : St w0 M w (L2 ++ (L1 ++ L3)) := h.perm (by
  rw [← List.append_assoc, ← List.append_assoc]
  exact List.Perm.append_right _ List.perm_append_comm)
/-- a choice among the first things -/
theorem St.selT (h : St w0 M w (L1 ++ L2)) (is : List Nat) (hnd : is.Nodup) : St w0 M w (is.filterMap (L1[·]?) ++ L2) := by
  have h1 := h.lend.sel is hnd
  refine h.comp (N := idsOf L1) ⟨h1.os, h1.tape, h1.output, h1.size, h1.nodup, h1.new, h1.ok, h1.old⟩ (fun _ hb => hb)
end SX
namespace Z
/-- marks behind what an iterator leans on, and back -/
theorem toRange {w0 w : World} {M : List Nat} {C E0 : List SX.Ent} {ds : List Nat} (h : SX.St w0 M w (C ++ (E0 ++ ds.map mkE))) : SX.St w0 M w ((C ++ ds.map mkE) ++ E0) := h.perm (by
  rw [List.append_assoc]
  exact List.Perm.append_left _ List.perm_append_comm)
theorem fromRange {w0 w : World} {M : List Nat} {C E0 : List SX.Ent} {ds : List Nat} {d : Nat} (h : SX.St w0 M w ((C ++ ds.map mkE) ++ (SX.Ent.obj d (.deferred (some [])) :: E0))) : SX.St w0 M w (C ++ (E0 ++ (d :: ds).map mkE)) := h.perm (by
  rw [List.append_assoc]
  refine List.Perm.append_left _ ?_
  refine List.Perm.trans List.perm_middle ?_
  refine List.Perm.trans (List.Perm.cons _ List.perm_append_comm) ?_
  exact List.perm_middle.symm)
variable {N : Nat} {E E' : Env} {D : List Deferred} {a : Act} {G : Guards} {F : Fence} {n : Nat} {P : Program} {S : World → Prop} {ops : Array Oper} {o : Oper} {v : Value}
variable {K : Act → World → Prop} {Q : Exit → Act → World → Prop} {w w' w0 : World} {rest : List Oper} {M : List Nat} {L L1 L2 : List SX.Ent} {x : Operand} {d : Nat}
theorem yieldIn {l l' : Nat} {args : Array Value} {R : Ending → World → Prop} (h : YieldAt Fence.wide 0 P l args w R) : YieldAt (Fence.wide.inRound l') 0 P l args w R := h
/-- a call of yield in a round -/
theorem ZO.yieldIn {l l' : Nat} {asz : Array Operand} {ts : Array TypeId} {vs : List Value} {args : Array Value} {Rp : Ending → World → Prop}
    (ho : o.op = .call { callee := .value x, args := asz, argTypes := ts }) (hd : o.dst = some d) (hc : chk N d E [] = true) (hx : ev E [] x = some (.func (.yield l) #[] #[])) (hv : evs E [] asz.toList = some vs) (he : vs.toArray = args)
    (hY : YieldAt Fence.wide 0 P l args w Rp) (hK : ∀ e w', Rp e w' → ∃ v, e = .returned v ∧ Z N ((d, [], v) :: E) D K w') : ZO (Fence.wide.inRound l') 0 P N E D o K Q w := by
  intro a ha
  obtain ⟨c1, c2, c3⟩ := chk_spec hc
  have hx' := ev0 ha hx
  have hargs : (asz.toList.map a.eval).toArray = args := by rw [evs_eval ha gnil hv, he]
  refine ⟨fun f _ => trivial, ?_⟩
  rw [Oper.semAt_plain (Fence.wide.inRound l') _ o (by intro c hc; rw [ho] at hc; cases hc)]
  obtain ⟨fn, tmps, assign, body, hy, hR⟩ := hY
  have hrun : (execOp a.eval o).run P w = .ok (.round l fn tmps assign body) w := by
    simp only [execOp, ho, resolve, Sem.run_bind, hx', Deferred.ofValue, Sem.run_pure, Result.andThen_ok, invoke]
    rw [← hy, ← hargs]
    congr 2
    apply Array.ext'
    simp
  rw [hrun]
  have hR2 : RoundIn (Fence.wide.inRound l') 0 P l fn tmps assign body w Rp := hR
  refine ⟨fun h => (by cases h), hR2.mono fun e w' hr => ?_⟩
  obtain ⟨v, rfl, hk⟩ := hK e w' hr
  show K (a.put o.dst v) w'
  rw [hd]
  exact hk _ (ha.put c1 c2 c3 (by rw [if_pos gnil]))
end Z
end Go.Proofs.Ytcieclifabbkjaa

/- What every row needs. -/
namespace Go.Proofs.Ytcieclifabbkjaa
open Go.ChangeShapes Go.WideShapes Go.ChangeAt Go.RowKit
theorem pown : ownKnob Try.prog.godebug = none := by kernel_rfl
theorem plaidOut : laidOutB Try.prog = true := by kernel_rfl
end Go.Proofs.Ytcieclifabbkjaa
