/- Part 2 of the proofs that lead to the statement. -/
import Derived.Test.YtbojkoiopkaciaaGreatY1
import Derived.MapKept
import Derived.Lib.ConvBytes
import Derived.ArgAppend
import Derived.Lib.SlBytesConst
import Derived.Test.YtbojkoiopkaciaaGreatRows
import Derived.WalkKit
import Derived.ProofKit
import Derived.OpenShut
import Derived.ShutString
import Derived.ChangeOld
import Derived.Below
/- Maps of ours whose keys are integers. -/
namespace Go.Proofs.YtbojkoiopkaciaaGreat
open Go.RowKit
set_option linter.unusedVariables false
set_option linter.unusedSimpArgs false
namespace SX
variable {w0 w w' : World} {M : List Nat} {L L1 L2 : List Ent}
/-- the entries es are those of l -/
def mpOk (k : IntKind) (l : List (Int × Value)) (es : Array MapEntry) : Prop := es.toList.map (fun e => (e.key, e.val)) = l.map fun p => (Value.int k p.1, p.2)
/-- Block g is a map from integers: l, in the order of insertion. -/
def Ent.mp (g : Nat) (k : IntKind) (l : List (Int × Value)) : Ent where
  ids := [g]
  ok w := ∃ es clock, w.heap[g]? = some (.map es clock) ∧ mpOk k l es
  loc w w' h hk := by rw [h g (by simp)]; exact hk
  lt w h b hb := by
    obtain rfl : b = g := by simpa using hb
    obtain ⟨es, clock, h, -⟩ := h
    exact lt_of_some h
theorem St.mkMap (h : St w0 M w L) (k : IntKind) : St w0 M (w.alloc (.map #[] 0)) (Ent.mp w.heap.size k [] :: L) :=
  h.add rfl rfl rfl (by simp) (fun _ hb => heap_alloc_old w _ hb) (by simp [Ent.mp]) (by simp [Ent.mp]) ⟨#[], 0, heap_alloc_new w _, rfl⟩
end SX
/-- what the map holds at a key -/
def mlk (l : List (Int × Value)) (a : Int) : Option Value := (l.find? fun p => p.1 == a).map (·.2)
theorem findNow_int (kd k : IntKind) (a : Int) : ∀ (es : List MapEntry) (l : List (Int × Value)) (i : Nat), es.map (fun e => (e.key, e.val)) = l.map (fun p => (Value.int k p.1, p.2)) →
    ∃ r, Instr.findNow (.int kd) (.int k a) es i = some r ∧ r.map (·.2) = mlk l a
  | [], [], i, _ => ⟨none, rfl, rfl⟩
  | [], p :: l, i, h => by simp at h
  | e :: es, [], i, h => by simp at h
  | e :: es, p :: l, i, h => by
    simp only [List.map_cons, List.cons.injEq, Prod.mk.injEq] at h
    obtain ⟨⟨h1, h2⟩, h3⟩ := h
    unfold Instr.findNow
    rw [h1]
    simp only [Instr.sameNow, if_true]
    by_cases hp : a = p.1
    · subst hp
      refine ⟨some (i, e.val), by simp, ?_⟩
      simp [mlk, h2]
    · have e1 : (a == p.1) = false := by simpa using hp
      have e2 : (p.1 == a) = false := by simp; exact fun h => hp h.symm
      rw [e1]
      obtain ⟨r, hr, hm⟩ := findNow_int kd k a es l (i + 1) h3
      refine ⟨r, hr, ?_⟩
      rw [hm]
      simp [mlk, List.find?_cons, e2]
namespace Z
variable {N : Nat} {E E' : Env} {D : List Deferred} {a : Act} {G : Guards} {F : Fence} {n : Nat} {P : Program} {S : World → Prop} {ops : Array Oper} {o : Oper} {v : Value}
variable {K : Act → World → Prop} {Q : Exit → Act → World → Prop} {w w' w0 : World} {M : List Nat} {L : List SX.Ent} {x y z : Operand} {d : Nat} {T T' kt et : TypeId} {k kd : IntKind}
theorem checkKey_int (b : Bool) {v : Value} (ht : P.underlying kt = some (.int kd)) (c : Int) : (Instr.checkKey b 10000 kt (.int k c)).run P w = .ok () w := by
  show (Instr.checkKey b (9999 + 1) kt (.int k c)).run P w = _
  unfold Instr.checkKey
  simp [run_underlying ht]
/-- make(map[K]V) -/
theorem ZO.mkMap [Wide F] (ho : o.op = .makeMap T none) (hd : o.dst = some d) (hc : chk N d E [] = true) (hs : SX.St w0 M w L) (k : IntKind)
    (h : ∀ g w', SX.St w0 M w' (SX.Ent.mp g k [] :: L) → Z N ((d, [], .map (some g)) :: E) D K w') : ZO F n P N E D o K Q w := by
  refine ZO.value (v := .map (some w.heap.size)) (w' := w.alloc (.map #[] 0)) (by intro c e; rw [ho] at e; cases e) hd hc (fun a ha => ?_) (h _ _ (hs.mkMap k))
  simp [execOp, ho, Instr.makeMap]
theorem findKey_int {l : List (Int × Value)} {es : Array MapEntry} (ht : P.underlying kt = some (.int kd)) (hes : SX.mpOk k l es) (c : Int) :
    ∃ r, (Instr.findKey kt (.int k c) es.toList).run P w = .ok r w ∧ r.map (·.2) = mlk l c := by
  obtain ⟨r, h1, h2⟩ := findNow_int kd k c es.toList l 0 hes
  refine ⟨r, ?_, h2⟩
  unfold Instr.findKey
  simp [run_underlying ht, h1]
/-- a new key -/
theorem ZO.insert [Wide F] {g j : Nat} {l : List (Int × Value)} {c : Int} {u : Value} (ho : o.op = .insert T x y z) (hd : o.dst = none) (hs : SX.St w0 M w L) (hx : ev E [] x = some (.map (some g))) (hy : ev E [] y = some (.int k c)) (hz : ev E [] z = some u)
    (ht : P.underlying T = some (.map kt et)) (hk : P.underlying kt = some (.int kd)) (hj : L[j]? = some (SX.Ent.mp g k l)) (hn : (mlk l c).isNone = true)
    (h : ∀ w', SX.St w0 M w' (L.set j (SX.Ent.mp g k (l ++ [(c, u)]))) → Z N E D K w') : ZO F n P N E D o K Q w := by
  obtain ⟨es, clock, hb, hes⟩ := hs.get hj
  obtain ⟨r, hr, hm⟩ := findKey_int (P := P) (w := w) hk hes c
  have hr0 : r = none := by
    cases r with
    | none => rfl
    | some p => simp at hm; rw [← hm] at hn; cases hn
  subst hr0
  have hput : SX.St w0 M (w.putObj g (.map (es.push { key := .int k c, val := u, born := clock }) (clock + 1))) (L.set j (SX.Ent.mp g k (l ++ [(c, u)]))) := by
    refine SX.St.back hj ((hs.front hj).step rfl rfl rfl (by simp) (fun b _ hne => ?_) (by simp [SX.Ent.mp]) (by simp [SX.Ent.mp]) ?_)
    · exact World.putObj_heap_other (by simpa [SX.Ent.mp] using hne)
    · refine ⟨_, _, World.putObj_heap_same (SX.lt_of_some hb), ?_⟩
      unfold SX.mpOk at hes ⊢
      simp [hes]
  refine ZO.unit (w' := w.putObj g (.map (es.push { key := .int k c, val := u, born := clock }) (clock + 1))) (by intro c e; rw [ho] at e; cases e) hd (fun a ha => ?_) (h _ hput)
  have h1 := ev0 ha hx
  have h2 := ev0 ha hy
  have h3 := ev0 ha hz
  have h4 : (Instr.mapUpdate T (.map (some g)) (.int k c) u).run P w = .ok () (w.putObj g (.map (es.push { key := .int k c, val := u, born := clock }) (clock + 1))) := by
    unfold Instr.mapUpdate
    simp [run_underlying ht, MapKept.run_getObj_map hb, checkKey_int (v := .int k c) false hk, hr, MapKept.run_setObj_map _ hb, World.putObj]
  simp only [execOp, ho, h1, h2, h3]
  rw [Sem.run_bind, h4]
  rfl
/-- m[k], with ok -/
theorem Yd.lookupT {g : Nat} {l : List (Int × Value)} {c : Int} {zv : Value} (hx : ev E G x = some (.map (some g))) (hy : ev E G y = some (.int k c)) (ht : P.underlying T = some (.map kt et)) (hk : P.underlying kt = some (.int kd)) (hz : ∀ w, (zeroValue et).run P w = .ok zv w)
    (hm : SX.Ent.mp g k l ∈ L) : Yd P N D (SX.Keep w0 M L) E G (.lookup T x y true) (.tuple #[(mlk l c).getD zv, .bool (mlk l c).isSome]) := by
  refine ⟨(by intro c e; cases e), fun a ha hg o ho w hS => ?_⟩
  obtain ⟨L', hs, hsub⟩ := hS
  obtain ⟨es, clock, hb, hes⟩ := hs.ok _ (hsub _ hm)
  obtain ⟨r, hr, hmm⟩ := findKey_int (P := P) (w := w) hk hes c
  have h1 := ev_eval ha hg hx
  have h2 := ev_eval ha hg hy
  have h4 : (Instr.lookup T (.map (some g)) (.int k c) true).run P w = .ok (.tuple #[(mlk l c).getD zv, .bool (mlk l c).isSome]) w := by
    unfold Instr.lookup
    cases r with
    | none =>
      simp at hmm
      simp [run_underlying ht, MapKept.run_getObj_map hb, checkKey_int (v := .int k c) _ hk, hr, hz, ← hmm]
    | some p =>
      simp at hmm
      simp [run_underlying ht, MapKept.run_getObj_map hb, checkKey_int (v := .int k c) _ hk, hr, ← hmm]
  simp only [execOp, ho, h1, h2]
  rw [Sem.run_bind, h4]
  rfl
end Z
end Go.Proofs.YtbojkoiopkaciaaGreat

/- Zeros appended to a row of ours: append(s, make([]T, n)...). -/
namespace Go.Proofs.YtbojkoiopkaciaaGreat
open Go.RowKit
set_option linter.unusedVariables false
set_option linter.unusedSimpArgs false
theorem zeroCells_one (z : Value) (n : Nat) : (Builtin.zeroCells #[z] n) = (List.replicate n z).toArray := by
  apply Array.ext'
  apply List.ext_getElem?
  intro i
  by_cases h : i < n
  · simp [Builtin.zeroCells, List.getElem?_replicate, h, Nat.mod_one]
  · rw [List.getElem?_eq_none (by simp [Builtin.zeroCells]; omega), List.getElem?_eq_none (by simp; omega)]
theorem wrap_nat {m : Nat} (h : m ≤ 140737488355328) : IntKind.i64.wrap (m : Int) = (m : Int) := Z.wi64 (by omega)
theorem run_appendZ {P : Program} (w : World) (t ti ty e : TypeId) (i : TypeInfo) (z : Value) (k kd : IntKind) (ht : P.underlying t = some (.slice e)) (hti : P.underlying ti = some (.int kd)) (hi : P.info? e = some i) (hz : i.zero = some z)
    (hsize : i.size = 1) (hby : i.bytes = 1) (hzs : z.cells = #[z]) (h1 : z.oneCell' = true) (v : Value) (n : Nat) (xs : List Value) (hown : w.ownsRow 0 e 1 v n xs) (m : Nat) (hm : n + m ≤ 140737488355328) :
    ∃ v' w', (Builtin.append_ #[t, ti] ty #[v, .int k (m : Int)]).run P w = .ok v' w' ∧ w'.ownsRow 0 e 1 v' (n + m) (xs ++ List.replicate m z) ∧ w.grownBy w' v.ownBlock ∧ (v'.ownBlock = v.ownBlock ∨ v'.ownBlock = some w.heap.size) := by
  have hw := wrap_nat (m := m) (by omega)
  have h48 : ¬ (281474976710656 < (m : Int)) := by omega
  have hw0 : IntKind.i64.wrap 0 = 0 := rfl
  have hneg : ¬ ((m : Int) < 0) := by omega
  have hmx : n + m ≤ maxLen := by unfold maxLen; omega
  have hlen : (xs ++ List.replicate m z).length = (n + m) * 1 := by rw [List.length_append, hown.1, List.length_replicate]; omega
  have grown : ∀ (old : Nat), old < n + m → ∀ (row : Option Nat),
      (w.drew.alloc (.cells (xs.toArray ++ (List.replicate m z).toArray ++ Builtin.zeroCells z.cells (grownCap w (n + m) old e - (n + m))) e)).ownsRow 0 e 1
        (.slice (some ⟨w.heap.size, 0, none⟩) (n + m) (grownCap w (n + m) old e)) (n + m) (xs ++ List.replicate m z) ∧
      w.grownBy (w.drew.alloc (.cells (xs.toArray ++ (List.replicate m z).toArray ++ Builtin.zeroCells z.cells (grownCap w (n + m) old e - (n + m))) e)) row := by
    intro old ho row
    have hge := grownCap_ge w (n + m) old e
    have hcm : grownCap w (n + m) old e ≤ maxLen := grownCap_le_maxLen w (n + m) old e hmx
    have hx := hown.1
    refine ⟨⟨hlen, .inr ⟨w.heap.size, _, _, rfl, Nat.zero_le _, heap_alloc_new w.drew _, hge, hcm, ?_, ?_⟩⟩, ⟨rfl, rfl, rfl, by simp, fun k hk _ => heap_alloc_old w.drew _ hk⟩⟩
    · simp only [Array.size_append, List.size_toArray, size_zeroCells, hzs, List.length_replicate, List.length_cons, List.length_nil]
      omega
    · simp only [Array.toList_append, List.append_assoc]
      rw [← List.append_assoc, ← hlen]
      exact List.take_left
  rcases hown.2 with ⟨rfl, rfl⟩ | ⟨g, cap, cur, rfl, hbg, hg, hnc, hcm, hcs, htake⟩
  · have hx : xs = [] := List.eq_nil_of_length_eq_zero (by simpa using hown.1)
    subst hx
    by_cases hm0 : m = 0
    · subst hm0
      refine ⟨.slice none 0 0, w, ?_, by simpa using World.ownsRow_nil w 0 e 1, ⟨rfl, rfl, rfl, Nat.le_refl _, fun _ _ _ => rfl⟩, Or.inl rfl⟩
      simp [Builtin.append_, run_underlying ht, run_underlying hti, sizeOf, typeInfo, hi, asIntOf, asInt, hw, hw0, hby, hsize]
    · have hgr := grown 0 (by omega) (Value.ownBlock (.slice none 0 0))
      simp only [Nat.zero_add, List.nil_append, Array.empty_append] at hgr ⊢
      refine ⟨_, _, ?_, hgr.1, hgr.2, Or.inr rfl⟩
      have h63' : ¬ (9223372036854775807 < (m : Int)) := by omega
      have h48' : ¬ (281474976710656 < Builtin.nextslicecap m 0) := by rw [nextslicecap_zero (by omega)]; omega
      simp [Builtin.append_, run_underlying ht, run_underlying hti, sizeOf, typeInfo, zeroValue, hi, hz, asIntOf, asInt, hw, hw0, hby, hsize, hm0, h48, hneg, h63', h48', Question.forced, run_firstCells_none, newRow, grownCap, hzs, zeroCells_one]
  · by_cases hroom : n + m ≤ cap
    · have hfit : n * 1 + (List.replicate m z).length ≤ cur.size := by rw [List.length_replicate, hcs]; omega
      have hst := run_storeCells_at P g (n * 1) e (List.replicate m z) 0 cur w hg (by simpa using hfit) (fun u hu => by rw [(List.mem_replicate.1 hu).2]; exact h1)
      have hr : (Builtin.append_ #[t, ti] ty #[.slice (some ⟨g, 0, none⟩) n cap, .int k (m : Int)]).run P w = .ok (.slice (some ⟨g, 0, none⟩) (n + m) cap) (w.setRow g (cur.toList.take (n * 1) ++ List.replicate m z ++ cur.toList.drop (n * 1 + (List.replicate m z).length)).toArray) := by
        simp only [Nat.add_zero, Nat.mul_one, List.length_replicate] at hst
        by_cases hm0 : m = 0
        · subst hm0
          simp only [List.replicate_zero] at hst ⊢
          simp [Builtin.append_, run_underlying ht, run_underlying hti, sizeOf, typeInfo, hi, asIntOf, asInt, hw, hw0, hby, hsize, hroom, hnc, Addr.add_lit, hst]
        · simp [Builtin.append_, run_underlying ht, run_underlying hti, sizeOf, typeInfo, zeroValue, hi, hz, asIntOf, asInt, hw, hw0, hby, hsize, hm0, h48, hneg, hroom, Addr.add_lit, hzs, zeroCells_one, hst]
      refine ⟨_, _, hr, ⟨hlen, .inr ⟨g, cap, _, rfl, hbg, setRow_heap w g cur _ e _ hg, hroom, hcm, ?_, ?_⟩⟩, ⟨rfl, rfl, rfl, by simp, fun k _ hk => setRow_other w g k _ (fun e => hk (by simp [Value.ownBlock, e]))⟩, Or.inl rfl⟩
      · simp only [List.size_toArray, List.length_append, List.length_take, List.length_drop, Array.length_toList]
        omega
      · rw [htake, ← hlen]
        exact List.take_left
    · have holds : ∀ j u, xs[j]? = some u → w.cell? ((⟨g, 0, none⟩ : Addr).add j) = some u := hown.cells (g := g) rfl
      have hfo := run_firstCells_some (P := P) w.drew 1 n ⟨g, 0, none⟩ n cap xs hown.1 (by simpa using holds)
      have hgr := grown cap (by omega) (Value.ownBlock (.slice (some ⟨g, 0, none⟩) n cap))
      refine ⟨_, _, ?_, hgr.1, hgr.2, Or.inr rfl⟩
      have hn : ¬ (n + m ≤ cap) := hroom
      have h63' : ¬ (9223372036854775807 < ((n : Int) + (m : Int))) := by omega
      have h48' : ¬ (281474976710656 < Builtin.nextslicecap (n + m) cap) := by
        have := growslice_fits (need := n + m) (old := cap) (bytes := 1) (by omega) (by omega)
        omega
      have hm0 : ¬ m = 0 := by omega
      simp [Builtin.append_, run_underlying ht, run_underlying hti, sizeOf, typeInfo, zeroValue, hi, hz, asIntOf, asInt, hw, hw0, hby, hsize, hm0, h48, hneg, hn, h63', h48', Question.forced, hfo, newRow, grownCap, hzs, zeroCells_one]
      try (congr 2; apply Array.ext'; simp [List.append_assoc])
namespace Z
variable {N : Nat} {E E' : Env} {D : List Deferred} {a : Act} {G : Guards} {F : Fence} {n : Nat} {P : Program} {S : World → Prop} {ops : Array Oper} {o : Oper} {v : Value}
variable {K : Act → World → Prop} {Q : Exit → Act → World → Prop} {w w' w0 : World} {M : List Nat} {L : List SX.Ent} {x : Operand} {d : Nat} {T' : TypeId}
/-- append(s, make([]T, m)...) -/
theorem ZO.appendZ [Wide F] {s z : Operand} {t ti : TypeId} {kk m j : Nat} {k kd : IntKind} {c : Int} {xs : List Value} {i0 : TypeInfo} {zv : Value}
    (ho : o.op = .call { callee := .builtin .append, args := #[s, z], argTypes := #[t, ti] }) (hd : o.dst = some d) (hc : chk N d E [] = true) (hs : SX.St w0 M w L)
    (ht : P.underlying t = some (.slice T')) (hti : P.underlying ti = some (.int kd)) (hi : P.info? T' = some i0) (hz : i0.zero = some zv) (hsize : i0.size = 1) (hby : i0.bytes = 1) (hzs : zv.cells = #[zv]) (h1 : zv.oneCell' = true)
    (hv : ev E [] s = some v) (hx : ev E [] z = some (.int k c)) (hj : L[j]? = some (SX.Ent.row v T' 1 kk xs)) (hcm : c = (m : Int)) (hbytes : kk + m ≤ 140737488355328)
    (h : ∀ v' w', SX.St w0 M w' (L.set j (SX.Ent.row v' T' 1 (kk + m) (xs ++ List.replicate m zv))) → Z N ((d, [], v') :: E) D K w') : ZO F n P N E D o K Q w := by
  subst hcm
  intro a ha
  obtain ⟨c1, c2, c3⟩ := chk_spec hc
  have hr : w.ownsRow 0 T' 1 v kk xs := hs.get hj
  obtain ⟨v', w', hrun, h2, h3, h5⟩ := run_appendZ (P := P) w t ti o.type T' i0 zv k kd ht hti hi hz hsize hby hzs h1 v kk xs hr m hbytes
  refine ⟨fun f _ => Wide.fn f, ?_⟩
  rw [Oper.semAt_plain F _ _ (by intro c hc; rw [ho] at hc; cases hc)]
  simp only [execOp, ho, resolve, invoke, builtin, Sem.run_bind, Sem.run_pure, Result.andThen_ok, List.map_toArray, List.map_cons, List.map_nil, ev0 ha hv, ev0 ha hx, hrun]
  have hst : SX.St w0 M w' (L.set j (SX.Ent.row v' T' 1 (kk + m) (xs ++ List.replicate m zv))) := SX.St.back hj ((hs.front hj).step h3.os h3.tape h3.output h3.size (fun b hb hne => h3.block b hb (fun e => hne (by simp [SX.Ent.row, ← e])))
    (by cases h : v'.ownBlock <;> simp [SX.Ent.row, h]) (fun b hb => by
      have hb' : v'.ownBlock = some b := by
        cases h : v'.ownBlock with
        | none => simp [SX.Ent.row, h] at hb
        | some q => simp [SX.Ent.row, h] at hb; rw [hb]
      rcases h5 with h5 | h5
      · left
        rw [h5] at hb'
        simp [SX.Ent.row, hb']
      · right
        rw [h5] at hb'
        simp only [Option.some.injEq] at hb'
        omega) h2)
  show K (a.put o.dst v') w'
  rw [hd]
  exact h v' w' hst _ (ha.put c1 c2 c3 (by rw [if_pos gnil]))
end Z
end Go.Proofs.YtbojkoiopkaciaaGreat

/- Bytes of a string: []byte(s), read only. -/
namespace Go.Proofs.YtbojkoiopkaciaaGreat
open Go.RowKit
set_option linter.unusedVariables false
set_option linter.unusedSimpArgs false
namespace Z
variable {N : Nat} {E : Env} {D : List Deferred} {F : Fence} {n : Nat} {P : Program} {o : Oper}
variable {K : Act → World → Prop} {Q : Exit → Act → World → Prop} {w w0 : World} {M : List Nat} {L : List SX.Ent}
variable {x : Operand} {T T' : TypeId} {d : Nat}
end Z
end Go.Proofs.YtbojkoiopkaciaaGreat

/- append onto a slice without room: a row of our own. -/
namespace Go.Proofs.YtbojkoiopkaciaaGreat
open Go.RowKit
set_option linter.unusedVariables false
set_option linter.unusedSimpArgs false
namespace Z
variable {N : Nat} {E : Env} {D : List Deferred} {F : Fence} {nn : Nat} {P : Program} {o : Oper}
variable {K : Act → World → Prop} {Q : Exit → Act → World → Prop} {w w0 : World} {M : List Nat} {L : List SX.Ent} {d : Nat}
theorem St.ownNew {w' : World} {T size k : Nat} {v : Value} {xs : List Value} (hs : SX.St w0 M w L) (h1 : w'.ownsRow w.heap.size T size v k xs) (h2 : w.grownBy w' none) : SX.St w0 M w' (SX.Ent.row v T size k xs :: L) := by
  have hr : w'.ownsRow 0 T size v k xs := by
    rcases h1 with ⟨a, ⟨rfl, b⟩ | ⟨g, cap, cur, e, hb, r⟩⟩
    · exact ⟨a, .inl ⟨rfl, b⟩⟩
    · exact ⟨a, .inr ⟨g, cap, cur, e, Nat.zero_le _, r⟩⟩
  refine hs.add (e' := SX.Ent.row v T size k xs) h2.os h2.tape h2.output h2.size (fun b hb => h2.block b hb (by simp)) ?_ (fun b hb => ?_) hr
  · cases h : v.ownBlock <;> simp [SX.Ent.row, h]
  · rcases h1.2 with ⟨rfl, _⟩ | ⟨g, cap, cur, rfl, hb2, _⟩
    · simp [SX.Ent.row, Value.ownBlock] at hb
    · simp [SX.Ent.row, Value.ownBlock] at hb
      omega
theorem ZO.appendF [Wide F] {s z : Operand} {T' t : TypeId} {ao A : Option Addr} {n cap m c size bytes : Nat} {olds news : List Value} {i0 : TypeInfo} {zv : Value}
    (ho : o.op = .call { callee := .builtin .append, args := #[s, z], argTypes := #[t, t] }) (hd : o.dst = some d) (hc : chk N d E [] = true) (hs : SX.St w0 M w L)
    (ht : P.underlying t = some (.slice T')) (hi : P.info? T' = some i0) (hz : i0.zero = some zv) (hsize : i0.size = size) (hby : i0.bytes = bytes) (hzs : zv.cells.size = size) (hpos : 0 < size)
    (hv : ev E [] s = some (.slice ao n cap)) (hx : ev E [] z = some (.slice A m c)) (hnone : ao = none → n = 0 ∧ cap = 0) (hlo : olds.length = n * size) (holds : Sl w ao olds) (hl : news.length = m * size) (hn : Sl w A news)
    (h1 : ∀ u ∈ news, u.oneCell' = true) (hm : 0 < m) (hfull : cap < n + m) (h63 : n + m ≤ maxLen) (hbytes : (n + m) * bytes ≤ 140737488355328)
    (h : ∀ v' w', SX.St w0 M w' (SX.Ent.row v' T' size (n + m) (olds ++ news) :: L) → Z N ((d, [], v') :: E) D K w') : ZO F nn P N E D o K Q w := by
  intro a ha
  obtain ⟨c1, c2, c3⟩ := chk_spec hc
  obtain ⟨b, off, rfl, hb, hcell⟩ := hn (by rw [hl]; exact Nat.mul_pos hm hpos)
  have hnews : ∀ j u, news[j]? = some u → w.cell? ((⟨b, off, none⟩ : Addr).add j) = some u := fun j u hu => by rw [add_none]; exact hcell j u hu
  have run : ∃ v' w', (Builtin.append_ #[t, t] o.type #[.slice ao n cap, .slice (some ⟨b, off, none⟩) m c]).run P w = .ok v' w' ∧ w'.ownsRow w.heap.size T' size v' (n + m) (olds ++ news) ∧ w.grownBy w' none := by
    cases ao with
    | some q =>
      exact run_append_arg_grows (P := P) w t o.type T' i0 zv size bytes ht hi hz hsize hby hzs hpos q n cap olds hlo (fun j u hu => by
        obtain ⟨b', off', e, _, hc'⟩ := holds (by have := (List.getElem?_eq_some_iff.1 hu).1; omega)
        obtain rfl := Option.some.inj e
        rw [add_none]
        exact hc' j u hu) ⟨b, off, none⟩ m c news hl hnews hfull h63 hbytes
    | none =>
      obtain ⟨rfl, rfl⟩ := hnone rfl
      obtain rfl : olds = [] := List.eq_nil_of_length_eq_zero (by simpa using hlo)
      obtain ⟨v', w', hrun, r1, r2, _⟩ := run_append_own (P := P) w w.heap.size t o.type T' i0 zv size bytes ht hi hz hsize hby hzs hpos (.slice none 0 0) 0 [] (World.ownsRow_nil w _ T' size) ⟨b, off, none⟩ m c news hl hnews h1 h63 hbytes (Nat.le_refl _)
      exact ⟨v', w', hrun, r1, r2⟩
  obtain ⟨v', w', hrun, r1, r2⟩ := run
  refine ⟨fun f _ => Wide.fn f, ?_⟩
  rw [Oper.semAt_plain F _ _ (by intro c hc; rw [ho] at hc; cases hc)]
  simp only [execOp, ho, resolve, invoke, builtin, Sem.run_bind, Sem.run_pure, Result.andThen_ok, List.map_toArray, List.map_cons, List.map_nil, ev0 ha hv, ev0 ha hx, hrun]
  show K (a.put o.dst v') w'
  rw [hd]
  exact h v' w' (St.ownNew hs r1 r2) _ (ha.put c1 c2 c3 (by rw [if_pos gnil]))
theorem run_append_none {P : Program} {t ty e : TypeId} {i : TypeInfo} (ht : P.underlying t = some (.slice e)) (hi : P.info? e = some i) (ao A : Option Addr) (n c : Nat) (w : World) :
    (Builtin.append_ #[t, t] ty #[.slice ao n n, .slice A 0 c]).run P w = .ok (.slice ao n n) w := by
  have h1 : ∀ a : Addr, (Builtin.firstCells i.size 0 (.slice (some a) 0 c)).run P w = .ok #[] w := fun a => by
    have := run_firstCells_some (P := P) w i.size 0 a 0 c [] (by simp) (by simp)
    simpa using this
  cases ao with
  | none => cases A with
    | none => simp [Builtin.append_, run_underlying ht, sizeOf, typeInfo, hi, Builtin.lenOf, Builtin.firstCells]
    | some a => simp [Builtin.append_, run_underlying ht, sizeOf, typeInfo, hi, Builtin.lenOf, h1]
  | some b => cases A with
    | none => simp [Builtin.append_, run_underlying ht, sizeOf, typeInfo, hi, Builtin.lenOf, Builtin.firstCells, storeCells]
    | some a => simp [Builtin.append_, run_underlying ht, sizeOf, typeInfo, hi, Builtin.lenOf, h1, storeCells]
/-- append onto a slice without room, of which nothing is kept but what it reads -/
theorem ZO.appendC [Wide F] {s z : Operand} {T' t : TypeId} {ao A : Option Addr} {n m c size bytes : Nat} {olds news : List Value} {i0 : TypeInfo} {zv : Value}
    (ho : o.op = .call { callee := .builtin .append, args := #[s, z], argTypes := #[t, t] }) (hd : o.dst = some d) (hc : chk N d E [] = true) (hs : SX.St w0 M w L)
    (ht : P.underlying t = some (.slice T')) (hi : P.info? T' = some i0) (hz : i0.zero = some zv) (hsize : i0.size = size) (hby : i0.bytes = bytes) (hzs : zv.cells.size = size) (hpos : 0 < size)
    (hv : ev E [] s = some (.slice ao n n)) (hx : ev E [] z = some (.slice A m c)) (hnone : ao = none → n = 0) (hlo : olds.length = n * size) (holds : Sl w ao olds) (hl : news.length = m * size) (hn : Sl w A news)
    (h1 : ∀ u ∈ news, u.oneCell' = true) (h63 : n + m ≤ maxLen) (hbytes : (n + m) * bytes ≤ 140737488355328)
    (h : ∀ B cz w', SX.St w0 M w' L → SX.St w [] w' [] → Sl w' B (olds ++ news) → Z N ((d, [], .slice B (n + m) cz) :: E) D K w') : ZO F nn P N E D o K Q w := by
  by_cases hm : m = 0
  · subst hm
    have hnl : news = [] := List.eq_nil_of_length_eq_zero (by simpa using hl)
    subst hnl
    intro a ha
    obtain ⟨c1, c2, c3⟩ := chk_spec hc
    refine ⟨fun f _ => Wide.fn f, ?_⟩
    rw [Oper.semAt_plain F _ _ (by intro c hc; rw [ho] at hc; cases hc)]
    simp only [execOp, ho, resolve, invoke, builtin, Sem.run_bind, Sem.run_pure, Result.andThen_ok, List.map_toArray, List.map_cons, List.map_nil, ev0 ha hv, ev0 ha hx, run_append_none ht hi]
    show K (a.put o.dst _) w
    rw [hd]
    exact h ao n w hs (SX.St.start w) (by rwa [List.append_nil]) _ (ha.put c1 c2 c3 (by rw [if_pos gnil]; rfl))
  · have hs2 : SX.St w [] w [] := SX.St.start w
    intro a ha
    obtain ⟨c1, c2, c3⟩ := chk_spec hc
    obtain ⟨b, off, rfl, hb, hcell⟩ := hn (by rw [hl]; exact Nat.mul_pos (by omega) hpos)
    have hnews : ∀ j u, news[j]? = some u → w.cell? ((⟨b, off, none⟩ : Addr).add j) = some u := fun j u hu => by rw [add_none]; exact hcell j u hu
    have run : ∃ v' w', (Builtin.append_ #[t, t] o.type #[.slice ao n n, .slice (some ⟨b, off, none⟩) m c]).run P w = .ok v' w' ∧ w'.ownsRow w.heap.size T' size v' (n + m) (olds ++ news) ∧ w.grownBy w' none := by
      cases ao with
      | some q =>
        exact run_append_arg_grows (P := P) w t o.type T' i0 zv size bytes ht hi hz hsize hby hzs hpos q n n olds hlo (fun j u hu => by
          obtain ⟨b', off', e, _, hc'⟩ := holds (by have := (List.getElem?_eq_some_iff.1 hu).1; omega)
          obtain rfl := Option.some.inj e
          rw [add_none]
          exact hc' j u hu) ⟨b, off, none⟩ m c news hl hnews (by omega) h63 hbytes
      | none =>
        obtain rfl := hnone rfl
        obtain rfl : olds = [] := List.eq_nil_of_length_eq_zero (by simpa using hlo)
        obtain ⟨v', w', hrun, r1, r2, _⟩ := run_append_own (P := P) w w.heap.size t o.type T' i0 zv size bytes ht hi hz hsize hby hzs hpos (.slice none 0 0) 0 [] (World.ownsRow_nil w _ T' size) ⟨b, off, none⟩ m c news hl hnews h1 h63 hbytes (Nat.le_refl _)
        exact ⟨v', w', hrun, r1, r2⟩
    obtain ⟨v', w', hrun, r1, r2⟩ := run
    have hr := St.ownNew hs2 r1 r2
    obtain ⟨B, cz, rfl, -, -, hB⟩ := SX.row_slv hr (j := 0) rfl
    refine ⟨fun f _ => Wide.fn f, ?_⟩
    rw [Oper.semAt_plain F _ _ (by intro c hc; rw [ho] at hc; cases hc)]
    simp only [execOp, ho, resolve, invoke, builtin, Sem.run_bind, Sem.run_pure, Result.andThen_ok, List.map_toArray, List.map_cons, List.map_nil, ev0 ha hv, ev0 ha hx, hrun]
    show K (a.put o.dst _) w'
    rw [hd]
    exact h B cz w' (St.ownNew hs r1 r2).tl hr.tl hB _ (ha.put c1 c2 c3 (by rw [if_pos gnil]))
end Z
end Go.Proofs.YtbojkoiopkaciaaGreat

/- []byte("constant"): a fresh row is marked; it is read only from then on. -/
namespace Go.Proofs.YtbojkoiopkaciaaGreat
open Go.RowKit
set_option linter.unusedVariables false
set_option linter.unusedSimpArgs false
namespace Z
variable {N : Nat} {E : Env} {D : List Deferred} {F : Fence} {n : Nat} {P : Program} {o : Oper}
variable {K : Act → World → Prop} {Q : Exit → Act → World → Prop} {w w0 : World} {M : List Nat} {L : List SX.Ent}
variable {x : Operand} {T T' : TypeId} {d : Nat}
theorem ZO.convB [Wide F] {g j k c : Nat} {e : TypeId} {cs : Array Value} (ho : o.op = .convert T T x) (hd : o.dst = some d) (hc : chk N d E [] = true) (hs : SX.St w0 M w L) (hx : ev E [] x = some (.slice (some ⟨g, 0, none⟩) k c))
    (ht : P.underlying T = some (.slice e)) (he : P.underlying e = some (.int .u8)) (hj : L[j]? = some (SX.Ent.blk g T' cs))
    (h : ∀ w', SX.St w0 M w' (L.eraseIdx j) → Sl w' (some ⟨g, 0, none⟩) cs.toList → Z N ((d, [], .slice (some ⟨g, 0, none⟩) k c) :: E) D K w') : ZO F n P N E D o K Q w := by
  have hb : w.heap[g]? = some (.cells cs T' (0, 0)) := hs.get hj
  have hlt : g < w.heap.size := SX.lt_of_some hb
  have hsh : w.shape? g = some (T', cs.size) := by
    unfold World.shape?
    rw [hb]
  have hheap : (w.freeze ⟨g, cs.size, none⟩ 1).heap = w.heap.modify g (fun o => match o with | .cells c elem (lo, hi) => .cells c elem (if lo == hi then (cs.size, cs.size + 1) else (min lo cs.size, max hi (cs.size + 1))) | o => o) := by
    unfold World.freeze
    rw [if_neg (by decide)]
    rfl
  have hg : (w.freeze ⟨g, cs.size, none⟩ 1).heap[g]? = some (.cells cs T' (cs.size, cs.size + 1)) := by
    rw [hheap, Array.getElem?_modify, if_pos rfl, hb]
    rfl
  have ho' : ∀ b, b ≠ g → (w.freeze ⟨g, cs.size, none⟩ 1).heap[b]? = w.heap[b]? := fun b hne => by
    rw [hheap, Array.getElem?_modify, if_neg (Ne.symm hne)]
  have hsz : (w.freeze ⟨g, cs.size, none⟩ 1).heap.size = w.heap.size := by rw [hheap, Array.size_modify]
  have hst : SX.St w0 M (w.freeze ⟨g, cs.size, none⟩ 1) (L.eraseIdx j) := by
    have h1 := (hs.front hj).step (w' := w.freeze ⟨g, cs.size, none⟩ 1) (e' := ⟨[], fun _ => True, fun _ _ _ _ => trivial, fun _ _ _ hb => (by cases hb)⟩) (by unfold World.freeze; rfl) (by unfold World.freeze; rfl) (by unfold World.freeze; rfl) (by rw [hsz]; exact Nat.le_refl _)
      (fun b _ hne => ho' b (fun h => hne (by subst h; simp [SX.Ent.blk, SX.Ent.obj]))) (by simp) (fun b hb => by cases hb) trivial
    exact h1.tl
  have hsl : Sl (w.freeze ⟨g, cs.size, none⟩ 1) (some ⟨g, 0, none⟩) cs.toList := fun hp => by
    refine ⟨g, 0, rfl, by rw [hsz]; exact hlt, fun i u hu => ?_⟩
    simp only [World.cell?, hg, Nat.zero_add]
    simpa using hu
  refine ZO.value (v := .slice (some ⟨g, 0, none⟩) k c) (w' := w.freeze ⟨g, cs.size, none⟩ 1) (by intro c e; rw [ho] at e; cases e) hd hc (fun a ha => ?_) (h _ hst hsl)
  have h1 := ev0 ha hx
  simp only [execOp, ho, h1]
  rw [Sem.run_bind]
  have h2 : (convert T T (.slice (some ⟨g, 0, none⟩) k c)).run P w = .ok (.slice (some ⟨g, 0, none⟩) k c) (w.freeze ⟨g, cs.size, none⟩ 1) := by
    simp [convert, run_underlying ht, run_underlying he, markStringish, hsh]
  rw [h2]
  rfl
end Z
end Go.Proofs.YtbojkoiopkaciaaGreat

/- What every row needs. -/
namespace Go.Proofs.YtbojkoiopkaciaaGreat
open Go.ChangeShapes Go.WideShapes Go.ChangeAt Go.RowKit
theorem pown : ownKnob Tryz.prog.godebug = none := by kernel_rfl
theorem plaidOut : laidOutB Tryz.prog = true := by kernel_rfl
end Go.Proofs.YtbojkoiopkaciaaGreat
