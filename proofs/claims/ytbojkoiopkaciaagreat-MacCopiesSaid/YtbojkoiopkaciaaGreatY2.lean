/- Part 2 of the proofs that lead to the statement. -/
import Derived.Test.YtbojkoiopkaciaaGreatY1
import Derived.ArgAppend
import Derived.Lib.SlBytesConst
import Derived.Test.YtbojkoiopkaciaaGreatRows
import Derived.WalkKit
import Derived.ProofKit
import Derived.OpenShut
import Derived.ShutString
import Derived.ChangeOld
import Derived.Below
namespace Go.Proofs.YtbojkoiopkaciaaGreat
open Go.RowKit
set_option linter.unusedVariables false
set_option linter.unusedSimpArgs false
namespace Z
variable {N : Nat} {E : Env} {D : List Deferred} {F : Fence} {nn : Nat} {P : Program} {o : Oper}
variable {K : Act → World → Prop} {Q : Exit → Act → World → Prop} {w w0 : World} {M : List Nat} {L : List SX.Ent} {d : Nat}
theorem St.ownNew {w' : World} {T size k : Nat} {v : Value} {xs : List Value} (hs : SX.St w0 M w L) (h1 : w'.ownsRow w.heap.size T size v k xs) (h2 : w.grownBy w' none) : SX.St w0 M w' (SX.Ent.row v T size k xs :: L) := by
  have hr : w'.ownsRow 0 T size v k xs := by
    rcases h1 with ⟨a, ⟨rfl, b⟩ | ⟨g, cap, cur, e, hb, r⟩⟩
    · exact ⟨a, .inl ⟨rfl, b⟩⟩
    · exact ⟨a, .inr ⟨g, cap, cur, e, Nat.zero_le _, r⟩⟩
  refine hs.add (e' := SX.Ent.row v T size k xs) h2.os h2.tape h2.output h2.size (fun b hb => h2.block b hb (by simp)) ?_ (fun b hb => ?_) hr
  · cases h : v.ownBlock <;> simp [SX.Ent.row, h]
  · rcases h1.2 with ⟨rfl, _⟩ | ⟨g, cap, cur, rfl, hb2, _⟩
    · simp [SX.Ent.row, Value.ownBlock] at hb
    · simp [SX.Ent.row, Value.ownBlock] at hb
      omega
theorem ZO.appendF [Wide F] {s z : Operand} {T' t : TypeId} {ao A : Option Addr} {n cap m c size bytes : Nat} {olds news : List Value} {i0 : TypeInfo} {zv : Value}
    (ho : o.op = .call { callee := .builtin .append, args := #[s, z], argTypes := #[t, t] }) (hd : o.dst = some d) (hc : chk N d E [] = true) (hs : SX.St w0 M w L)
    (ht : P.underlying t = some (.slice T')) (hi : P.info? T' = some i0) (hz : i0.zero = some zv) (hsize : i0.size = size) (hby : i0.bytes = bytes) (hzs : zv.cells.size = size) (hpos : 0 < size)
    (hv : ev E [] s = some (.slice ao n cap)) (hx : ev E [] z = some (.slice A m c)) (hnone : ao = none → n = 0 ∧ cap = 0) (hlo : olds.length = n * size) (holds : Sl w ao olds) (hl : news.length = m * size) (hn : Sl w A news)
    (h1 : ∀ u ∈ news, u.oneCell' = true) (hm : 0 < m) (hfull : cap < n + m) (h63 : n + m ≤ maxLen) (hbytes : (n + m) * bytes ≤ 140737488355328)
    (h : ∀ v' w', SX.St w0 M w' (SX.Ent.row v' T' size (n + m) (olds ++ news) :: L) → Z N ((d, [], v') :: E) D K w') : ZO F nn P N E D o K Q w := by
  intro a ha; obtain ⟨c1, c2, c3⟩ := chk_spec hc; obtain ⟨b, off, rfl, hb, hcell⟩ := hn (by rw [hl]; exact Nat.mul_pos hm hpos); have hnews : ∀ j u, news[j]? = some u → w.cell? ((⟨b, off, none⟩ : Addr).add j) = some u := fun j u hu => by rw [add_none]; exact hcell j u hu
  have run : ∃ v' w', (Builtin.append_ #[t, t] o.type #[.slice ao n cap, .slice (some ⟨b, off, none⟩) m c]).run P w = .ok v' w' ∧ w'.ownsRow w.heap.size T' size v' (n + m) (olds ++ news) ∧ w.grownBy w' none := by
    cases ao with
    | some q =>
      exact run_append_arg_grows (P := P) w t o.type T' i0 zv size bytes ht hi hz hsize hby hzs hpos q n cap olds hlo (fun j u hu => by
        obtain ⟨b', off', e, _, hc'⟩ := holds (by have := (List.getElem?_eq_some_iff.1 hu).1; omega); obtain rfl := Option.some.inj e; rw [add_none]
        exact hc' j u hu) ⟨b, off, none⟩ m c news hl hnews hfull h63 hbytes
    | none =>
      obtain ⟨rfl, rfl⟩ := hnone rfl; obtain rfl : olds = [] := List.eq_nil_of_length_eq_zero (by simpa using hlo); obtain ⟨v', w', hrun, r1, r2, _⟩ := run_append_own (P := P) w w.heap.size t o.type T' i0 zv size bytes ht hi hz hsize hby hzs hpos (.slice none 0 0) 0 [] (World.ownsRow_nil w _ T' size) ⟨b, off, none⟩ m c news hl hnews h1 h63 hbytes (Nat.le_refl _); exact ⟨v', w', hrun, r1, r2⟩
  obtain ⟨v', w', hrun, r1, r2⟩ := run; refine ⟨fun f _ => Wide.fn f, ?_⟩; rw [Oper.semAt_plain F _ _ (by intro c hc; rw [ho] at hc; cases hc)]; simp only [execOp, ho, resolve, invoke, builtin, Sem.run_bind, Sem.run_pure, Result.andThen_ok, List.map_toArray, List.map_cons, List.map_nil, ev0 ha hv, ev0 ha hx, hrun]
  show K (a.put o.dst v') w'
  rw [hd]; exact h v' w' (St.ownNew hs r1 r2) _ (ha.put c1 c2 c3 (by rw [if_pos gnil]))
theorem run_append_none {P : Program} {t ty e : TypeId} {i : TypeInfo} (ht : P.underlying t = some (.slice e)) (hi : P.info? e = some i) (ao A : Option Addr) (n c : Nat) (w : World) :
    (Builtin.append_ #[t, t] ty #[.slice ao n n, .slice A 0 c]).run P w = .ok (.slice ao n n) w := by
  have h1 : ∀ a : Addr, (Builtin.firstCells i.size 0 (.slice (some a) 0 c)).run P w = .ok #[] w := fun a => by
    have := run_firstCells_some (P := P) w i.size 0 a 0 c [] (by simp) (by simp)
    simpa using this
  cases ao with
  | none => cases A with
    | none => simp [Builtin.append_, run_underlying ht, sizeOf, typeInfo, hi, Builtin.lenOf, Builtin.firstCells]
    | some a => simp [Builtin.append_, run_underlying ht, sizeOf, typeInfo, hi, Builtin.lenOf, h1]
  | some b => cases A with
    | none => simp [Builtin.append_, run_underlying ht, sizeOf, typeInfo, hi, Builtin.lenOf, Builtin.firstCells, storeCells]
    | some a => simp [Builtin.append_, run_underlying ht, sizeOf, typeInfo, hi, Builtin.lenOf, h1, storeCells]
theorem ZO.appendC [Wide F] {s z : Operand} {T' t : TypeId} {ao A : Option Addr} {n m c size bytes : Nat} {olds news : List Value} {i0 : TypeInfo} {zv : Value}
    (ho : o.op = .call { callee := .builtin .append, args := #[s, z], argTypes := #[t, t] }) (hd : o.dst = some d) (hc : chk N d E [] = true) (hs : SX.St w0 M w L)
    (ht : P.underlying t = some (.slice T')) (hi : P.info? T' = some i0) (hz : i0.zero = some zv) (hsize : i0.size = size) (hby : i0.bytes = bytes) (hzs : zv.cells.size = size) (hpos : 0 < size)
    (hv : ev E [] s = some (.slice ao n n)) (hx : ev E [] z = some (.slice A m c)) (hnone : ao = none → n = 0) (hlo : olds.length = n * size) (holds : Sl w ao olds) (hl : news.length = m * size) (hn : Sl w A news)
    (h1 : ∀ u ∈ news, u.oneCell' = true) (h63 : n + m ≤ maxLen) (hbytes : (n + m) * bytes ≤ 140737488355328)
    (h : ∀ B cz w', SX.St w0 M w' L → SX.St w [] w' [] → Sl w' B (olds ++ news) → Z N ((d, [], .slice B (n + m) cz) :: E) D K w') : ZO F nn P N E D o K Q w := by
  by_cases hm : m = 0
  · subst hm
    have hnl : news = [] := List.eq_nil_of_length_eq_zero (by simpa using hl); subst hnl; intro a ha; obtain ⟨c1, c2, c3⟩ := chk_spec hc; refine ⟨fun f _ => Wide.fn f, ?_⟩; rw [Oper.semAt_plain F _ _ (by intro c hc; rw [ho] at hc; cases hc)]; simp only [execOp, ho, resolve, invoke, builtin, Sem.run_bind, Sem.run_pure, Result.andThen_ok, List.map_toArray, List.map_cons, List.map_nil, ev0 ha hv, ev0 ha hx, run_append_none ht hi]
    show K (a.put o.dst _) w
    rw [hd]; exact h ao n w hs (SX.St.start w) (by rwa [List.append_nil]) _ (ha.put c1 c2 c3 (by rw [if_pos gnil]; rfl))
  · have hs2 : SX.St w [] w [] := SX.St.start w
    intro a ha; obtain ⟨c1, c2, c3⟩ := chk_spec hc; obtain ⟨b, off, rfl, hb, hcell⟩ := hn (by rw [hl]; exact Nat.mul_pos (by omega) hpos); have hnews : ∀ j u, news[j]? = some u → w.cell? ((⟨b, off, none⟩ : Addr).add j) = some u := fun j u hu => by rw [add_none]; exact hcell j u hu
    have run : ∃ v' w', (Builtin.append_ #[t, t] o.type #[.slice ao n n, .slice (some ⟨b, off, none⟩) m c]).run P w = .ok v' w' ∧ w'.ownsRow w.heap.size T' size v' (n + m) (olds ++ news) ∧ w.grownBy w' none := by
      cases ao with
      | some q =>
        exact run_append_arg_grows (P := P) w t o.type T' i0 zv size bytes ht hi hz hsize hby hzs hpos q n n olds hlo (fun j u hu => by
          obtain ⟨b', off', e, _, hc'⟩ := holds (by have := (List.getElem?_eq_some_iff.1 hu).1; omega); obtain rfl := Option.some.inj e; rw [add_none]
          exact hc' j u hu) ⟨b, off, none⟩ m c news hl hnews (by omega) h63 hbytes
      | none =>
        obtain rfl := hnone rfl; obtain rfl : olds = [] := List.eq_nil_of_length_eq_zero (by simpa using hlo); obtain ⟨v', w', hrun, r1, r2, _⟩ := run_append_own (P := P) w w.heap.size t o.type T' i0 zv size bytes ht hi hz hsize hby hzs hpos (.slice none 0 0) 0 [] (World.ownsRow_nil w _ T' size) ⟨b, off, none⟩ m c news hl hnews h1 h63 hbytes (Nat.le_refl _); exact ⟨v', w', hrun, r1, r2⟩
    obtain ⟨v', w', hrun, r1, r2⟩ := run; have hr := St.ownNew hs2 r1 r2; obtain ⟨B, cz, rfl, -, -, hB⟩ := SX.row_slv hr (j := 0) rfl; refine ⟨fun f _ => Wide.fn f, ?_⟩; rw [Oper.semAt_plain F _ _ (by intro c hc; rw [ho] at hc; cases hc)]; simp only [execOp, ho, resolve, invoke, builtin, Sem.run_bind, Sem.run_pure, Result.andThen_ok, List.map_toArray, List.map_cons, List.map_nil, ev0 ha hv, ev0 ha hx, hrun]
    show K (a.put o.dst _) w'
    rw [hd]; exact h B cz w' (St.ownNew hs r1 r2).tl hr.tl hB _ (ha.put c1 c2 c3 (by rw [if_pos gnil]))
end Z
end Go.Proofs.YtbojkoiopkaciaaGreat

namespace Go.Proofs.YtbojkoiopkaciaaGreat
open Go.RowKit
set_option linter.unusedVariables false
set_option linter.unusedSimpArgs false
namespace Z
variable {N : Nat} {E : Env} {D : List Deferred} {F : Fence} {n : Nat} {P : Program} {o : Oper}
variable {K : Act → World → Prop} {Q : Exit → Act → World → Prop} {w w0 : World} {M : List Nat} {L : List SX.Ent}
variable {x : Operand} {T T' : TypeId} {d : Nat}
theorem ZO.convB [Wide F] {g j k c : Nat} {e : TypeId} {cs : Array Value} (ho : o.op = .convert T T x) (hd : o.dst = some d) (hc : chk N d E [] = true) (hs : SX.St w0 M w L) (hx : ev E [] x = some (.slice (some ⟨g, 0, none⟩) k c))
    (ht : P.underlying T = some (.slice e)) (he : P.underlying e = some (.int .u8)) (hj : L[j]? = some (SX.Ent.blk g T' cs))
    (h : ∀ w', SX.St w0 M w' (L.eraseIdx j) → Sl w' (some ⟨g, 0, none⟩) cs.toList → Z N ((d, [], .slice (some ⟨g, 0, none⟩) k c) :: E) D K w') : ZO F n P N E D o K Q w := by
  have hb : w.heap[g]? = some (.cells cs T' (0, 0)) := hs.get hj; have hlt : g < w.heap.size := SX.lt_of_some hb; have hsh : w.shape? g = some (T', cs.size) := by
    unfold World.shape?; rw [hb]
  have hheap : (w.freeze ⟨g, cs.size, none⟩ 1).heap = w.heap.modify g (fun o => match o with | .cells c elem (lo, hi) => .cells c elem (if lo == hi then (cs.size, cs.size + 1) else (min lo cs.size, max hi (cs.size + 1))) | o => o) := by
    unfold World.freeze; rw [if_neg (by decide)]
    rfl
  have hg : (w.freeze ⟨g, cs.size, none⟩ 1).heap[g]? = some (.cells cs T' (cs.size, cs.size + 1)) := by
    rw [hheap, Array.getElem?_modify, if_pos rfl, hb]
    rfl
  have ho' : ∀ b, b ≠ g → (w.freeze ⟨g, cs.size, none⟩ 1).heap[b]? = w.heap[b]? := fun b hne => by
    rw [hheap, Array.getElem?_modify, if_neg (Ne.symm hne)]
  have hsz : (w.freeze ⟨g, cs.size, none⟩ 1).heap.size = w.heap.size := by rw [hheap, Array.size_modify]
  have hst : SX.St w0 M (w.freeze ⟨g, cs.size, none⟩ 1) (L.eraseIdx j) := by
    have h1 := (hs.front hj).step (w' := w.freeze ⟨g, cs.size, none⟩ 1) (e' := ⟨[], fun _ => True, fun _ _ _ _ => trivial, fun _ _ _ hb => (by cases hb)⟩) (by unfold World.freeze; rfl) (by unfold World.freeze; rfl) (by unfold World.freeze; rfl) (by rw [hsz]; exact Nat.le_refl _)
      (fun b _ hne => ho' b (fun h => hne (by subst h; simp [SX.Ent.blk, SX.Ent.obj]))) (by simp) (fun b hb => by cases hb) trivial
    exact h1.tl
  have hsl : Sl (w.freeze ⟨g, cs.size, none⟩ 1) (some ⟨g, 0, none⟩) cs.toList := fun hp => by
    refine ⟨g, 0, rfl, by rw [hsz]; exact hlt, fun i u hu => ?_⟩; simp only [World.cell?, hg, Nat.zero_add]
    simpa using hu
  refine ZO.value (v := .slice (some ⟨g, 0, none⟩) k c) (w' := w.freeze ⟨g, cs.size, none⟩ 1) (by intro c e; rw [ho] at e; cases e) hd hc (fun a ha => ?_) (h _ hst hsl); have h1 := ev0 ha hx; simp only [execOp, ho, h1]; rw [Sem.run_bind]; have h2 : (convert T T (.slice (some ⟨g, 0, none⟩) k c)).run P w = .ok (.slice (some ⟨g, 0, none⟩) k c) (w.freeze ⟨g, cs.size, none⟩ 1) := by
    simp [convert, run_underlying ht, run_underlying he, markStringish, hsh]
  rw [h2]
  rfl
end Z
end Go.Proofs.YtbojkoiopkaciaaGreat

namespace Go.Proofs.YtbojkoiopkaciaaGreat
open Go.ChangeShapes Go.WideShapes Go.ChangeAt Go.RowKit
theorem pown : ownKnob Tryz.prog.godebug = none := by kernel_rfl
theorem plaidOut : laidOutB Tryz.prog = true := by kernel_rfl
end Go.Proofs.YtbojkoiopkaciaaGreat
