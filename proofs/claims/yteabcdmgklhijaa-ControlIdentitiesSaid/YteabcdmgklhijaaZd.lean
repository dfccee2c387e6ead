/- Deferred calls. -/
import Derived.Test.YteabcdmgklhijaaZv
import Derived.DefersIn
namespace Go.Proofs.Yteabcdmgklhijaa
open Go.RowKit
set_option linter.unusedVariables false
set_option linter.unusedSimpArgs false
namespace Z
variable {N : Nat} {E E' : Env} {D : List Deferred} {a : Act} {G : Guards} {F : Fence} {n : Nat} {P : Program} {o : Oper} {v : Value}
variable {K : Act → World → Prop} {Q : Exit → Act → World → Prop} {w w' w0 : World} {x : Operand} {d k : Nat} {f : FuncId}

/-- a call is put off -/
theorem ZO.defer {as : Array Operand} {ts : Array TypeId} {first cap : Array Value} {vs : List Value}
    (ho : o.op = .defer { callee := .value x, args := as, argTypes := ts }) (hd : o.dst = none) (hx : ev E [] x = some (.func (.func k) first cap)) (hv : evs E [] as.toList = some vs)
    (h : Z N E ({ target := .fn (.func k) cap, args := first ++ vs.toArray } :: D) K w) : ZO Fence.wide n P N E D o K Q w := by
  intro a ha
  refine ⟨fun f _ => trivial, ?_⟩
  have h1 := ev0 ha hx
  have h2 : as.map a.eval = vs.toArray := by
    rw [← evs_eval ha (fun g hg => by cases hg) hv]
    apply Array.ext'
    simp
  rw [Fence.wide_round, Oper.semAt_none]
  simp only [execOp, ho, resolve, Sem.run_bind, Sem.run_pure, Result.andThen_ok, h1, h2, Deferred.ofValue]
  show K ({ a with defers := _ :: a.defers }.put o.dst undef) w
  rw [hd]
  refine h _ ⟨ha.size, ha.get, ?_⟩
  show _ :: a.defers = _
  rw [ha.defers]

/-- what a call that was put off does -/
def _root_.Go.Proofs.Yteabcdmgklhijaa.CallsDf (P : Program) (f : FuncId) (args : Array Value) (w : World) (Φ : Value → World → Prop) : Prop := ∀ u, CallsDIn Fence.wide 0 P f args u w fun e u' w' => u' = u ∧ SX.Ret Φ e w'
theorem enterDf {fn : Func} {c : Code} {args : Array Value} {Φ : Value → World → Prop} (hf : P.funcs[f]? = some fn) (hb : fn.body = some c) (hn : fn.ntmps = N) (hN : Nat.ble args.size N = true) (he : envO 0 args.toList [] = some E)
    (h : Z N E [] (c.wpIn Fence.wide 0 P (bodyPost P fn (SX.Ret Φ))) w) : CallsDf P f args w Φ := fun u => callsDIn_of_wp hf hb trivial (by rw [hn]; exact h _ (holds_enter hN he))
theorem enterD {fn : Func} {c : Code} {args : Array Value} {R : Ending → World → Prop} (hf : P.funcs[f]? = some fn) (hb : fn.body = some c) (hn : fn.ntmps = N) (hN : Nat.ble args.size N = true) (he : envO 0 args.toList [] = some E)
    (h : Z N E [] (c.wpIn Fence.wide 0 P (bodyPostDIn Fence.wide 0 P fn R)) w) : Calls P f args w R :=
  (callsIn_wide (n := 0)).1 (callsIn_of_wp_defers hf hb trivial (by rw [hn]; exact h _ (holds_enter hN he)))
theorem outD0 {fn : Func} {R : Ending → World → Prop} {vs : List Value} (h : RV P w E fn.results.toList vs) (hR : R (.returned (pack vs)) w) : Z N E [] (bodyPostDIn Fence.wide 0 P fn R .ret) w := fun a ha => by
  show LeavesIn Fence.wide 0 P fn a.tmps R a.defers .returning w
  rw [ha.defers]
  exact ⟨_, results_run ha h rfl, hR⟩
theorem outD0n {fn : Func} {R : Ending → World → Prop} {vs : List Value} (h : RV P w E fn.results.toList vs) (hR : R (.returned (pack vs)) w) : Z N E [] (bodyPostDIn Fence.wide 0 P fn R .normal) w := fun a ha => by
  show LeavesIn Fence.wide 0 P fn a.tmps R a.defers .returning w
  rw [ha.defers]
  exact ⟨_, results_run ha h rfl, hR⟩
/-- one call was put off -/
theorem outD1 {fn : Func} {R : Ending → World → Prop} {cap dargs : Array Value} {Φ : Value → World → Prop} (hk : ∀ args w, (callFunc k args).run P w = .ok (.enter k args) w)
    (hc : CallsDf P k (dargs ++ cap) w Φ) (hR : ∀ v w', Φ v w' → ∃ vs, RV P w' E fn.results.toList vs ∧ R (.returned (pack vs)) w') : Z N E [{ target := .fn (.func k) cap, args := dargs }] (bodyPostDIn Fence.wide 0 P fn R .ret) w := fun a ha => by
  show LeavesIn Fence.wide 0 P fn a.tmps R a.defers .returning w
  rw [ha.defers]
  refine leavesIn_cons (by simp) (by intro h; cases h) (hk _ _) (fun g _ => trivial) ((hc _).mono fun e u' w' h => ?_)
  obtain ⟨rfl, v, rfl, hv⟩ := h
  obtain ⟨vs, h1, h2⟩ := hR v w' hv
  exact ⟨_, results_run ⟨ha.size, ha.get, ha.defers⟩ h1 rfl, h2⟩
/-- a result that lies in a block of ours -/
theorem rvc {M : List Nat} {L : List SX.Ent} {g T T' : Nat} {cs : Array Value} (hs : SX.St w0 M w L) (hagg : ∀ w, (isAgg T).run P w = .ok false w) (hm : SX.Ent.blk g T' cs ∈ L) (hc : cs[0]? = some v) : (loadVar T ⟨g, 0, none⟩).run P w = .ok v w := by
  have h2 : w.cell? ⟨g, 0, none⟩ = some v := SX.Keep.blk ⟨L, hs, fun e h => h⟩ hm hc
  simp [loadVar, hagg, h2]

/-- a result that is a struct in a block of ours -/
theorem rvcA {M : List Nat} {L : List SX.Ent} {g T T' : Nat} {cs : List Value} (hs : SX.St w0 M w L) (hagg : ∀ w, (isAgg T).run P w = .ok true w) (hm : SX.Ent.blk g T' cs.toArray ∈ L) (hsz : ∀ w, (sizeOf T).run P w = .ok cs.length w) : (loadVar T ⟨g, 0, none⟩).run P w = .ok (.agg cs.toArray) w := by
  have hc : ∀ j u, cs[j]? = some u → w.cell? ⟨g, 0 + j, none⟩ = some u := fun j u hu => cellsB hm w ⟨L, hs, fun e h => h⟩ j u hu
  simp [loadVar, hagg, hsz, run_loadCells_list w ⟨g, 0, none⟩ cs (fun j u hu => by rw [add_none]; exact hc j u hu)]
/-- either of two may come first -/
theorem fork2 [Wide F] {ops : Array Oper} {S : World → Prop} {Dn : Nat → Bool} {done : List Nat} {oi oj : Oper} {Gi Gj : Guards} (i j : Nat) (hi : ops[i]? = some oi) (hj : ops[j]? = some oj) (hm : left ops done = true)
    (hr : Region.ready .any ops (flags ops.size done) = [i, j]) (hGi : effG ops E oi = some Gi) (hGj : effG ops E oj = some Gj) (hti : GTrue E Gi) (htj : GTrue E Gj)
    (h1 : ZO F n P N E D oi (fun a' w' => (Dn i = true → S w') ∧ wpD F n P ops Q S Dn (i :: done) a' w') (SX.NP Q) w)
    (h2 : ZO F n P N E D oj (fun a' w' => (Dn j = true → S w') ∧ wpD F n P ops Q S Dn (j :: done) a' w') (SX.NP Q) w) : Z N E D (wpD F n P ops Q S Dn done) w := by
  intro a ha
  unfold wpD
  rw [fuel_eq (i := i) hm]
  refine ⟨fun h0 => (by rw [hr] at h0; cases h0), fun k hk => ?_⟩
  rw [hr] at hk
  rcases List.mem_cons.1 hk with rfl | hk
  · have hw := (wanted_of (ops := ops) (o := oi) ha hGi).2 (hti.holds ha)
    unfold Go.wpOpIn
    simp only [hi, hw, if_true]
    exact h1 a ha
  · obtain rfl : k = j := by simpa using hk
    have hw := (wanted_of (ops := ops) (o := oj) ha hGj).2 (htj.holds ha)
    unfold Go.wpOpIn
    simp only [hj, hw, if_true]
    exact h2 a ha

/-! ## slices of slices -/
/-- a bound of a slice expression: the number n, or the default d -/
def lvl (E : Env) (G : Guards) : Option Operand → Nat → Nat → Prop
  | none, d, n => n = d
  | some o, _, n => ∃ k z, ev E G o = some (.int k z) ∧ (GH E G → z = (n : Int))
theorem lvl_some {o : Operand} {k : IntKind} {z : Int} {d n : Nat} (h : ev E G o = some (.int k z)) (hz : GH E G → z = (n : Int)) : lvl E G (some o) d n := ⟨k, z, h, hz⟩
/-- where the elements of a slice from l on lie -/
def _root_.Go.Proofs.Yteabcdmgklhijaa.slA (A : Option Addr) (cap l size : Nat) : Option Addr := if cap = l then A else A.map (·.add (l * size))
theorem _root_.Go.Proofs.Yteabcdmgklhijaa.slA_zero (A : Option Addr) (cap size : Nat) : slA A cap 0 size = A := by
  unfold slA
  split
  · rfl
  · cases A with
    | none => rfl
    | some a =>
      simp only [Option.map_some, Nat.zero_mul]
      congr 1
theorem _root_.Go.Proofs.Yteabcdmgklhijaa.slA_some {b off cap l size : Nat} (h : l < cap) : slA (some ⟨b, off, none⟩) cap l size = some ⟨b, off + l * size, none⟩ := by
  unfold slA
  rw [if_neg (by omega)]
  simp only [Option.map_some, add_none]
theorem Yd.cut {S : World → Prop} {T e : TypeId} {A : Option Addr} {len cap size : Nat} {lo hi : Option Operand} (l h : Nat) (hx : ev E G x = some (.slice A len cap)) (hlo : lvl E G lo 0 l) (hhi : lvl E G hi len h) (ht : P.underlying T = some (.slice e))
    (hs : ∀ w, (sizeOf e).run P w = .ok size w) (hb : GH E G → l ≤ h ∧ h ≤ cap) : Yd P N D S E G (.slice T x lo hi none) (.slice (slA A cap l size) (h - l) (cap - l)) := by
  refine ⟨fun c e => (by cases e), fun a ha hg o ho w _ => ?_⟩
  have h1 := ev_eval ha hg hx
  obtain ⟨h3, h4⟩ := hb (GH_of' ha hg)
  have hgh := GH_of' ha hg
  cases lo with
  | none =>
    cases hlo
    cases hi with
    | none =>
      cases hhi
      simp [execOp, ho, h1, Instr.sliceAt, Instr.slice, run_underlying ht, Instr.sliceBounds, hs, slA]
    | some o2 =>
      obtain ⟨k2, z2, h5, h6⟩ := hhi
      have h5 := ev_eval ha hg h5
      obtain rfl := h6 hgh
      simp [execOp, ho, h1, h5, Instr.sliceAt, Instr.slice, run_underlying ht, Instr.sliceBounds, Instr.sliceBound, asIntOf, hs, slA, h4]
  | some o1 =>
    obtain ⟨k1, z1, h7, h8⟩ := hlo
    have h7 := ev_eval ha hg h7
    obtain rfl := h8 hgh
    cases hi with
    | none =>
      cases hhi
      simp [execOp, ho, h1, h7, Instr.sliceAt, Instr.slice, run_underlying ht, Instr.sliceBounds, Instr.sliceBound, asIntOf, hs, slA, h3]
    | some o2 =>
      obtain ⟨k2, z2, h5, h6⟩ := hhi
      have h5 := ev_eval ha hg h5
      obtain rfl := h6 hgh
      simp [execOp, ho, h1, h5, h7, Instr.sliceAt, Instr.slice, run_underlying ht, Instr.sliceBounds, Instr.sliceBound, asIntOf, hs, slA, h3, h4]
/-- .. with a maximum -/
theorem Yd.cut3 {S : World → Prop} {T e : TypeId} {A : Option Addr} {len cap size : Nat} {lo : Option Operand} {hi mx : Operand} {kh km : IntKind} {zh zm : Int} (l h m : Nat) (hx : ev E G x = some (.slice A len cap)) (hlo : lvl E G lo 0 l)
    (hhi : ev E G hi = some (.int kh zh)) (hmx : ev E G mx = some (.int km zm)) (ht : P.underlying T = some (.slice e))
    (hs : ∀ w, (sizeOf e).run P w = .ok size w) (hb : GH E G → zh = (h : Int) ∧ zm = (m : Int) ∧ l ≤ h ∧ h ≤ m ∧ m ≤ cap) : Yd P N D S E G (.slice T x lo (some hi) (some mx)) (.slice (slA A m l size) (h - l) (m - l)) := by
  refine ⟨fun c e => (by cases e), fun a ha hg o ho w _ => ?_⟩
  have h1 := ev_eval ha hg hx
  obtain ⟨rfl, rfl, h3, h4, h5⟩ := hb (GH_of' ha hg)
  have hgh := GH_of' ha hg
  have h6 := ev_eval ha hg hhi
  have h7 := ev_eval ha hg hmx
  cases lo with
  | none =>
    cases hlo
    simp [execOp, ho, h1, h6, h7, Instr.sliceAt, Instr.slice, run_underlying ht, Instr.sliceBounds, Instr.sliceBound, asIntOf, hs, slA, h4, h5]
  | some o1 =>
    obtain ⟨k1, z1, h8, h9⟩ := hlo
    have h8 := ev_eval ha hg h8
    obtain rfl := h9 hgh
    simp [execOp, ho, h1, h6, h7, h8, Instr.sliceAt, Instr.slice, run_underlying ht, Instr.sliceBounds, Instr.sliceBound, asIntOf, hs, slA, h3, h4, h5]
theorem _root_.Go.Proofs.Yteabcdmgklhijaa.Sl.cut {A : Option Addr} {cap l size : Nat} {xs ys : List Value} (h : Sl w A xs) (hp : ys <+: xs.drop (l * size)) (hc : cap = l → ys = []) : Sl w (slA A cap l size) ys := fun hpos => by
  have hne : cap ≠ l := fun e => by rw [hc e] at hpos; cases hpos
  have hlen : ys.length ≤ xs.length - l * size := by have := hp.length_le; rwa [List.length_drop] at this
  obtain ⟨b, off, rfl, hb, hcell⟩ := h (by omega)
  refine ⟨b, off + l * size, ?_, hb, fun j u hu => ?_⟩
  · unfold slA
    rw [if_neg hne]
    simp only [Option.map_some, add_none]
  · have : xs[l * size + j]? = some u := by
      obtain ⟨t, ht⟩ := hp
      have h1 : (xs.drop (l * size))[j]? = some u := by
        rw [← ht, List.getElem?_append_left (List.getElem?_eq_some_iff.1 hu).1]
        exact hu
      rwa [List.getElem?_drop] at h1
    have := hcell _ _ this
    rwa [← Nat.add_assoc] at this
theorem _root_.Go.Proofs.Yteabcdmgklhijaa.Sx.cut {M : List Nat} {A : Option Addr} {cap l size : Nat} {xs ys : List Value} (h : Sx w M A xs) (hp : ys <+: xs.drop (l * size)) (hc : cap = l → ys = []) : Sx w M (slA A cap l size) ys := fun hpos => by
  have hlen : ys.length ≤ xs.length - l * size := by have := hp.length_le; rwa [List.length_drop] at this
  obtain ⟨b, off, rfl, hb, hM, hcell⟩ := h (by omega)
  have h1 : Sl w (some ⟨b, off, none⟩) xs := fun _ => ⟨b, off, rfl, hb, hcell⟩
  obtain ⟨b2, off2, e, hb2, hc2⟩ := h1.cut hp hc hpos
  refine ⟨b2, off2, e, hb2, ?_, hc2⟩
  have hne : cap ≠ l := fun e => by rw [hc e] at hpos; cases hpos
  unfold slA at e
  rw [if_neg hne] at e
  simp only [Option.map_some, add_none, Option.some.injEq, Addr.mk.injEq] at e
  rw [← e.1]
  exact hM
end Z
end Go.Proofs.Yteabcdmgklhijaa
