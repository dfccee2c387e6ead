/- Part 6 of the proofs that lead to the statement. -/
import Derived.Test.YthncbdoiilgnhaaY5
import Derived.Scope
import Derived.Laws.BytesString
import Derived.DefersIn
/- Points that came in. QamMirrors returns true: all cases together. -/
namespace Go.Proofs.Ythncbdoiilgnhaa
open Go.RowKit
set_option linter.unusedVariables false

theorem rd_point {W : World} {cs : List Value} (z : Rd Try.prog W 32 cs) : ∃ x y : Int, cs = [.int .i64 x, .int .i64 y] ∧ (-9223372036854775808 ≤ x ∧ x ≤ 9223372036854775807) ∧ (-9223372036854775808 ≤ y ∧ y ≤ 9223372036854775807) := by
  obtain ⟨hl, hf⟩ := Rd.field Try.underlying32 z
  have c2 : Try.prog.cellsOf 32 = 2 := by kernel_rfl
  have c1 : Try.prog.cellsOf 3 = 1 := by kernel_rfl
  rw [c2] at hl
  obtain ⟨a, b, rfl⟩ := list2 hl
  obtain ⟨x, hx, wx⟩ := Rd.int Try.underlying3 (hf 0 _ rfl)
  obtain ⟨y, hy, wy⟩ := Rd.int Try.underlying3 (hf 1 _ rfl)
  simp [c1] at hx hy
  subst hx hy
  exact ⟨x, y, rfl, wf_i64 wx, wf_i64 wy⟩

theorem qamMirrors_walk (a0 : Int) (cs1 : Array Value) (cs2 : Array Value) (w : World) (z0 : Rd Try.prog w 22 (Value.int .i64 a0).cells.toList) (z1 : Rd Try.prog w 32 (Value.agg cs1).cells.toList) (z2 : Rd Try.prog w 32 (Value.agg cs2).cells.toList) :
    Calls Try.prog 5 #[.int .i64 a0, .agg cs1, .agg cs2] w fun e w' => e = .returned (.bool true) ∧ Below w.heap.size w w' := by
  obtain ⟨x, y, h1, -, -⟩ := rd_point z1
  obtain ⟨x', y', h2, -, -⟩ := rd_point z2
  obtain rfl : cs1 = #[.int .i64 x, .int .i64 y] := Array.ext' h1
  obtain rfl : cs2 = #[.int .i64 x', .int .i64 y'] := Array.ext' h2
  have key : Calls Try.prog 5 #[.int .i64 a0, .agg #[.int .i64 x, .int .i64 y], .agg #[.int .i64 x', .int .i64 y']] w (SX.Ret fun v w' => v = .bool true ∧ SX.St w [] w' []) := by
    by_cases hv : vm a0 = true
    · have hm : a0 = 2 ∨ a0 = 4 ∨ a0 = 6 := by simp [vm] at hv; omega
      obtain ⟨n, hn, hn3, rfl⟩ : ∃ n : Nat, 1 ≤ n ∧ n ≤ 3 ∧ a0 = ((2 * n : Nat) : Int) := by
        rcases hm with rfl | rfl | rfl
        · exact ⟨1, by omega, by omega, rfl⟩
        · exact ⟨2, by omega, by omega, rfl⟩
        · exact ⟨3, by omega, by omega, rfl⟩
      cases hi : [(x, y), (x', y')].all ins with
      | true => exact mirrors_in n hn hn3 (x, y) (x', y') w hi
      | false => exact mirrors_out n hn hn3 (x, y) (x', y') w hi
    · exact mirrors_none a0 (x, y) (x', y') w (by simpa using hv)
  refine key.mono ?_
  rintro e w' ⟨v, rfl, rfl, h⟩
  exact ⟨rfl, h.below⟩
end Go.Proofs.Ythncbdoiilgnhaa

/- Statements that range over a function; things that are lent to a call. -/
namespace Go.Proofs.Ythncbdoiilgnhaa
open Go.RowKit
set_option linter.unusedVariables false
set_option linter.unusedSimpArgs false
namespace SX
variable {w0 w w' : World} {M : List Nat} {L L1 L2 L' : List Ent}
/-- The first things are lent to a call .. -/
theorem St.lend (h : St w0 M w (L1 ++ L2)) : St w (idsOf L1) w L1 := by
  have hn := h.nodup
  simp only [idsOf, List.flatMap_append] at hn
  exact St.own (List.nodup_append.1 hn).1 fun e he => h.ok e (List.mem_append_left _ he)
/-- .. and come back, others may be. -/
theorem St.regain (h : St w0 M w (L1 ++ L2)) (h' : St w (idsOf L1) w' L') : St w0 M w' (L' ++ L2) := h.comp h' fun _ hb => hb
theorem St.all (h : St w0 M w L) : St w (idsOf L) w L := St.own h.nodup h.ok
/-- Behind a call to which all was lent. -/
theorem St.regainAll (h : St w0 M w L) (h' : St w (idsOf L) w' L') : St w0 M w' L' := by
  have := St.comp (L1 := L) (L2 := []) (by simpa using h) h' fun _ hb => hb
  simpa using this
theorem St.take1 {e : Ent} (h : St w0 M w (e :: L)) : St w0 M w ([e] ++ L) := h
theorem St.take2 {e e' : Ent} (h : St w0 M w (e :: e' :: L)) : St w0 M w ([e, e'] ++ L) := h
end SX
namespace Z
variable {N : Nat} {E E' : Env} {D : List Deferred} {a : Act} {G : Guards} {F : Fence} {n : Nat} {P : Program} {S : World → Prop} {ops : Array Oper} {o : Oper} {v : Value}
variable {K : Act → World → Prop} {Q : Exit → Act → World → Prop} {w w' w0 : World} {rest : List Oper} {M : List Nat} {L L1 L2 : List SX.Ent} {x : Operand} {d : Nat}

/-- a call of yield -/
theorem ZO.yield {l : Nat} {asz : Array Operand} {ts : Array TypeId} {vs : List Value} {args : Array Value} {Rp : Ending → World → Prop}
    (ho : o.op = .call { callee := .value x, args := asz, argTypes := ts }) (hd : o.dst = some d) (hc : chk N d E [] = true) (hx : ev E [] x = some (.func (.yield l) #[] #[])) (hv : evs E [] asz.toList = some vs) (he : vs.toArray = args)
    (hY : YieldAt Fence.wide 0 P l args w Rp) (hK : ∀ e w', Rp e w' → ∃ v, e = .returned v ∧ Z N ((d, [], v) :: E) D K w') : ZO Fence.wide 0 P N E D o K Q w := by
  intro a ha
  obtain ⟨c1, c2, c3⟩ := chk_spec hc
  refine SX.wp_yield ho (ev0 ha hx) (by rw [evs_eval ha gnil hv, he]) hY fun e w' hr => ?_
  obtain ⟨v, rfl, hk⟩ := hK e w' hr
  refine ⟨v, rfl, ?_⟩
  rw [hd]
  exact hk _ (ha.put c1 c2 c3 (by rw [if_pos gnil]))

/-- the parameters of a round get their values -/
def bindE : List Nat → List Value → Env → Option Env
  | [], [], E => some E
  | p :: ps, v :: vs, E => match free p E with
    | true => bindE ps vs ((p, [], v) :: E)
    | false => none
  | _, _, _ => none
theorem bindE_holds : ∀ {ps : List Nat} {vs : List Value} {E E' : Env} {tmps : Array Value}, Holds { tmps := tmps, defers := D } N E D → (∀ p ∈ ps, p < N) → bindE ps vs E = some E' →
    Holds { tmps := (ps.zip vs).foldl (fun t (p, v) => t.setIfInBounds p v) tmps, defers := D } N E' D
  | [], [], E, E', tmps, h, _, hb => by
    obtain rfl := Option.some.inj hb
    exact h
  | p :: ps, v :: vs, E, E', tmps, h, hp, hb => by
    unfold bindE at hb
    cases hf : free p E with
    | false => rw [hf] at hb; cases hb
    | true =>
      rw [hf] at hb
      have h1 := h.put (d := p) (v := v) (u := v) (G := []) (by
        have := hp p (by simp)
        exact Nat.ble_eq_true_of_le this) hf (by simp) (by rw [if_pos gnil])
      exact bindE_holds (tmps := tmps.setIfInBounds p v) h1 (fun q hq => hp q (List.mem_cons_of_mem _ hq)) hb
  | [], _ :: _, _, _, _, _, _, hb => by cases hb
  | _ :: _, [], _, _, _, _, _, hb => by cases hb

/-- how a body's round may be left -/
theorem rnorm {α : Type} {I : List α → List SX.Ent → Prop} {Ix : Code → List SX.Ent → Prop} {xs : List α} {Zs : List SX.Ent} (L' : List SX.Ent) (hi : I xs L') (hs : SX.St w0 M w (L' ++ Zs)) : Z N E D (SX.roundQ w0 M I Ix xs Zs .normal) w := fun _ _ => ⟨L', hi, hs⟩
theorem rret {α : Type} {I : List α → List SX.Ent → Prop} {Ix : Code → List SX.Ent → Prop} {xs : List α} {Zs : List SX.Ent} (L' : List SX.Ent) (hi : Ix .ret L') (hs : SX.St w0 M w (L' ++ Zs)) : Z N E D (SX.roundQ w0 M I Ix xs Zs .ret) w := fun _ _ => ⟨L', hi, hs⟩
theorem rexit {α : Type} {I : List α → List SX.Ent → Prop} {Ix : Code → List SX.Ent → Prop} {xs : List α} {Zs : List SX.Ent} {id : Nat} (L' : List SX.Ent) (hi : Ix (.exit id) L') (hs : SX.St w0 M w (L' ++ Zs)) : Z N E D (SX.roundQ w0 M I Ix xs Zs (.exit id)) w := fun _ _ => ⟨L', hi, hs⟩

/-- the end of a round's assignments -/
theorem assigned {α : Type} {Zs : List SX.Ent} {body : Code} {l : Nat} {I : List α → List SX.Ent → Prop} {Ix : Code → List SX.Ent → Prop} {xs : List α} (L1 : List SX.Ent) (hs : SX.St w0 M w (L1 ++ Zs))
    (h : ∀ W2 Z2, SX.St w0 M W2 (L1 ++ Z2) → Z N E D (body.wpIn (Fence.wide.inRound l) 0 P (SX.roundQ w0 M I Ix xs Z2)) W2) :
    Z N E D (fun a₁ W₁ => ∃ L₁, SX.St w0 M W₁ (L₁ ++ Zs) ∧ ∀ W₂ Z₂, SX.St w0 M W₂ (L₁ ++ Z₂) → body.wpIn (Fence.wide.inRound l) 0 P (SX.roundQ w0 M I Ix xs Z₂) a₁ W₂) w := fun a ha => ⟨L1, hs, fun W2 Z2 h2 => h W2 Z2 h2 a ha⟩

/-- **the statement, at the outermost level of a function** -/
theorem rangeFunc {α : Type} {g : Operand} {ps : List Tmp} {assign body : Code} {gf : Nat} {lb : Array Value} {A : α → Array Value → List SX.Ent → Prop} {E0 L0 : List SX.Ent} {R : World → List Nat → Prop} {xs : List α}
    (hseq : SX.SeqC P gf lb A E0 R xs) (hg : ev E [] g = some (.func (.func gf) #[] lb)) (eg : ∀ args w, (callFunc gf args).run P w = .ok (.enter gf args) w)
    (hs : SX.St w0 M w (L0 ++ E0)) (hR : R w0 M) (hps : ∀ x args Lx, A x args Lx → args.size = ps.length) (hpN : ps.all (fun p => Nat.blt p N) = true)
    (I : List α → List SX.Ent → Prop) (Ix : Code → List SX.Ent → Prop) (h0 : I [] L0)
    (hround : ∀ (l : Nat) (Zs : List SX.Ent) pre x args W L Lx, I pre L → (pre ++ [x]) <+: xs → A x args Lx → SX.St w0 M W (Lx ++ (L ++ Zs)) → ∃ Er, bindE ps args.toList E = some Er ∧
      Z N Er [] (assign.wpIn (Fence.wide.inRound l) 0 P (Exit.then (fun a₁ W₁ => ∃ L₁, SX.St w0 M W₁ (L₁ ++ Zs) ∧ ∀ W₂ Z₂, SX.St w0 M W₂ (L₁ ++ Z₂) →
        body.wpIn (Fence.wide.inRound l) 0 P (SX.roundQ w0 M I Ix (pre ++ [x]) Z₂) a₁ W₂) (fun _ _ _ => False))) W)
    (hdone : ∀ Dd W L, I xs L → SX.St w0 M W (L ++ (SX.Ent.obj Dd (.deferred (some [])) :: E0)) → Z N E ({ target := .collected Dd, args := #[] } :: D) (Q .normal) W)
    (hstop : ∀ Dd c W L, Ix c L → SX.St w0 M W (L ++ (SX.Ent.obj Dd (.deferred (some [])) :: E0)) → Z N E ({ target := .collected Dd, args := #[] } :: D) (c.wpIn Fence.wide 0 P Q) W) :
    Z N E D ((Code.rangeFunc g ps.toArray assign body).wpIn Fence.wide 0 P Q) w := by
  intro a ha
  have hD : ∀ Dd, Holds { a with defers := { target := .collected Dd, args := #[] } :: a.defers } N E ({ target := .collected Dd, args := #[] } :: D) := fun Dd =>
    ⟨ha.size, ha.get, by rw [ha.defers]⟩
  refine SX.rangeFunc (α := α) hseq (ev0 ha hg) eg hs hR (fun x args Lx h => by simpa using hps x args Lx h) I Ix h0 (fun l Zs pre x args W L Lx h1 h2 h3 h4 => ?_) (fun Dd W L h1 h2 => hdone Dd W L h1 h2 _ (hD Dd)) (fun Dd c W L h1 h2 => hstop Dd c W L h1 h2 _ (hD Dd))
  obtain ⟨Er, hb, hz⟩ := hround l Zs pre x args W L Lx h1 h2 h3 h4
  refine hz _ ?_
  have hh : Holds { tmps := a.tmps, defers := [] } N E [] := ⟨ha.size, ha.get, rfl⟩
  have := bindE_holds hh (fun p hp => by
    have := List.all_eq_true.1 hpN p hp
    exact Nat.le_of_ble_eq_true this) hb
  have e : (ps.toArray.zip args).foldl (fun t (p, v) => t.setIfInBounds p v) a.tmps = (ps.zip args.toList).foldl (fun t (p, v) => t.setIfInBounds p v) a.tmps := by
    rw [← Array.foldl_toList]
    congr 1
    simp [Array.toList_zip]
  rw [e]
  exact this

/-! ## labels nobody jumps to -/
theorem scope {c : Code} (h : Z N E D (c.wpIn Fence.wide 0 P (Exit.noGoto Q)) w) : Z N E D ((Code.scope c).wpIn Fence.wide 0 P Q) w := fun a ha => wpIn_wide.2 (wp_scope_straight (wpIn_wide.1 (h a ha)))
theorem nscope (h : Z N E D (Q .normal) w) : Z N E D (Exit.noGoto Q .normal) w := h
theorem rscope (h : Z N E D (Q .ret) w) : Z N E D (Exit.noGoto Q .ret) w := h
theorem xscope {id : Nat} (h : Z N E D (Q (.exit id)) w) : Z N E D (Exit.noGoto Q (.exit id)) w := h
theorem pscope {ch : List PanicEntry} (h : Z N E D (Q (.panic ch)) w) : Z N E D (Exit.noGoto Q (.panic ch)) w := h

/-! ## the ends of a function that holds such a statement -/
theorem outM0 {fn : Func} {R : Ending → World → Prop} {vs : List Value} (h : RV P w E fn.results.toList vs) (hR : R (.returned (pack vs)) w) : Z N E [] (bodyPostM Fence.wide 0 P fn R .ret) w :=
  fun a ha => SX.leave0 ha.defers (results_run ha h rfl) hR
theorem outM0n {fn : Func} {R : Ending → World → Prop} {vs : List Value} (h : RV P w E fn.results.toList vs) (hR : R (.returned (pack vs)) w) : Z N E [] (bodyPostM Fence.wide 0 P fn R .normal) w :=
  fun a ha => SX.leave0 ha.defers (results_run ha h rfl) hR
theorem outM1 {fn : Func} {R : Ending → World → Prop} {vs : List Value} {Dd : Nat} (hs : SX.St w0 M w (L1 ++ SX.Ent.obj Dd (.deferred (some [])) :: L2)) (h : ∀ w', SX.St w0 M w' (L1 ++ L2) → RV P w' E fn.results.toList vs) (h0 : RV P w E fn.results.toList vs) (hR : ∀ w', SX.St w0 M w' (L1 ++ L2) → R (.returned (pack vs)) w') :
    Z N E [{ target := .collected Dd, args := #[] }] (bodyPostM Fence.wide 0 P fn R .ret) w := by
  intro a ha
  show LeavesInM Fence.wide 0 P fn a.tmps R a.defers .returning w
  rw [ha.defers]
  refine ⟨by simp, .inl ⟨Dd, _, rfl, run_takeDeferred hs.getMid, ?_⟩⟩
  have hs' : SX.St w0 M (w.putObj Dd (.deferred none)) (L1 ++ L2) := (hs.putMid (.deferred none)).sub (List.Sublist.append (List.Sublist.refl _) (List.sublist_cons_self _ _))
  exact ⟨pack vs, results_run ha (h _ hs') rfl, hR _ hs'⟩
theorem outM1n {fn : Func} {R : Ending → World → Prop} {vs : List Value} {Dd : Nat} (hs : SX.St w0 M w (L1 ++ SX.Ent.obj Dd (.deferred (some [])) :: L2)) (h : ∀ w', SX.St w0 M w' (L1 ++ L2) → RV P w' E fn.results.toList vs) (h0 : RV P w E fn.results.toList vs) (hR : ∀ w', SX.St w0 M w' (L1 ++ L2) → R (.returned (pack vs)) w') :
    Z N E [{ target := .collected Dd, args := #[] }] (bodyPostM Fence.wide 0 P fn R .normal) w := outM1 hs h h0 hR
end Z
end Go.Proofs.Ythncbdoiilgnhaa

/- Appends from any slice, comparisons with nil, strings of bytes, slices beside what is lent. -/
namespace Go.Proofs.Ythncbdoiilgnhaa
open Go.RowKit
set_option linter.unusedVariables false
set_option linter.unusedSimpArgs false
namespace Z
variable {N : Nat} {E E' : Env} {D : List Deferred} {a : Act} {G : Guards} {F : Fence} {n : Nat} {P : Program} {S : World → Prop} {ops : Array Oper} {o : Oper} {v : Value}
variable {K : Act → World → Prop} {Q : Exit → Act → World → Prop} {w w' w0 : World} {rest : List Oper} {M : List Nat} {L L1 L2 : List SX.Ent} {x y : Operand} {d : Nat} {T T' : TypeId} {k : IntKind}

/-- v is a slice that reads xs, in blocks that were there and are not of M -/
def _root_.Go.Proofs.Ythncbdoiilgnhaa.Sx (w : World) (M : List Nat) (A : Option Addr) (xs : List Value) : Prop :=
  0 < xs.length → ∃ b off, A = some ⟨b, off, none⟩ ∧ b < w.heap.size ∧ b ∉ M ∧ ∀ j u, xs[j]? = some u → w.cell? ⟨b, off + j, none⟩ = some u

theorem _root_.Go.Proofs.Ythncbdoiilgnhaa.Sx.sl {w : World} {A : Option Addr} {xs : List Value} (h : Sx w M A xs) : Sl w A xs := fun hp => by
  obtain ⟨b, off, e, hb, _, hc⟩ := h hp
  exact ⟨b, off, e, hb, hc⟩
theorem _root_.Go.Proofs.Ythncbdoiilgnhaa.Sl.sx {w : World} {A : Option Addr} {xs : List Value} (h : Sl w A xs) : Sx w [] A xs := fun hp => by
  obtain ⟨b, off, e, hb, hc⟩ := h hp
  exact ⟨b, off, e, hb, by simp, hc⟩
/-- what was there is there still -/
theorem _root_.Go.Proofs.Ythncbdoiilgnhaa.Sx.st {A : Option Addr} {xs : List Value} (h : Sx w0 M A xs) (hs : SX.St w0 M w L) : Sl w A xs := fun hp => by
  obtain ⟨b, off, e, hb, hM, hc⟩ := h hp
  exact ⟨b, off, e, Nat.lt_of_lt_of_le hb hs.size, fun j u hu => (hs.oldcell (p := ⟨b, off + j, none⟩) hb hM).trans (hc j u hu)⟩
/-- .. and apart from what is lent -/
theorem _root_.Go.Proofs.Ythncbdoiilgnhaa.Sx.lent {A : Option Addr} {xs : List Value} (h : Sx w0 M A xs) (hs : SX.St w0 M w (L1 ++ L2)) : Sx w (SX.idsOf L1) A xs := fun hp => by
  obtain ⟨b, off, e, hb, hM, hc⟩ := h hp
  refine ⟨b, off, e, Nat.lt_of_lt_of_le hb hs.size, fun hin => ?_, fun j u hu => (hs.oldcell (p := ⟨b, off + j, none⟩) hb hM).trans (hc j u hu)⟩
  have : b ∈ SX.idsOf (L1 ++ L2) := by simp only [SX.idsOf, List.flatMap_append, List.mem_append]; exact .inl hin
  rcases hs.new b this with h1 | h1
  · omega
  · exact hM h1
theorem _root_.Go.Proofs.Ythncbdoiilgnhaa.Sx.some {A : Option Addr} {xs : List Value} (h : Sx w M A xs) (hp : 0 < xs.length) : ∃ b off, A = Option.some ⟨b, off, none⟩ ∧ Sx w M (Option.some ⟨b, off, none⟩) xs := by
  obtain ⟨b, off, e, hb, hM, hc⟩ := h hp
  subst e
  exact ⟨b, off, rfl, h⟩
/-- a row of ours, apart from what is lent -/
theorem row_lent {g kk cc T size m j : Nat} {xs : List Value} (hs : SX.St w0 M w (L1 ++ L2)) (hj : L2[j]? = some (SX.Ent.row (.slice (some ⟨g, 0, none⟩) kk cc) T size m xs)) : Sx w (SX.idsOf L1) (some ⟨g, 0, none⟩) xs := fun hp => by
  have hj' : (L1 ++ L2)[L1.length + j]? = some (SX.Ent.row (.slice (some ⟨g, 0, none⟩) kk cc) T size m xs) := by
    rw [List.getElem?_append_right (by omega)]
    simpa using hj
  have hr : w.ownsRow 0 T size (.slice (some ⟨g, 0, none⟩) kk cc) m xs := hs.get hj'
  have hlt := (hr.lt g rfl).2
  refine ⟨g, 0, rfl, hlt, fun hin => ?_, fun i u hu => by simpa using SX.row_cell hs hj' hu⟩
  have hn := hs.nodup
  simp only [SX.idsOf, List.flatMap_append] at hn
  refine (List.nodup_append.1 hn).2.2 g hin g ?_ rfl
  exact List.mem_flatMap.2 ⟨_, List.mem_of_getElem? hj, by simp [SX.Ent.row, Value.ownBlock]⟩
theorem row_lentv {T size m j kk cc : Nat} {A : Option Addr} {xs : List Value} (hs : SX.St w0 M w (L1 ++ L2)) (hj : L2[j]? = some (SX.Ent.row (.slice A kk cc) T size m xs)) : Sx w (SX.idsOf L1) A xs := fun hp => by
  have hj' : (L1 ++ L2)[L1.length + j]? = some (SX.Ent.row (.slice A kk cc) T size m xs) := by
    rw [List.getElem?_append_right (by omega)]
    simpa using hj
  have hr : w.ownsRow 0 T size (.slice A kk cc) m xs := hs.get hj'
  rcases hr.2 with ⟨hv, h⟩ | ⟨g, cap, cur, hv, _⟩
  · have := hr.1
    rw [h] at this
    simp at this
    rw [this] at hp
    cases hp
  · simp only [Value.slice.injEq] at hv
    obtain ⟨rfl, rfl, rfl⟩ := hv
    exact row_lent hs hj hp

/-- elements of a borrowed slice -/
theorem cellX {b off : Nat} {xs : List Value} {i : Nat} {u : Value} (h : Sx w0 M (some ⟨b, off, none⟩) xs) (hu : xs[i]? = some u) : ∀ w, SX.Keep w0 M L w → w.cell? ⟨b, off + i, none⟩ = some u := by
  obtain ⟨b', off', e, hb, hM, hc⟩ := h (by have := (List.getElem?_eq_some_iff.1 hu).1; omega)
  simp only [Option.some.injEq, Addr.mk.injEq, and_true] at e
  obtain ⟨rfl, rfl⟩ := e
  exact cellO hb hM (hc i u hu)
theorem cellXi {b off : Nat} {l : List Int} {i : Int} (h : Sx w0 M (some ⟨b, off, none⟩) (ints k l)) (h0 : 0 ≤ i) (hi : i < l.length) : ∀ w, SX.Keep w0 M L w → w.cell? ⟨b, off + i.toNat * 1, none⟩ = some (.int k (elt l i)) := by
  rw [Nat.mul_one]
  exact cellX h (ints_get h0 hi)
theorem flat_get {α β : Type} {enc : α → List β} {s : Nat} (hs : ∀ x, (enc x).length = s) : ∀ {xs : List α} {i j : Nat} {x : α}, xs[i]? = some x → j < s → (xs.flatMap enc)[i * s + j]? = (enc x)[j]?
  | [], i, j, x, h, _ => by simp at h
  | y :: xs, 0, j, x, h, hj => by
    obtain rfl : y = x := by simpa using h
    have := hs y
    rw [List.flatMap_cons, Nat.zero_mul, Nat.zero_add, List.getElem?_append_left (by omega)]
  | y :: xs, i + 1, j, x, h, hj => by
    have := hs y
    rw [List.flatMap_cons, List.getElem?_append_right (by rw [Nat.add_mul]; omega), this, show (i + 1) * s + j - s = i * s + j from by rw [Nat.add_mul]; omega]
    exact flat_get hs (by simpa using h) hj
theorem flat_length {α β : Type} {enc : α → List β} {s : Nat} (hs : ∀ x, (enc x).length = s) : ∀ {xs : List α}, (xs.flatMap enc).length = xs.length * s
  | [] => by simp
  | y :: xs => by rw [List.flatMap_cons, List.length_append, flat_length hs, hs y, List.length_cons, Nat.add_mul]; omega
/-- a field of an element of a borrowed slice of structs -/
theorem cellXf {α : Type} {enc : α → List Value} {s : Nat} {xs : List α} {b off : Nat} {i : Nat} {j : Nat} {x : α} {u : Value} (h : Sx w0 M (some ⟨b, off, none⟩) (xs.flatMap enc)) (hs : ∀ x, (enc x).length = s) (hx : xs[i]? = some x) (hj : (enc x)[j]? = some u) :
    ∀ w, SX.Keep w0 M L w → w.cell? ⟨b, off + (i : Int).toNat * s + j, none⟩ = some u := by
  have hjs : j < s := by
    have := (List.getElem?_eq_some_iff.1 hj).1
    rwa [hs x] at this
  rw [Nat.add_assoc, Int.toNat_natCast]
  exact cellX h ((flat_get hs hx hjs).trans hj)

/-! ## appends -/
theorem append_rowG {s z : Operand} {T' t : TypeId} {A : Option Addr} {k m c size bytes : Nat} {xs news : List Value} {j : Nat} {i0 : TypeInfo} {zv : Value} (ho : o.op = .call { callee := .builtin .append, args := #[s, z], argTypes := #[t, t] }) (hs : SX.St w0 M w L)
    (ht : P.underlying t = some (.slice T')) (hi : P.info? T' = some i0) (hz : i0.zero = some zv) (hsize : i0.size = size) (hby : i0.bytes = bytes) (hzs : zv.cells.size = size) (hpos : 0 < size)
    (hv : a.eval s = v) (hx : a.eval z = .slice A m c) (hj : L[j]? = some (SX.Ent.row v T' size k xs)) (hl : news.length = m * size) (hn : Sl w A news)
    (h1 : ∀ u ∈ news, u.oneCell' = true) (h63 : k + m ≤ maxLen) (hbytes : (k + m) * bytes ≤ 140737488355328)
    (hK : ∀ v' w', SX.St w0 M w' (L.set j (SX.Ent.row v' T' size (k + m) (xs ++ news))) → K (a.put o.dst v') w') (hF : ∀ f, F.fn f) :
    o.wpIn F n P a w K Q := by
  have hr : w.ownsRow 0 T' size v k xs := hs.get hj
  have run : ∃ v' w', (Builtin.append_ #[t, t] o.type #[v, .slice A m c]).run P w = .ok v' w' ∧ w'.ownsRow 0 T' size v' (k + m) (xs ++ news) ∧ w.grownBy w' v.ownBlock ∧ (v'.ownBlock = v.ownBlock ∨ v'.ownBlock = some w.heap.size) := by
    cases A with
    | none =>
      have hm : m = 0 := by
        by_cases hm : m = 0
        · exact hm
        · exfalso
          obtain ⟨b, off, e, _⟩ := hn (by rw [hl]; exact Nat.mul_pos (by omega) hpos)
          cases e
      subst hm
      have hne : news = [] := List.eq_nil_of_length_eq_zero (by simpa using hl)
      subst hne
      have hrun : (Builtin.append_ #[t, t] o.type #[v, .slice none 0 c]).run P w = .ok v w := by
        rcases hr.2 with ⟨rfl, rfl⟩ | ⟨g, cap, cur, rfl, _, _, h2, _⟩
        · simp [Builtin.append_, run_underlying ht, sizeOf, typeInfo, hi, Builtin.lenOf, Builtin.firstCells]
        · simp [Builtin.append_, run_underlying ht, sizeOf, typeInfo, hi, Builtin.lenOf, Builtin.firstCells, h2, storeCells]
      refine ⟨v, w, hrun, by simpa using hr, ?_, .inl rfl⟩
      exact ⟨rfl, rfl, rfl, Nat.le_refl _, fun _ _ _ => rfl⟩
    | some ad =>
      have hnews : ∀ i u, news[i]? = some u → w.cell? (ad.add i) = some u := fun i u hu => by
        obtain ⟨b, off, e, _, hc⟩ := hn (by have := (List.getElem?_eq_some_iff.1 hu).1; omega)
        obtain rfl := Option.some.inj e
        rw [add_none]
        exact hc i u hu
      obtain ⟨v', w', h2, h3, h4, _, h5⟩ := run_append_own_at (P := P) w 0 t o.type T' i0 zv size bytes ht hi hz hsize hby hzs hpos v k xs hr ad m c news hl hnews h1 h63 hbytes (Nat.zero_le _)
      exact ⟨v', w', h2, h3, h4, h5⟩
  obtain ⟨v', w', hrun, h2, h3, h5⟩ := run
  refine ⟨fun f _ => hF f, ?_⟩
  rw [Oper.semAt_plain F _ _ (by intro c hc; rw [ho] at hc; cases hc)]
  simp only [execOp, ho, resolve, invoke, builtin, Sem.run_bind, Sem.run_pure, Result.andThen_ok, List.map_toArray, List.map_cons, List.map_nil, hv, hx, hrun]
  refine hK v' w' (SX.St.back hj ((hs.front hj).step h3.os h3.tape h3.output h3.size (fun b hb hne => h3.block b hb (fun e => hne ?_)) ?_ (fun b hb => ?_) h2))
  · simp [SX.Ent.row, ← e]
  · cases h : v'.ownBlock <;> simp [SX.Ent.row, h]
  · have hb' : v'.ownBlock = some b := by
      cases h : v'.ownBlock with
      | none => simp [SX.Ent.row, h] at hb
      | some q => simp [SX.Ent.row, h] at hb; rw [hb]
    rcases h5 with h5 | h5
    · left
      rw [h5] at hb'
      simp [SX.Ent.row, hb']
    · right
      rw [h5] at hb'
      simp only [Option.some.injEq] at hb'
      omega
theorem ZO.appendG [Wide F] {s z : Operand} {T' t : TypeId} {A : Option Addr} {kk m c size bytes : Nat} {xs news : List Value} {j : Nat} {i0 : TypeInfo} {zv : Value}
    (ho : o.op = .call { callee := .builtin .append, args := #[s, z], argTypes := #[t, t] }) (hd : o.dst = some d) (hc : chk N d E [] = true) (hs : SX.St w0 M w L)
    (ht : P.underlying t = some (.slice T')) (hi : P.info? T' = some i0) (hz : i0.zero = some zv) (hsize : i0.size = size) (hby : i0.bytes = bytes) (hzs : zv.cells.size = size) (hpos : 0 < size)
    (hv : ev E [] s = some v) (hx : ev E [] z = some (.slice A m c)) (hj : L[j]? = some (SX.Ent.row v T' size kk xs)) (hn : Sl w A news) (hl : news.length = m * size)
    (h1 : ∀ u ∈ news, u.oneCell' = true) (h63 : kk + m ≤ maxLen) (hbytes : (kk + m) * bytes ≤ 140737488355328)
    (h : ∀ v' w', SX.St w0 M w' (L.set j (SX.Ent.row v' T' size (kk + m) (xs ++ news))) → Z N ((d, [], v') :: E) D K w') : ZO F n P N E D o K Q w := by
  intro a ha
  obtain ⟨c1, c2, c3⟩ := chk_spec hc
  refine append_rowG ho hs ht hi hz hsize hby hzs hpos (ev0 ha hv) (ev0 ha hx) hj hl hn h1 h63 hbytes (fun v' w' hs' => ?_) (fun f => Wide.fn f)
  rw [hd]
  exact h v' w' hs' _ (ha.put c1 c2 c3 (by rw [if_pos gnil]))
/-- []T{} -/
theorem ZO.empty [Wide F] (ho : o.op = .buildSlice T 0 #[]) (hd : o.dst = some d) (hc : chk N d E [] = true) (ht : P.underlying T = some (.slice T')) {s : Nat} (hsz : ∀ w, (sizeOf T').run P w = .ok s w) (hs : SX.St w0 M w L)
    (h : ∀ g w', SX.St w0 M w' (SX.Ent.row (.slice (some ⟨g, 0, none⟩) 0 0) T' s 0 [] :: L) → Z N ((d, [], .slice (some ⟨g, 0, none⟩) 0 0) :: E) D K w') : ZO F n P N E D o K Q w := by
  refine ZO.value (v := .slice (some ⟨w.heap.size, 0, none⟩) 0 0) (w' := w.alloc (.cells #[] T')) (by intro c e; rw [ho] at e; cases e) hd hc (fun a ha => ?_) (h _ _ ?_)
  · have e0 : Array.range 0 = #[] := Array.eq_empty_of_size_eq_zero (by simp)
    simp [execOp, ho, Instr.buildSlice, run_underlying ht, hsz, Instr.fill, newRow, e0]
  · exact SX.St.asRow (hs.alloc (.cells #[] T')) (by simp) (Nat.zero_le _)
theorem ints_one {l : List Int} : ∀ u ∈ ints k l, u.oneCell' = true := fun u hu => by
  simp only [ints, List.mem_map] at hu
  obtain ⟨z, _, rfl⟩ := hu
  rfl

/-! ## comparisons with nil -/
theorem eqIn_slice (q : Nat) {A : Option Addr} {nn cc : Nat} {e : TypeId} (ht : P.underlying T = some (.slice e)) : (Op.equalIn (q + 1) T (.slice A nn cc) (.slice none 0 0)).run P w = .ok A.isNone w := by
  cases A <;> simp [Op.equalIn, run_underlying ht]
theorem eqIn_ptr (q : Nat) {A : Option Addr} {e : TypeId} (ht : P.underlying T = some (.pointer e)) : (Op.equalIn (q + 1) T (.pointer A) (.pointer none)).run P w = .ok A.isNone w := by
  cases A <;> simp [Op.equalIn, run_underlying ht]
theorem Yd.sliceNil {A : Option Addr} {nn cc : Nat} {e : TypeId} (hx : ev E G x = some (.slice A nn cc)) (hy : y = .const (.slice none 0 0)) (ht : P.underlying T = some (.slice e)) : Yd P N D S E G (.binOp .eql T x y T') (.bool A.isNone) :=
  Yd.bin hx (by rw [hy]; rfl) fun _ w => by
    have : eqGuard .eql T x y (.slice A nn cc) (.slice none 0 0) = Pure.pure () := rfl
    rw [this]
    simp only [binOp]
    simp [Op.equal, Op.maxDepth, eqIn_slice 9999 ht]
theorem Yd.sliceNnil {A : Option Addr} {nn cc : Nat} {e : TypeId} (hx : ev E G x = some (.slice A nn cc)) (hy : y = .const (.slice none 0 0)) (ht : P.underlying T = some (.slice e)) : Yd P N D S E G (.binOp .neq T x y T') (.bool (!A.isNone)) :=
  Yd.bin hx (by rw [hy]; rfl) fun _ w => by
    have : eqGuard .neq T x y (.slice A nn cc) (.slice none 0 0) = Pure.pure () := rfl
    rw [this]
    simp only [binOp]
    simp [Op.equal, Op.maxDepth, eqIn_slice 9999 ht]
theorem Yd.ptrNil {A : Option Addr} {e : TypeId} (hx : ev E G x = some (.pointer A)) (hy : y = .const (.pointer none)) (ht : P.underlying T = some (.pointer e)) : Yd P N D S E G (.binOp .eql T x y T') (.bool A.isNone) :=
  Yd.bin hx (by rw [hy]; rfl) fun _ w => by
    have : eqGuard .eql T x y (.pointer A) (.pointer none) = Pure.pure () := rfl
    rw [this]
    simp only [binOp]
    simp [Op.equal, Op.maxDepth, eqIn_ptr 9999 ht]
theorem Yd.ptrNnil {A : Option Addr} {e : TypeId} (hx : ev E G x = some (.pointer A)) (hy : y = .const (.pointer none)) (ht : P.underlying T = some (.pointer e)) : Yd P N D S E G (.binOp .neq T x y T') (.bool (!A.isNone)) :=
  Yd.bin hx (by rw [hy]; rfl) fun _ w => by
    have : eqGuard .neq T x y (.pointer A) (.pointer none) = Pure.pure () := rfl
    rw [this]
    simp only [binOp]
    simp [Op.equal, Op.maxDepth, eqIn_ptr 9999 ht]

/-! ## strings of bytes -/
def strOf (l : List Int) : ByteArray := l.foldl (fun r n => r.push (UInt8.ofNat n.toNat)) ByteArray.empty
theorem strOf_list (l : List Int) : (strOf l).data.toList = l.map fun n => UInt8.ofNat n.toNat := by
  have : ∀ (l : List Int) (r : ByteArray), (l.foldl (fun r n => r.push (UInt8.ofNat n.toNat)) r).data.toList = r.data.toList ++ l.map fun n => UInt8.ofNat n.toNat := by
    intro l
    induction l with
    | nil => intro r; simp
    | cons x l ih => intro r; rw [List.foldl_cons, ih]; simp [ByteArray.push]
  unfold strOf
  simpa using this l ByteArray.empty
theorem strOf_inj {l m : List Int} (hl : ∀ x ∈ l, 0 ≤ x ∧ x < 256) (hm : ∀ x ∈ m, 0 ≤ x ∧ x < 256) (h : strOf l = strOf m) : l = m := by
  have h1 := congrArg (fun s : ByteArray => s.data.toList) h
  simp only [strOf_list] at h1
  have : ∀ (l m : List Int), (∀ x ∈ l, 0 ≤ x ∧ x < 256) → (∀ x ∈ m, 0 ≤ x ∧ x < 256) → (l.map fun n => UInt8.ofNat n.toNat) = (m.map fun n => UInt8.ofNat n.toNat) → l = m := by
    intro l
    induction l with
    | nil => intro m _ _ h; cases m <;> simp_all
    | cons x l ih =>
      intro m hl hm h
      cases m with
      | nil => simp at h
      | cons y m =>
        simp only [List.map_cons, List.cons.injEq] at h
        have hx := hl x (by simp)
        have hy := hm y (by simp)
        have e := congrArg UInt8.toNat h.1
        simp [UInt8.toNat_ofNat] at e
        have : x = y := by omega
        rw [this, ih m (fun z hz => hl z (by simp [hz])) (fun z hz => hm z (by simp [hz])) h.2]
  exact this l m hl hm h1
theorem Yd.b2s {A : Option Addr} {nn cc : Nat} {l : List Int} {e : TypeId} (hx : ev E G x = some (.slice A nn cc)) (ht : P.underlying T = some (.slice e)) (he : P.underlying e = some (.int .u8)) (ht' : P.underlying T' = some .string)
    (hl : l.length = nn) (hc : ∀ w, S w → Sl w A (ints .u8 l)) : Yd P N D S E G (.convert T T' x) (.string (strOf l)) := by
  refine ⟨fun c e => (by cases e), fun a ha hg o ho w hS => ?_⟩
  have h1 := ev_eval ha hg hx
  have hsl := hc w hS
  have hrun : (Conv.bytesToString (.slice A nn cc)).run P w = .ok (.string (strOf l)) w := by
    cases A with
    | none =>
      have : l = [] := by
        cases l with
        | nil => rfl
        | cons x l =>
          obtain ⟨b, off, e, _⟩ := hsl (by simp [ints])
          cases e
      subst this
      simp [Conv.bytesToString, strOf]
    | some ad =>
      refine run_bytesToString w ad nn cc l ?_
      by_cases hp : 0 < l.length
      · obtain ⟨b, off, e, _, hcell⟩ := hsl (by simpa [ints] using hp)
        obtain rfl := Option.some.inj e
        have := run_loadCells_list (P := P) w ⟨b, off, none⟩ (l.map (Value.int .u8)) (fun j u hu => by rw [add_none]; exact hcell j u hu)
        simpa [hl] using this
      · have : l = [] := List.eq_nil_of_length_eq_zero (by omega)
        subst this
        simp at hl
        subst hl
        rfl
  simp only [execOp, ho, h1, Go.convert, Sem.run_bind, run_underlying ht, run_underlying ht', run_underlying he, Result.andThen_ok, hrun, Sem.run_pure]
theorem Yd.strEq {s t : ByteArray} (hx : ev E G x = some (.string s)) (hy : ev E G y = some (.string t)) : Yd P N D S E G (.binOp .eql T x y T') (.bool (s.toList == t.toList)) :=
  Yd.bin hx hy fun _ w => by
    have : eqGuard .eql T x y (.string s) (.string t) = Pure.pure () := rfl
    rw [this]
    simp [binOp, Op.stringOp]
theorem str_eq {l m : List Int} (hl : ∀ x ∈ l, 0 ≤ x ∧ x < 256) (hm : ∀ x ∈ m, 0 ≤ x ∧ x < 256) : ((strOf l).toList == (strOf m).toList) = decide (l = m) := by
  by_cases h : l = m
  · subst h; simp
  · rw [decide_eq_false h]
    cases hb : ((strOf l).toList == (strOf m).toList) with
    | false => rfl
    | true =>
      exfalso
      apply h
      refine strOf_inj hl hm ?_
      have := eq_of_beq hb
      rw [ByteArray.toList_eq, ByteArray.toList_eq] at this
      exact ByteArray.ext (Array.ext' this)
end Z
end Go.Proofs.Ythncbdoiilgnhaa

/- Structs of borrowed slices; writers brought to the front. -/
namespace Go.Proofs.Ythncbdoiilgnhaa
open Go.RowKit
set_option linter.unusedVariables false
set_option linter.unusedSimpArgs false
namespace Z
variable {w w' w0 : World} {M : List Nat} {L L1 L2 : List SX.Ent}
/-- a struct of a borrowed slice of structs -/
theorem cellsX {α : Type} {enc : α → List Value} {s : Nat} {xs : List α} {b off : Nat} {i : Nat} {x : α} (cs : List Value) (h : Sx w0 M (some ⟨b, off, none⟩) (xs.flatMap enc)) (hs : ∀ x, (enc x).length = s) (hx : xs[i]? = some x) (hcs : enc x = cs) :
    ∀ w, SX.Keep w0 M L w → ∀ (j : Nat) (u : Value), cs[j]? = some u → w.cell? ⟨b, off + (i : Int).toNat * s + j, none⟩ = some u := by subst hcs; exact fun w hk j u hj => cellXf h hs hx hj w hk
/-- field j of the struct i of a borrowed slice, i being any form of the number -/
theorem cellXq {α : Type} {enc : α → List Value} {s : Nat} {xs : List α} {b off : Nat} {i : Nat} {j : Nat} {x : α} {u : Value} (h : Sx w0 M (some ⟨b, off, none⟩) (xs.flatMap enc)) (hs : ∀ x, (enc x).length = s) (hx : xs[i]? = some x) (hj : (enc x)[j]? = some u) :
    ∀ w, SX.Keep w0 M L w → w.cell? ⟨b, off + (i : Int).toNat * s + j, none⟩ = some u := cellXf h hs hx hj
/-- a block of ours, asz a slice, apart from what is lent -/
theorem blk_lentj {g T j : Nat} {cs : Array Value} (hs : SX.St w0 M w (L1 ++ L2)) (hj2 : L2[j]? = some (SX.Ent.blk g T cs)) : Sx w (SX.idsOf L1) (some ⟨g, 0, none⟩) cs.toList := fun hp => by
  have hj : (L1 ++ L2)[L1.length + j]? = some (SX.Ent.blk g T cs) := by
    rw [List.getElem?_append_right (by omega)]
    simpa using hj2
  have hr : w.heap[g]? = some (.cells cs T (0, 0)) := hs.get hj
  refine ⟨g, 0, rfl, SX.lt_of_some hr, fun hin => ?_, fun i u hu => ?_⟩
  · have hn := hs.nodup
    simp only [SX.idsOf, List.flatMap_append] at hn
    exact (List.nodup_append.1 hn).2.2 g hin g (List.mem_flatMap.2 ⟨_, List.mem_of_getElem? hj2, by simp [SX.Ent.blk, SX.Ent.obj]⟩) rfl
  · rw [Nat.zero_add]
    exact (SX.cell_blk hr i).trans (by simpa using hu)
theorem blk_lent {g T : Nat} {cs : Array Value} (hs : SX.St w0 M w (L1 ++ [SX.Ent.blk g T cs])) : Sx w (SX.idsOf L1) (some ⟨g, 0, none⟩) cs.toList := blk_lentj hs (j := 0) rfl
/-- a row without a block is empty -/
theorem _root_.Go.Proofs.Ythncbdoiilgnhaa.SX.row_none {j T k size c m : Nat} {A : Option Addr} {xs : List Value} (hs : SX.St w0 M w L) (hj : L[j]? = some (SX.Ent.row (.slice A k c) T size m xs)) (h : A = none) : m = 0 := by
  have hr : w.ownsRow 0 T size (.slice A k c) m xs := hs.get hj
  rcases hr.2 with ⟨hv, h⟩ | ⟨g, cap, cur, hv, _, _, h1, h2, _⟩
  · exact h
  · subst h
    simp at hv
theorem _root_.Go.Proofs.Ythncbdoiilgnhaa.Sx.all {A : Option Addr} {xs : List Value} (h : Sx w0 M A xs) (hs : SX.St w0 M w L) : Sx w (SX.idsOf L) A xs := h.lent (L2 := []) (by rwa [List.append_nil])
variable {N : Nat} {E : Env} {D : List Deferred} {F : Fence} {n : Nat} {P : Program} {ops : Array Oper} {Q : Exit → Act → World → Prop}
/-- a drawn region where only Ls is leant on -/
theorem drawL {id : Nat} (Ls : List SX.Ent) (Dn : Nat → Bool) (hm : P.follows .mixedOrders = true) (hs : SX.St w0 M w L) (h : ∀ w', SX.St w0 M w' L → Z N E D (wpD F n P ops Q (SX.Keep w0 M Ls) Dn []) w') : Z N E D ((Code.region id ops true).wpIn F n P Q) w :=
  draw Dn hm (h _ hs.drew)
end Z
end Go.Proofs.Ythncbdoiilgnhaa

/- Deferred calls. -/
namespace Go.Proofs.Ythncbdoiilgnhaa
open Go.RowKit
set_option linter.unusedVariables false
set_option linter.unusedSimpArgs false
namespace Z
variable {N : Nat} {E E' : Env} {D : List Deferred} {a : Act} {G : Guards} {F : Fence} {n : Nat} {P : Program} {o : Oper} {v : Value}
variable {K : Act → World → Prop} {Q : Exit → Act → World → Prop} {w w' w0 : World} {x : Operand} {d k : Nat} {f : FuncId}

/-- a call is put off -/
theorem ZO.defer {asz : Array Operand} {ts : Array TypeId} {first cap : Array Value} {vs : List Value}
    (ho : o.op = .defer { callee := .value x, args := asz, argTypes := ts }) (hd : o.dst = none) (hx : ev E [] x = some (.func (.func k) first cap)) (hv : evs E [] asz.toList = some vs)
    (h : Z N E ({ target := .fn (.func k) cap, args := first ++ vs.toArray } :: D) K w) : ZO Fence.wide n P N E D o K Q w := by
  intro a ha
  refine ⟨fun f _ => trivial, ?_⟩
  have h1 := ev0 ha hx
  have h2 : asz.map a.eval = vs.toArray := by
    rw [← evs_eval ha (fun g hg => by cases hg) hv]
    apply Array.ext'
    simp
  rw [Fence.wide_round, Oper.semAt_none]
  simp only [execOp, ho, resolve, Sem.run_bind, Sem.run_pure, Result.andThen_ok, h1, h2, Deferred.ofValue]
  show K ({ a with defers := _ :: a.defers }.put o.dst undef) w
  rw [hd]
  refine h _ ⟨ha.size, ha.get, ?_⟩
  show _ :: a.defers = _
  rw [ha.defers]

/-- what a call that was put off does -/
def _root_.Go.Proofs.Ythncbdoiilgnhaa.CallsDf (P : Program) (f : FuncId) (args : Array Value) (w : World) (Φ : Value → World → Prop) : Prop := ∀ u, CallsDIn Fence.wide 0 P f args u w fun e u' w' => u' = u ∧ SX.Ret Φ e w'
theorem enterDf {fn : Func} {c : Code} {args : Array Value} {Φ : Value → World → Prop} (hf : P.funcs[f]? = some fn) (hb : fn.body = some c) (hn : fn.ntmps = N) (hN : Nat.ble args.size N = true) (he : envO 0 args.toList [] = some E)
    (h : Z N E [] (c.wpIn Fence.wide 0 P (bodyPost P fn (SX.Ret Φ))) w) : CallsDf P f args w Φ := fun u => callsDIn_of_wp hf hb trivial (by rw [hn]; exact h _ (holds_enter hN he))
theorem enterD {fn : Func} {c : Code} {args : Array Value} {R : Ending → World → Prop} (hf : P.funcs[f]? = some fn) (hb : fn.body = some c) (hn : fn.ntmps = N) (hN : Nat.ble args.size N = true) (he : envO 0 args.toList [] = some E)
    (h : Z N E [] (c.wpIn Fence.wide 0 P (bodyPostDIn Fence.wide 0 P fn R)) w) : Calls P f args w R :=
  (callsIn_wide (n := 0)).1 (callsIn_of_wp_defers hf hb trivial (by rw [hn]; exact h _ (holds_enter hN he)))
theorem outD0 {fn : Func} {R : Ending → World → Prop} {vs : List Value} (h : RV P w E fn.results.toList vs) (hR : R (.returned (pack vs)) w) : Z N E [] (bodyPostDIn Fence.wide 0 P fn R .ret) w := fun a ha => by
  show LeavesIn Fence.wide 0 P fn a.tmps R a.defers .returning w
  rw [ha.defers]
  exact ⟨_, results_run ha h rfl, hR⟩
theorem outD0n {fn : Func} {R : Ending → World → Prop} {vs : List Value} (h : RV P w E fn.results.toList vs) (hR : R (.returned (pack vs)) w) : Z N E [] (bodyPostDIn Fence.wide 0 P fn R .normal) w := fun a ha => by
  show LeavesIn Fence.wide 0 P fn a.tmps R a.defers .returning w
  rw [ha.defers]
  exact ⟨_, results_run ha h rfl, hR⟩
/-- one call was put off -/
theorem outD1 {fn : Func} {R : Ending → World → Prop} {cap dargs : Array Value} {Φ : Value → World → Prop} (hk : ∀ args w, (callFunc k args).run P w = .ok (.enter k args) w)
    (hc : CallsDf P k (dargs ++ cap) w Φ) (hR : ∀ v w', Φ v w' → ∃ vs, RV P w' E fn.results.toList vs ∧ R (.returned (pack vs)) w') : Z N E [{ target := .fn (.func k) cap, args := dargs }] (bodyPostDIn Fence.wide 0 P fn R .ret) w := fun a ha => by
  show LeavesIn Fence.wide 0 P fn a.tmps R a.defers .returning w
  rw [ha.defers]
  refine leavesIn_cons (by simp) (by intro h; cases h) (hk _ _) (fun g _ => trivial) ((hc _).mono fun e u' w' h => ?_)
  obtain ⟨rfl, v, rfl, hv⟩ := h
  obtain ⟨vs, h1, h2⟩ := hR v w' hv
  exact ⟨_, results_run ⟨ha.size, ha.get, ha.defers⟩ h1 rfl, h2⟩
/-- a result that lies in a block of ours -/
theorem rvc {M : List Nat} {L : List SX.Ent} {g T T' : Nat} {cs : Array Value} (hs : SX.St w0 M w L) (hagg : ∀ w, (isAgg T).run P w = .ok false w) (hm : SX.Ent.blk g T' cs ∈ L) (hc : cs[0]? = some v) : (loadVar T ⟨g, 0, none⟩).run P w = .ok v w := by
  have h2 : w.cell? ⟨g, 0, none⟩ = some v := SX.Keep.blk ⟨L, hs, fun e h => h⟩ hm hc
  simp [loadVar, hagg, h2]

/-- a result that is a struct in a block of ours -/
theorem rvcA {M : List Nat} {L : List SX.Ent} {g T T' : Nat} {cs : List Value} (hs : SX.St w0 M w L) (hagg : ∀ w, (isAgg T).run P w = .ok true w) (hm : SX.Ent.blk g T' cs.toArray ∈ L) (hsz : ∀ w, (sizeOf T).run P w = .ok cs.length w) : (loadVar T ⟨g, 0, none⟩).run P w = .ok (.agg cs.toArray) w := by
  have hc : ∀ j u, cs[j]? = some u → w.cell? ⟨g, 0 + j, none⟩ = some u := fun j u hu => cellsB hm w ⟨L, hs, fun e h => h⟩ j u hu
  simp [loadVar, hagg, hsz, run_loadCells_list w ⟨g, 0, none⟩ cs (fun j u hu => by rw [add_none]; exact hc j u hu)]
/-- either of two may come first -/
theorem fork2 [Wide F] {ops : Array Oper} {S : World → Prop} {Dn : Nat → Bool} {done : List Nat} {oi oj : Oper} {Gi Gj : Guards} (i j : Nat) (hi : ops[i]? = some oi) (hj : ops[j]? = some oj) (hm : left ops done = true)
    (hr : Region.ready .any ops (flags ops.size done) = [i, j]) (hGi : effG ops E oi = some Gi) (hGj : effG ops E oj = some Gj) (hti : GTrue E Gi) (htj : GTrue E Gj)
    (h1 : ZO F n P N E D oi (fun a' w' => (Dn i = true → S w') ∧ wpD F n P ops Q S Dn (i :: done) a' w') (SX.NP Q) w)
    (h2 : ZO F n P N E D oj (fun a' w' => (Dn j = true → S w') ∧ wpD F n P ops Q S Dn (j :: done) a' w') (SX.NP Q) w) : Z N E D (wpD F n P ops Q S Dn done) w := by
  intro a ha
  unfold wpD
  rw [fuel_eq (i := i) hm]
  refine ⟨fun h0 => (by rw [hr] at h0; cases h0), fun k hk => ?_⟩
  rw [hr] at hk
  rcases List.mem_cons.1 hk with rfl | hk
  · have hw := (wanted_of (ops := ops) (o := oi) ha hGi).2 (hti.holds ha)
    unfold Go.wpOpIn
    simp only [hi, hw, if_true]
    exact h1 a ha
  · obtain rfl : k = j := by simpa using hk
    have hw := (wanted_of (ops := ops) (o := oj) ha hGj).2 (htj.holds ha)
    unfold Go.wpOpIn
    simp only [hj, hw, if_true]
    exact h2 a ha

/-! ## slices of slices -/
/-- a bound of a slice expression: the number n, or the default d -/
def lvl (E : Env) (G : Guards) : Option Operand → Nat → Nat → Prop
  | none, d, n => n = d
  | some o, _, n => ∃ k z, ev E G o = some (.int k z) ∧ (GH E G → z = (n : Int))
theorem lvl_some {o : Operand} {k : IntKind} {z : Int} {d n : Nat} (h : ev E G o = some (.int k z)) (hz : GH E G → z = (n : Int)) : lvl E G (some o) d n := ⟨k, z, h, hz⟩
/-- where the elements of a slice from l on lie -/
def _root_.Go.Proofs.Ythncbdoiilgnhaa.slA (A : Option Addr) (cap l size : Nat) : Option Addr := if cap = l then A else A.map (·.add (l * size))
theorem _root_.Go.Proofs.Ythncbdoiilgnhaa.slA_zero (A : Option Addr) (cap size : Nat) : slA A cap 0 size = A := by
  unfold slA
  split
  · rfl
  · cases A with
    | none => rfl
    | some a =>
      simp only [Option.map_some, Nat.zero_mul]
      congr 1
theorem _root_.Go.Proofs.Ythncbdoiilgnhaa.slA_some {b off cap l size : Nat} (h : l < cap) : slA (some ⟨b, off, none⟩) cap l size = some ⟨b, off + l * size, none⟩ := by
  unfold slA
  rw [if_neg (by omega)]
  simp only [Option.map_some, add_none]
theorem Yd.cut {S : World → Prop} {T e : TypeId} {A : Option Addr} {len cap size : Nat} {lo hi : Option Operand} (l h : Nat) (hx : ev E G x = some (.slice A len cap)) (hlo : lvl E G lo 0 l) (hhi : lvl E G hi len h) (ht : P.underlying T = some (.slice e))
    (hs : ∀ w, (sizeOf e).run P w = .ok size w) (hb : GH E G → l ≤ h ∧ h ≤ cap) : Yd P N D S E G (.slice T x lo hi none) (.slice (slA A cap l size) (h - l) (cap - l)) := by
  refine ⟨fun c e => (by cases e), fun a ha hg o ho w _ => ?_⟩
  have h1 := ev_eval ha hg hx
  obtain ⟨h3, h4⟩ := hb (GH_of' ha hg)
  have hgh := GH_of' ha hg
  cases lo with
  | none =>
    cases hlo
    cases hi with
    | none =>
      cases hhi
      simp [execOp, ho, h1, Instr.sliceAt, Instr.slice, run_underlying ht, Instr.sliceBounds, hs, slA]
    | some o2 =>
      obtain ⟨k2, z2, h5, h6⟩ := hhi
      have h5 := ev_eval ha hg h5
      obtain rfl := h6 hgh
      simp [execOp, ho, h1, h5, Instr.sliceAt, Instr.slice, run_underlying ht, Instr.sliceBounds, Instr.sliceBound, asIntOf, hs, slA, h4]
  | some o1 =>
    obtain ⟨k1, z1, h7, h8⟩ := hlo
    have h7 := ev_eval ha hg h7
    obtain rfl := h8 hgh
    cases hi with
    | none =>
      cases hhi
      simp [execOp, ho, h1, h7, Instr.sliceAt, Instr.slice, run_underlying ht, Instr.sliceBounds, Instr.sliceBound, asIntOf, hs, slA, h3]
    | some o2 =>
      obtain ⟨k2, z2, h5, h6⟩ := hhi
      have h5 := ev_eval ha hg h5
      obtain rfl := h6 hgh
      simp [execOp, ho, h1, h5, h7, Instr.sliceAt, Instr.slice, run_underlying ht, Instr.sliceBounds, Instr.sliceBound, asIntOf, hs, slA, h3, h4]
/-- .. with a maximum -/
theorem Yd.cut3 {S : World → Prop} {T e : TypeId} {A : Option Addr} {len cap size : Nat} {lo : Option Operand} {hi mx : Operand} {kh km : IntKind} {zh zm : Int} (l h m : Nat) (hx : ev E G x = some (.slice A len cap)) (hlo : lvl E G lo 0 l)
    (hhi : ev E G hi = some (.int kh zh)) (hmx : ev E G mx = some (.int km zm)) (ht : P.underlying T = some (.slice e))
    (hs : ∀ w, (sizeOf e).run P w = .ok size w) (hb : GH E G → zh = (h : Int) ∧ zm = (m : Int) ∧ l ≤ h ∧ h ≤ m ∧ m ≤ cap) : Yd P N D S E G (.slice T x lo (some hi) (some mx)) (.slice (slA A m l size) (h - l) (m - l)) := by
  refine ⟨fun c e => (by cases e), fun a ha hg o ho w _ => ?_⟩
  have h1 := ev_eval ha hg hx
  obtain ⟨rfl, rfl, h3, h4, h5⟩ := hb (GH_of' ha hg)
  have hgh := GH_of' ha hg
  have h6 := ev_eval ha hg hhi
  have h7 := ev_eval ha hg hmx
  cases lo with
  | none =>
    cases hlo
    simp [execOp, ho, h1, h6, h7, Instr.sliceAt, Instr.slice, run_underlying ht, Instr.sliceBounds, Instr.sliceBound, asIntOf, hs, slA, h4, h5]
  | some o1 =>
    obtain ⟨k1, z1, h8, h9⟩ := hlo
    have h8 := ev_eval ha hg h8
    obtain rfl := h9 hgh
    simp [execOp, ho, h1, h6, h7, h8, Instr.sliceAt, Instr.slice, run_underlying ht, Instr.sliceBounds, Instr.sliceBound, asIntOf, hs, slA, h3, h4, h5]
theorem _root_.Go.Proofs.Ythncbdoiilgnhaa.Sl.cut {A : Option Addr} {cap l size : Nat} {xs ys : List Value} (h : Sl w A xs) (hp : ys <+: xs.drop (l * size)) (hc : cap = l → ys = []) : Sl w (slA A cap l size) ys := fun hpos => by
  have hne : cap ≠ l := fun e => by rw [hc e] at hpos; cases hpos
  have hlen : ys.length ≤ xs.length - l * size := by have := hp.length_le; rwa [List.length_drop] at this
  obtain ⟨b, off, rfl, hb, hcell⟩ := h (by omega)
  refine ⟨b, off + l * size, ?_, hb, fun j u hu => ?_⟩
  · unfold slA
    rw [if_neg hne]
    simp only [Option.map_some, add_none]
  · have : xs[l * size + j]? = some u := by
      obtain ⟨t, ht⟩ := hp
      have h1 : (xs.drop (l * size))[j]? = some u := by
        rw [← ht, List.getElem?_append_left (List.getElem?_eq_some_iff.1 hu).1]
        exact hu
      rwa [List.getElem?_drop] at h1
    have := hcell _ _ this
    rwa [← Nat.add_assoc] at this
theorem _root_.Go.Proofs.Ythncbdoiilgnhaa.Sx.cut {M : List Nat} {A : Option Addr} {cap l size : Nat} {xs ys : List Value} (h : Sx w M A xs) (hp : ys <+: xs.drop (l * size)) (hc : cap = l → ys = []) : Sx w M (slA A cap l size) ys := fun hpos => by
  have hlen : ys.length ≤ xs.length - l * size := by have := hp.length_le; rwa [List.length_drop] at this
  obtain ⟨b, off, rfl, hb, hM, hcell⟩ := h (by omega)
  have h1 : Sl w (some ⟨b, off, none⟩) xs := fun _ => ⟨b, off, rfl, hb, hcell⟩
  obtain ⟨b2, off2, e, hb2, hc2⟩ := h1.cut hp hc hpos
  refine ⟨b2, off2, e, hb2, ?_, hc2⟩
  have hne : cap ≠ l := fun e => by rw [hc e] at hpos; cases hpos
  unfold slA at e
  rw [if_neg hne] at e
  simp only [Option.map_some, add_none, Option.some.injEq, Addr.mk.injEq] at e
  rw [← e.1]
  exact hM
end Z
end Go.Proofs.Ythncbdoiilgnhaa
