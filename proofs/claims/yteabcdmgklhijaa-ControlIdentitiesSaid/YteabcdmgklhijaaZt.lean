/- Statements that range over a function; things that are lent to a call. -/
import Derived.Test.YteabcdmgklhijaaZs
import Derived.Scope
namespace Go.Proofs.Yteabcdmgklhijaa
open Go.RowKit
set_option linter.unusedVariables false
set_option linter.unusedSimpArgs false
namespace SX
variable {w0 w w' : World} {M : List Nat} {L L1 L2 L' : List Ent}
/-- The first things are lent to a call .. -/
theorem St.lend (h : St w0 M w (L1 ++ L2)) : St w (idsOf L1) w L1 := by
  have hn := h.nodup
  simp only [idsOf, List.flatMap_append] at hn
  exact St.own (List.nodup_append.1 hn).1 fun e he => h.ok e (List.mem_append_left _ he)
/-- .. and come back, others may be. -/
theorem St.regain (h : St w0 M w (L1 ++ L2)) (h' : St w (idsOf L1) w' L') : St w0 M w' (L' ++ L2) := h.comp h' fun _ hb => hb
theorem St.all (h : St w0 M w L) : St w (idsOf L) w L := St.own h.nodup h.ok
/-- Behind a call to which all was lent. -/
theorem St.regainAll (h : St w0 M w L) (h' : St w (idsOf L) w' L') : St w0 M w' L' := by
  have := St.comp (L1 := L) (L2 := []) (by simpa using h) h' fun _ hb => hb
  simpa using this
theorem St.take1 {e : Ent} (h : St w0 M w (e :: L)) : St w0 M w ([e] ++ L) := h
theorem St.take2 {e e' : Ent} (h : St w0 M w (e :: e' :: L)) : St w0 M w ([e, e'] ++ L) := h
end SX
namespace Z
variable {N : Nat} {E E' : Env} {D : List Deferred} {a : Act} {G : Guards} {F : Fence} {n : Nat} {P : Program} {S : World → Prop} {ops : Array Oper} {o : Oper} {v : Value}
variable {K : Act → World → Prop} {Q : Exit → Act → World → Prop} {w w' w0 : World} {rest : List Oper} {M : List Nat} {L L1 L2 : List SX.Ent} {x : Operand} {d : Nat}

/-- a call of yield -/
theorem ZO.yield {l : Nat} {as : Array Operand} {ts : Array TypeId} {vs : List Value} {args : Array Value} {Rp : Ending → World → Prop}
    (ho : o.op = .call { callee := .value x, args := as, argTypes := ts }) (hd : o.dst = some d) (hc : chk N d E [] = true) (hx : ev E [] x = some (.func (.yield l) #[] #[])) (hv : evs E [] as.toList = some vs) (he : vs.toArray = args)
    (hY : YieldAt Fence.wide 0 P l args w Rp) (hK : ∀ e w', Rp e w' → ∃ v, e = .returned v ∧ Z N ((d, [], v) :: E) D K w') : ZO Fence.wide 0 P N E D o K Q w := by
  intro a ha
  obtain ⟨c1, c2, c3⟩ := chk_spec hc
  refine SX.wp_yield ho (ev0 ha hx) (by rw [evs_eval ha gnil hv, he]) hY fun e w' hr => ?_
  obtain ⟨v, rfl, hk⟩ := hK e w' hr
  refine ⟨v, rfl, ?_⟩
  rw [hd]
  exact hk _ (ha.put c1 c2 c3 (by rw [if_pos gnil]))

/-- the parameters of a round get their values -/
def bindE : List Nat → List Value → Env → Option Env
  | [], [], E => some E
  | p :: ps, v :: vs, E => match free p E with
    | true => bindE ps vs ((p, [], v) :: E)
    | false => none
  | _, _, _ => none
theorem bindE_holds : ∀ {ps : List Nat} {vs : List Value} {E E' : Env} {tmps : Array Value}, Holds { tmps := tmps, defers := D } N E D → (∀ p ∈ ps, p < N) → bindE ps vs E = some E' →
    Holds { tmps := (ps.zip vs).foldl (fun t (p, v) => t.setIfInBounds p v) tmps, defers := D } N E' D
  | [], [], E, E', tmps, h, _, hb => by
    obtain rfl := Option.some.inj hb
    exact h
  | p :: ps, v :: vs, E, E', tmps, h, hp, hb => by
    unfold bindE at hb
    cases hf : free p E with
    | false => rw [hf] at hb; cases hb
    | true =>
      rw [hf] at hb
      have h1 := h.put (d := p) (v := v) (u := v) (G := []) (by
        have := hp p (by simp)
        exact Nat.ble_eq_true_of_le this) hf (by simp) (by rw [if_pos gnil])
      exact bindE_holds (tmps := tmps.setIfInBounds p v) h1 (fun q hq => hp q (List.mem_cons_of_mem _ hq)) hb
  | [], _ :: _, _, _, _, _, _, hb => by cases hb
  | _ :: _, [], _, _, _, _, _, hb => by cases hb

/-- how a body's round may be left -/
theorem rnorm {α : Type} {I : List α → List SX.Ent → Prop} {Ix : Code → List SX.Ent → Prop} {xs : List α} {Zs : List SX.Ent} (L' : List SX.Ent) (hi : I xs L') (hs : SX.St w0 M w (L' ++ Zs)) : Z N E D (SX.roundQ w0 M I Ix xs Zs .normal) w := fun _ _ => ⟨L', hi, hs⟩
theorem rret {α : Type} {I : List α → List SX.Ent → Prop} {Ix : Code → List SX.Ent → Prop} {xs : List α} {Zs : List SX.Ent} (L' : List SX.Ent) (hi : Ix .ret L') (hs : SX.St w0 M w (L' ++ Zs)) : Z N E D (SX.roundQ w0 M I Ix xs Zs .ret) w := fun _ _ => ⟨L', hi, hs⟩
theorem rexit {α : Type} {I : List α → List SX.Ent → Prop} {Ix : Code → List SX.Ent → Prop} {xs : List α} {Zs : List SX.Ent} {id : Nat} (L' : List SX.Ent) (hi : Ix (.exit id) L') (hs : SX.St w0 M w (L' ++ Zs)) : Z N E D (SX.roundQ w0 M I Ix xs Zs (.exit id)) w := fun _ _ => ⟨L', hi, hs⟩

/-- the end of a round's assignments -/
theorem assigned {α : Type} {Zs : List SX.Ent} {body : Code} {l : Nat} {I : List α → List SX.Ent → Prop} {Ix : Code → List SX.Ent → Prop} {xs : List α} (L1 : List SX.Ent) (hs : SX.St w0 M w (L1 ++ Zs))
    (h : ∀ W2 Z2, SX.St w0 M W2 (L1 ++ Z2) → Z N E D (body.wpIn (Fence.wide.inRound l) 0 P (SX.roundQ w0 M I Ix xs Z2)) W2) :
    Z N E D (fun a₁ W₁ => ∃ L₁, SX.St w0 M W₁ (L₁ ++ Zs) ∧ ∀ W₂ Z₂, SX.St w0 M W₂ (L₁ ++ Z₂) → body.wpIn (Fence.wide.inRound l) 0 P (SX.roundQ w0 M I Ix xs Z₂) a₁ W₂) w := fun a ha => ⟨L1, hs, fun W2 Z2 h2 => h W2 Z2 h2 a ha⟩

/-- **the statement, at the outermost level of a function** -/
theorem rangeFunc {α : Type} {g : Operand} {ps : List Tmp} {assign body : Code} {gf : Nat} {lb : Array Value} {A : α → Array Value → List SX.Ent → Prop} {E0 L0 : List SX.Ent} {R : World → List Nat → Prop} {xs : List α}
    (hseq : SX.SeqC P gf lb A E0 R xs) (hg : ev E [] g = some (.func (.func gf) #[] lb)) (eg : ∀ args w, (callFunc gf args).run P w = .ok (.enter gf args) w)
    (hs : SX.St w0 M w (L0 ++ E0)) (hR : R w0 M) (hps : ∀ x args Lx, A x args Lx → args.size = ps.length) (hpN : ps.all (fun p => Nat.blt p N) = true)
    (I : List α → List SX.Ent → Prop) (Ix : Code → List SX.Ent → Prop) (h0 : I [] L0)
    (hround : ∀ (l : Nat) (Zs : List SX.Ent) pre x args W L Lx, I pre L → (pre ++ [x]) <+: xs → A x args Lx → SX.St w0 M W (Lx ++ (L ++ Zs)) → ∃ Er, bindE ps args.toList E = some Er ∧
      Z N Er [] (assign.wpIn (Fence.wide.inRound l) 0 P (Exit.then (fun a₁ W₁ => ∃ L₁, SX.St w0 M W₁ (L₁ ++ Zs) ∧ ∀ W₂ Z₂, SX.St w0 M W₂ (L₁ ++ Z₂) →
        body.wpIn (Fence.wide.inRound l) 0 P (SX.roundQ w0 M I Ix (pre ++ [x]) Z₂) a₁ W₂) (fun _ _ _ => False))) W)
    (hdone : ∀ Dd W L, I xs L → SX.St w0 M W (L ++ (SX.Ent.obj Dd (.deferred (some [])) :: E0)) → Z N E ({ target := .collected Dd, args := #[] } :: D) (Q .normal) W)
    (hstop : ∀ Dd c W L, Ix c L → SX.St w0 M W (L ++ (SX.Ent.obj Dd (.deferred (some [])) :: E0)) → Z N E ({ target := .collected Dd, args := #[] } :: D) (c.wpIn Fence.wide 0 P Q) W) :
    Z N E D ((Code.rangeFunc g ps.toArray assign body).wpIn Fence.wide 0 P Q) w := by
  intro a ha
  have hD : ∀ Dd, Holds { a with defers := { target := .collected Dd, args := #[] } :: a.defers } N E ({ target := .collected Dd, args := #[] } :: D) := fun Dd =>
    ⟨ha.size, ha.get, by rw [ha.defers]⟩
  refine SX.rangeFunc (α := α) hseq (ev0 ha hg) eg hs hR (fun x args Lx h => by simpa using hps x args Lx h) I Ix h0 (fun l Zs pre x args W L Lx h1 h2 h3 h4 => ?_) (fun Dd W L h1 h2 => hdone Dd W L h1 h2 _ (hD Dd)) (fun Dd c W L h1 h2 => hstop Dd c W L h1 h2 _ (hD Dd))
  obtain ⟨Er, hb, hz⟩ := hround l Zs pre x args W L Lx h1 h2 h3 h4
  refine hz _ ?_
  have hh : Holds { tmps := a.tmps, defers := [] } N E [] := ⟨ha.size, ha.get, rfl⟩
  have := bindE_holds hh (fun p hp => by
    have := List.all_eq_true.1 hpN p hp
    exact Nat.le_of_ble_eq_true this) hb
  have e : (ps.toArray.zip args).foldl (fun t (p, v) => t.setIfInBounds p v) a.tmps = (ps.zip args.toList).foldl (fun t (p, v) => t.setIfInBounds p v) a.tmps := by
    rw [← Array.foldl_toList]
    congr 1
    simp [Array.toList_zip]
  rw [e]
  exact this

/-! ## labels nobody jumps to -/
theorem scope {c : Code} (h : Z N E D (c.wpIn Fence.wide 0 P (Exit.noGoto Q)) w) : Z N E D ((Code.scope c).wpIn Fence.wide 0 P Q) w := fun a ha => wpIn_wide.2 (wp_scope_straight (wpIn_wide.1 (h a ha)))
theorem nscope (h : Z N E D (Q .normal) w) : Z N E D (Exit.noGoto Q .normal) w := h
theorem rscope (h : Z N E D (Q .ret) w) : Z N E D (Exit.noGoto Q .ret) w := h
theorem xscope {id : Nat} (h : Z N E D (Q (.exit id)) w) : Z N E D (Exit.noGoto Q (.exit id)) w := h
theorem pscope {ch : List PanicEntry} (h : Z N E D (Q (.panic ch)) w) : Z N E D (Exit.noGoto Q (.panic ch)) w := h

/-! ## the ends of a function that holds such a statement -/
theorem outM0 {fn : Func} {R : Ending → World → Prop} {vs : List Value} (h : RV P w E fn.results.toList vs) (hR : R (.returned (pack vs)) w) : Z N E [] (bodyPostM Fence.wide 0 P fn R .ret) w :=
  fun a ha => SX.leave0 ha.defers (results_run ha h rfl) hR
theorem outM0n {fn : Func} {R : Ending → World → Prop} {vs : List Value} (h : RV P w E fn.results.toList vs) (hR : R (.returned (pack vs)) w) : Z N E [] (bodyPostM Fence.wide 0 P fn R .normal) w :=
  fun a ha => SX.leave0 ha.defers (results_run ha h rfl) hR
theorem outM1 {fn : Func} {R : Ending → World → Prop} {vs : List Value} {Dd : Nat} (hs : SX.St w0 M w (L1 ++ SX.Ent.obj Dd (.deferred (some [])) :: L2)) (h : ∀ w', SX.St w0 M w' (L1 ++ L2) → RV P w' E fn.results.toList vs) (h0 : RV P w E fn.results.toList vs) (hR : ∀ w', SX.St w0 M w' (L1 ++ L2) → R (.returned (pack vs)) w') :
    Z N E [{ target := .collected Dd, args := #[] }] (bodyPostM Fence.wide 0 P fn R .ret) w := by
  intro a ha
  show LeavesInM Fence.wide 0 P fn a.tmps R a.defers .returning w
  rw [ha.defers]
  refine ⟨by simp, .inl ⟨Dd, _, rfl, run_takeDeferred hs.getMid, ?_⟩⟩
  have hs' : SX.St w0 M (w.putObj Dd (.deferred none)) (L1 ++ L2) := (hs.putMid (.deferred none)).sub (List.Sublist.append (List.Sublist.refl _) (List.sublist_cons_self _ _))
  exact ⟨pack vs, results_run ha (h _ hs') rfl, hR _ hs'⟩
theorem outM1n {fn : Func} {R : Ending → World → Prop} {vs : List Value} {Dd : Nat} (hs : SX.St w0 M w (L1 ++ SX.Ent.obj Dd (.deferred (some [])) :: L2)) (h : ∀ w', SX.St w0 M w' (L1 ++ L2) → RV P w' E fn.results.toList vs) (h0 : RV P w E fn.results.toList vs) (hR : ∀ w', SX.St w0 M w' (L1 ++ L2) → R (.returned (pack vs)) w') :
    Z N E [{ target := .collected Dd, args := #[] }] (bodyPostM Fence.wide 0 P fn R .normal) w := outM1 hs h h0 hR
end Z
end Go.Proofs.Yteabcdmgklhijaa
