/- Panics, recover, and calls that were put off while a panic goes through. -/
import Derived.Test.YteabcdmgklhijaaZw
import Derived.RecoverIn
namespace Go.Proofs.Yteabcdmgklhijaa
open Go.RowKit
set_option linter.unusedVariables false
set_option linter.unusedSimpArgs false
namespace SX
section
variable {F : Fence} {n : Nat} {P : Program} {ops : Array Oper} {Q : Exit → Act → World → Prop} {md : Region.Mode} {S : World → Prop} {D : Nat → Bool}
/-- as `wpAnyS_first`; T names what comes behind i, near or far -/
theorem wpAnyS_firstT {i : Nat} {oi : Oper} {v : Value} (T : Nat → Bool) (hTi : T i = true) (hF : ∀ f, F.fn f) (hi : ops[i]? = some oi) (hsel : ∀ (j : Nat) (o : Oper) cs b, ops[j]? = some o → o.op ≠ .select cs b)
    (hdef : ∀ (j : Nat) (o : Oper) c, ops[j]? = some o → o.op ≠ .defer c)
    (hT : ∀ (j : Nat) (oj : Oper), ops[j]? = some oj → T j = true → j ≠ i → ∃ e ∈ oj.after, Region.binds md e = true ∧ T e.on = true)
    (hD : ∀ (j : Nat) (oj : Oper), ops[j]? = some oj → T j = false → D j = true)
    (hQ : ∀ c a w, Q (.panic c) (a.put oi.dst v) w → Q (.panic c) a w) :
    ∀ (fuel : Nat) (listed : Array Bool) (a : Act) (w : World),
      (∀ j, T j = true → listed[j]? = some false) →
      (∀ j oj, ops[j]? = some oj → T j = false → listed.getD j true = false → oi.apart ops oj = true) →
      i ∈ Region.ready md ops listed → YieldsS P ops S oi v a → S w →
      wpAnyS F n P md ops Q S D fuel (listed.setIfInBounds i true) (a.put oi.dst v) w → wpAnyS F n P md ops Q S D (fuel + 1) listed a w := by
  intro fuel
  induction fuel with
  | zero =>
    intro listed a w _ _ hr hy hS H
    refine ⟨fun h => (by rw [h] at hr; cases hr), fun j hj => ?_⟩
    by_cases hji : j = i
    · subst hji; exact hy.wpOpIn hF hi (fun c => hdef _ _ c hi) hS ⟨fun _ => hS, H⟩
    · have := ready_mono hj hji
      rw [H.1] at this
      cases this
  | succ fuel ih =>
    intro listed a w hun hfree hr hy hS H
    refine ⟨fun h => (by rw [h] at hr; cases hr), fun j hj => ?_⟩
    by_cases hji : j = i
    · subst hji; exact hy.wpOpIn hF hi (fun c => hdef _ _ c hi) hS ⟨fun _ => hS, H⟩
    · have h1 := H.2 j (ready_mono hj hji)
      obtain ⟨hjun, oj, hoj, hall⟩ := mem_ready.1 hj
      have hTj : T j = false := by
        cases hb : T j with
        | false => rfl
        | true =>
          obtain ⟨e, he, hbd, hTe⟩ := hT j oj hoj hb hji
          have h2 := hall e he hbd
          have h3 := hun _ hTe
          rw [Array.getD_eq_getD_getElem?, h3] at h2
          cases h2
      have h2 := wpOpIn_putS hF hoj (hfree j oj hoj hTj hjun) (fun cs b => hsel i oi cs b hi) (fun cs b => hsel j oj cs b hoj) (fun c => hdef j oj c hoj) hQ hy h1
      have hun' : ∀ k, T k = true → (listed.setIfInBounds j true)[k]? = some false := fun k hk => by
        rw [Array.getElem?_setIfInBounds_ne (fun e => by rw [e, hk] at hTj; cases hTj)]
        exact hun k hk
      have hfree' : ∀ k ok, ops[k]? = some ok → T k = false → (listed.setIfInBounds j true).getD k true = false → oi.apart ops ok = true := fun k ok hk hki hun => by
        refine hfree k ok hk hki ?_
        by_cases hjk : j = k
        · subst hjk; exact hjun
        · rw [getD_set_ne true hjk] at hun; exact hun
      refine wpOpIn_mono (fun a' w' h3 => ⟨h3.2.1, ih (listed.setIfInBounds j true) a' w' hun' hfree' (ready_mono hr (Ne.symm hji)) h3.1 (h3.2.1 (hD j oj hoj hTj)) ?_⟩) h2
      rw [Array.setIfInBounds_comm _ _ hji]
      exact h3.2.2
/-- the side conditions, as one Bool -/
def mayTakeT (md : Region.Mode) (ops : Array Oper) (D : Nat → Bool) (listed : Array Bool) (i : Nat) (T : List Nat) : Bool :=
  Region.noSelect ops && noDefer ops && T.contains i && (T.all fun j => j == i || match ops[j]? with | some o => o.after.toList.any (fun e => Region.binds md e && T.contains e.on) | none => false) &&
    (T.all fun j => match listed[j]? with | some b => !b | none => false) && ((List.range ops.size).all fun j => T.contains j || D j) &&
    ((List.range ops.size).all fun j => T.contains j || listed.getD j true || match ops[i]?, ops[j]? with | some oi, some oj => oi.apart ops oj | _, _ => false) && (Region.ready md ops listed).contains i
theorem mayTakeT_spec {listed : Array Bool} {i : Nat} {oi : Oper} {T : List Nat} (h : mayTakeT md ops D listed i T = true) (hi : ops[i]? = some oi) :
    (∀ (j : Nat) (oj : Oper), ops[j]? = some oj → (T.contains j) = true → j ≠ i → ∃ e ∈ oj.after, Region.binds md e = true ∧ T.contains e.on = true) ∧ (∀ (j : Nat) (oj : Oper), ops[j]? = some oj → T.contains j = false → D j = true) ∧
    (∀ j, T.contains j = true → listed[j]? = some false) ∧ (∀ j oj, ops[j]? = some oj → T.contains j = false → listed.getD j true = false → oi.apart ops oj = true) := by
  simp only [mayTakeT, Bool.and_eq_true] at h
  obtain ⟨⟨⟨⟨⟨⟨⟨h1, h2⟩, h3⟩, h4⟩, h5⟩, h6⟩, h7⟩, h8⟩ := h
  refine ⟨fun j oj hj hTj hji => ?_, fun j oj hj hTj => ?_, fun j hTj => ?_, fun j oj hj hTj hun => ?_⟩
  · have := List.all_eq_true.1 h4 j (by simpa using hTj)
    simp only [hj, Bool.or_eq_true, beq_iff_eq, hji, false_or] at this
    obtain ⟨e, he, h9⟩ := List.any_eq_true.1 this
    simp only [Bool.and_eq_true] at h9
    exact ⟨e, by simpa using he, h9⟩
  · have := List.all_eq_true.1 h6 j (List.mem_range.2 (Array.getElem?_eq_some_iff.1 hj).1)
    rw [hTj] at this
    simpa using this
  · have := List.all_eq_true.1 h5 j (by simpa using hTj)
    revert this
    cases listed[j]? with
    | none => simp
    | some b => cases b <;> simp
  · have := List.all_eq_true.1 h7 j (List.mem_range.2 (Array.getElem?_eq_some_iff.1 hj).1)
    rw [hTj, hun, hi, hj] at this
    simpa using this
end
end SX
namespace Z
variable {N : Nat} {E : Env} {D : List Deferred} {G : Guards} {F : Fence} {n : Nat} {P : Program} {S : World → Prop} {ops : Array Oper} {o : Oper} {v : Value} {Q : Exit → Act → World → Prop} {w : World} {d : Nat} {Dn : Nat → Bool}
/-- number i is taken first; T: what comes behind it, near or far -/
theorem tX [Wide F] {done : List Nat} (i : Nat) (T : List Nat) (hi : ops[i]? = some o) (hG : effG ops E o = some G) (hd : o.dst = some d) (hc : chk N d E G = true) (hm : (left ops done && SX.mayTakeT .any ops Dn (flags ops.size done) i T) = true)
    (hS : S w) (y : Yd P N D S E G o.op v) (h : Z N ((d, G, v) :: E) D (wpD F n P ops Q S Dn (i :: done)) w) : Z N E D (wpD F n P ops Q S Dn done) w := by
  classical
  simp only [Bool.and_eq_true] at hm
  intro a ha
  obtain ⟨h1, h2, h3⟩ := chk_spec hc
  have hw := wanted_of (ops := ops) (o := o) ha hG
  unfold wpD
  rw [fuel_eq (i := i) hm.1]
  have hmt := hm.2
  obtain ⟨q1, q2, q3, q4⟩ := SX.mayTakeT_spec hmt hi
  have hmt' := hmt
  simp only [SX.mayTakeT, Bool.and_eq_true] at hmt'
  obtain ⟨⟨⟨⟨⟨⟨⟨k1, k2⟩, k3⟩, -⟩, -⟩, -⟩, -⟩, k8⟩ := hmt'
  have hQ : ∀ u : Value, ∀ c a w, SX.NP Q (.panic c) (a.put o.dst u) w → SX.NP Q (.panic c) a w := fun u c a w h => h.elim
  by_cases hg : gholds a G
  · exact SX.wpAnyS_firstT (fun j => T.contains j) k3 (fun f => Wide.fn f) hi (Region.noSelect_spec k1) (SX.noDefer_spec k2) q1 q2 (hQ v) _ _ a w q3 q4 (by simpa using k8) (.inl ⟨hw.2 hg, fun w hS => y.2 a ha hg o rfl w hS⟩) hS (by
      rw [hd]
      exact h _ (ha.put h1 h2 h3 (by rw [if_pos hg])))
  · exact SX.wpAnyS_firstT (fun j => T.contains j) k3 (fun f => Wide.fn f) hi (Region.noSelect_spec k1) (SX.noDefer_spec k2) q1 q2 (hQ undef) _ _ a w q3 q4 (by simpa using k8) (.inr ⟨(by
      cases hb : Region.wanted o (yielded ops a.tmps) with
      | false => rfl
      | true => exact absurd (hw.1 hb) hg), rfl⟩) hS (by
      rw [hd]
      exact h _ (ha.put h1 h2 h3 (by rw [if_neg hg])))

/-! ## drawn regions out of which a panic may come -/
def wpP (F : Fence) (n : Nat) (P : Program) (ops : Array Oper) (Q : Exit → Act → World → Prop) (S : World → Prop) (Dn : Nat → Bool) (done : List Nat) : Act → World → Prop :=
  SX.wpAnyS F n P .any ops Q S Dn (ops.size - done.length) (flags ops.size done)
/-- what is asked of a panic does not hang on the registers -/
def PQ (Q : Exit → Act → World → Prop) : Prop := ∀ (c : List PanicEntry) (a : Act) (d : Nat) (u : Value) (w : World), Q (.panic c) (a.put (some d) u) w → Q (.panic c) a w
theorem drawP {id : Nat} {w0 : World} {M : List Nat} {L : List SX.Ent} (Ls : List SX.Ent) (Dn : Nat → Bool) (hm : P.follows .mixedOrders = true) (hs : SX.St w0 M w L) (h : ∀ w', SX.St w0 M w' L → Z N E D (wpP F n P ops Q (SX.Keep w0 M Ls) Dn []) w') : Z N E D ((Code.region id ops true).wpIn F n P Q) w :=
  fun a ha => wpIn_region_any hm (SX.wpAnyIn_of_S _ _ _ _ (h _ hs.drew a ha))
theorem drawPK {id : Nat} {w0 : World} {M : List Nat} {L : List SX.Ent} (Dn : Nat → Bool) (hm : P.follows .mixedOrders = true) (hs : SX.St w0 M w L) (h : ∀ w', SX.St w0 M w' L → Z N E D (wpP F n P ops Q (SX.Keep w0 M L) Dn []) w') : Z N E D ((Code.region id ops true).wpIn F n P Q) w :=
  drawP L Dn hm hs h
theorem tXP [Wide F] {done : List Nat} (i : Nat) (T : List Nat) (hQ : PQ Q) (hi : ops[i]? = some o) (hG : effG ops E o = some G) (hd : o.dst = some d) (hc : chk N d E G = true) (hm : (left ops done && SX.mayTakeT .any ops Dn (flags ops.size done) i T) = true)
    (hS : S w) (y : Yd P N D S E G o.op v) (h : Z N ((d, G, v) :: E) D (wpP F n P ops Q S Dn (i :: done)) w) : Z N E D (wpP F n P ops Q S Dn done) w := by
  classical
  simp only [Bool.and_eq_true] at hm
  intro a ha
  obtain ⟨h1, h2, h3⟩ := chk_spec hc
  have hw := wanted_of (ops := ops) (o := o) ha hG
  unfold wpP
  rw [fuel_eq (i := i) hm.1]
  have hmt := hm.2
  obtain ⟨q1, q2, q3, q4⟩ := SX.mayTakeT_spec hmt hi
  have hmt' := hmt
  simp only [SX.mayTakeT, Bool.and_eq_true] at hmt'
  obtain ⟨⟨⟨⟨⟨⟨⟨k1, k2⟩, k3⟩, -⟩, -⟩, -⟩, -⟩, k8⟩ := hmt'
  have hQ' : ∀ u : Value, ∀ c a w, Q (.panic c) (a.put o.dst u) w → Q (.panic c) a w := fun u c a w h => by rw [hd] at h; exact hQ c a d u w h
  by_cases hg : gholds a G
  · exact SX.wpAnyS_firstT (fun j => T.contains j) k3 (fun f => Wide.fn f) hi (Region.noSelect_spec k1) (SX.noDefer_spec k2) q1 q2 (hQ' v) _ _ a w q3 q4 (by simpa using k8) (.inl ⟨hw.2 hg, fun w hS => y.2 a ha hg o rfl w hS⟩) hS (by
      rw [hd]
      exact h _ (ha.put h1 h2 h3 (by rw [if_pos hg])))
  · exact SX.wpAnyS_firstT (fun j => T.contains j) k3 (fun f => Wide.fn f) hi (Region.noSelect_spec k1) (SX.noDefer_spec k2) q1 q2 (hQ' undef) _ _ a w q3 q4 (by simpa using k8) (.inr ⟨(by
      cases hb : Region.wanted o (yielded ops a.tmps) with
      | false => rfl
      | true => exact absurd (hw.1 hb) hg), rfl⟩) hS (by
      rw [hd]
      exact h _ (ha.put h1 h2 h3 (by rw [if_neg hg])))
theorem tnP [Wide F] {done : List Nat} (i : Nat) (hi : ops[i]? = some o) (hm : left ops done = true) (hr : Region.ready .any ops (flags ops.size done) = [i]) (hG : effG ops E o = some G) (ht : GTrue E G)
    (h : ZO F n P N E D o (fun a' w' => (Dn i = true → S w') ∧ wpP F n P ops Q S Dn (i :: done) a' w') Q w) : Z N E D (wpP F n P ops Q S Dn done) w := by
  intro a ha
  unfold wpP
  rw [fuel_eq (i := i) hm]
  exact SX.next i hi hr ((wanted_of (ops := ops) (o := o) ha hG).2 (ht.holds ha)) (h a ha)
theorem tkP {done : List Nat} {i : Nat} (hS : Dn i = true → S w) (h : Z N E D (wpP F n P ops Q S Dn (i :: done)) w) : Z N E D (fun a' w' => (Dn i = true → S w') ∧ wpP F n P ops Q S Dn (i :: done) a' w') w := fun a ha => ⟨hS, h a ha⟩
theorem tdP {done : List Nat} (hm : Nat.beq (ops.size - done.length) 0 = true) (hr : Region.ready .any ops (flags ops.size done) = []) (h : Z N E D (Q .normal) w) : Z N E D (wpP F n P ops Q S Dn done) w := by
  intro a ha
  unfold wpP
  rw [Nat.eq_of_beq_eq_true hm]
  exact ⟨hr, h a ha⟩
/-- each of is may come first -/
def FA (F : Fence) (n : Nat) (P : Program) (N : Nat) (E : Env) (D : List Deferred) (ops : Array Oper) (K : Nat → Act → World → Prop) (Q : Exit → Act → World → Prop) (w : World) : List Nat → Prop
  | [] => True
  | i :: is => (∃ o G, ops[i]? = some o ∧ effG ops E o = some G ∧ GTrue E G ∧ ZO F n P N E D o (K i) Q w) ∧ FA F n P N E D ops K Q w is
theorem FA.at {K : Nat → Act → World → Prop} : ∀ {is : List Nat}, FA F n P N E D ops K Q w is → ∀ i ∈ is, ∃ o G, ops[i]? = some o ∧ effG ops E o = some G ∧ GTrue E G ∧ ZO F n P N E D o (K i) Q w
  | [], _, i, hi => by cases hi
  | j :: is, h, i, hi => by
    rcases List.mem_cons.1 hi with rfl | hi
    · exact h.1
    · exact FA.at h.2 i hi
theorem forkP [Wide F] {done : List Nat} (is : List Nat) (hm : left ops done = true) (hr : Region.ready .any ops (flags ops.size done) = is) (hne : is.isEmpty = false)
    (h : FA F n P N E D ops (fun i a' w' => (Dn i = true → S w') ∧ wpP F n P ops Q S Dn (i :: done) a' w') Q w is) : Z N E D (wpP F n P ops Q S Dn done) w := by
  intro a ha
  unfold wpP
  rw [fuel_eq (i := 0) hm]
  refine ⟨fun h0 => (by rw [hr] at h0; rw [h0] at hne; cases hne), fun k hk => ?_⟩
  rw [hr] at hk
  obtain ⟨o, G, hi, hG, ht, hz⟩ := FA.at h k hk
  have hw := (wanted_of (ops := ops) (o := o) ha hG).2 (ht.holds ha)
  unfold Go.wpOpIn
  simp only [hi, hw, if_true]
  exact hz a ha
theorem forkD [Wide F] {done : List Nat} (is : List Nat) (hm : left ops done = true) (hr : Region.ready .any ops (flags ops.size done) = is) (hne : is.isEmpty = false)
    (h : FA F n P N E D ops (fun i a' w' => (Dn i = true → S w') ∧ wpD F n P ops Q S Dn (i :: done) a' w') (SX.NP Q) w is) : Z N E D (wpD F n P ops Q S Dn done) w :=
  forkP (Q := SX.NP Q) is hm hr hne h
end Z
namespace Z
variable {N : Nat} {E E' : Env} {D : List Deferred} {a : Act} {G : Guards} {F : Fence} {n : Nat} {P : Program} {o : Oper} {v : Value}
variable {K : Act → World → Prop} {Q : Exit → Act → World → Prop} {w w' w0 : World} {x : Operand} {d k : Nat} {f : FuncId}

/-- one panic, on its way -/
def pe (v : Value) : List PanicEntry := [{ v := v, recovered := false }]

/-- the text's own panic -/
theorem ZO.panic [Wide F] {T : TypeId} {u : Value} (ho : o.op = .panic x) (hx : ev E [] x = some (.iface T u)) (h : Z N E D (Q (.panic (pe (.iface T u)))) w) : ZO F n P N E D o K Q w := by
  intro a ha
  refine ⟨fun f _ => Wide.fn f, ?_⟩
  have h1 := ev0 ha hx
  rw [Oper.semAt_plain F _ o (by intro c e; rw [ho] at e; cases e)]
  have h2 : (execOp a.eval o).run P w = .halt (.panic (.iface T u)) w := by simp only [execOp, ho, h1]; rfl
  rw [h2]
  exact h a ha

theorem Yd.tassert {S : World → Prop} {T T2 : TypeId} {ok : Bool} {u : Value} (hx : ev E G x = some u) (hr : ∀ w, (Instr.typeAssert u T T2 ok).run P w = .ok v w) : Yd P N D S E G (.typeAssert x T T2 ok) v := by
  refine ⟨fun c e => (by cases e), fun a ha hg o ho w _ => ?_⟩
  have h1 := ev_eval ha hg hx
  simp [execOp, ho, h1, hr]

theorem Yd.assertYes {S : World → Prop} {T T2 : TypeId} {u : Value} (hx : ev E G x = some (.iface T2 u)) (hr : ∀ (v : Value) (w : World), (Instr.typeAssert (.iface T2 v) T T2 true).run P w = .ok (.tuple #[v, .bool true]) w) : Yd P N D S E G (.typeAssert x T T2 true) (.tuple #[u, .bool true]) :=
  Yd.tassert hx (hr u)

/-- a call that returns or panics -/
def Bo (Φ : Value → World → Prop) (Ψ : List PanicEntry → World → Prop) (e : Ending) (w' : World) : Prop := (∃ v, e = .returned v ∧ Φ v w') ∨ ∃ c, e = .panicked c ∧ Ψ c w'
theorem Bo.ret {f : FuncId} {args : Array Value} {Φ : Value → World → Prop} {Ψ : List PanicEntry → World → Prop} (h : Calls P f args w (SX.Ret Φ)) : Calls P f args w (Bo Φ Ψ) := h.mono fun e w' ⟨v, h1, h2⟩ => .inl ⟨v, h1, h2⟩
theorem Bo.pan {f : FuncId} {args : Array Value} {Φ : Value → World → Prop} {Ψ : List PanicEntry → World → Prop} (h : Calls P f args w (Pan Ψ)) : Calls P f args w (Bo Φ Ψ) := h.mono fun e w' ⟨v, h1, h2⟩ => .inr ⟨v, h1, h2⟩
theorem ZO.callB [Wider F] {as : Array Operand} {ts : Array TypeId} {first cap args : Array Value} {vs : List Value} {Φ : Value → World → Prop} {Ψ : List PanicEntry → World → Prop}
    (ho : o.op = .call { callee := .value x, args := as, argTypes := ts }) (hd : o.dst = some d) (hc : chk N d E [] = true) (hx : ev E [] x = some (.func (.func k) first cap)) (hv : evs E [] as.toList = some vs) (hk : ∀ args w, (callFunc k args).run P w = .ok (.enter k args) w)
    (he : (first.toList ++ (vs ++ cap.toList)).toArray = args) (h : Calls P k args w (Bo Φ Ψ)) (hR : ∀ v w', Φ v w' → Z N ((d, [], v) :: E) D K w') (hP : ∀ c w', Ψ c w' → Z N E D (Q (.panic c)) w') : ZO F n P N E D o K Q w := by
  intro a ha
  obtain ⟨c1, c2, c3⟩ := chk_spec hc
  refine upon_call ha ho hx hv hk he h (fun e w' hr => ?_) (fun a w h => ⟨a, w, h⟩)
  rcases hr with ⟨v, rfl, hΦ⟩ | ⟨c, rfl, hΨ⟩
  · show K (a.put o.dst v) w'
    rw [hd]
    exact hR v w' hΦ _ (ha.put c1 c2 c3 (by rw [if_pos gnil]))
  · exact hP c w' hΨ _ ha
theorem ZO.callBn [Wider F] {as : Array Operand} {ts : Array TypeId} {first cap args : Array Value} {vs : List Value} {Φ : Value → World → Prop} {Ψ : List PanicEntry → World → Prop}
    (ho : o.op = .call { callee := .value x, args := as, argTypes := ts }) (hd : o.dst = none) (hx : ev E [] x = some (.func (.func k) first cap)) (hv : evs E [] as.toList = some vs) (hk : ∀ args w, (callFunc k args).run P w = .ok (.enter k args) w)
    (he : (first.toList ++ (vs ++ cap.toList)).toArray = args) (h : Calls P k args w (Bo Φ Ψ)) (hR : ∀ v w', Φ v w' → Z N E D K w') (hP : ∀ c w', Ψ c w' → Z N E D (Q (.panic c)) w') : ZO F n P N E D o K Q w := by
  intro a ha
  refine upon_call ha ho hx hv hk he h (fun e w' hr => ?_) (fun a w h => ⟨a, w, h⟩)
  rcases hr with ⟨v, rfl, hΦ⟩ | ⟨c, rfl, hΨ⟩
  · show K (a.put o.dst v) w'
    rw [hd]
    exact hR v w' hΦ _ ha
  · exact hP c w' hΨ _ ha

/-! ## structs and slices put together, evaluated without simp -/
def putL : Nat → List Value → List Value → List Value
  | 0, [], l => l
  | 0, c :: cs, _ :: l => c :: putL 0 cs l
  | 0, _ :: _, [] => []
  | n + 1, cs, x :: l => x :: putL n cs l
  | _ + 1, _, [] => []
def cellsN : Nat → Value → List Value
  | 1, v => [v]
  | _, .agg cs => cs.toList
  | _, _ => []
def unrev : List Value → List Value → Option (List Value)
  | [], acc => some acc
  | x :: l, acc => unrev l (x :: acc)
def forced : List Value → List Value → Option (List Value)
  | [], acc => unrev acc []
  | x :: l, acc => forced l (x :: acc)
def bldO (pls : List (Nat × Nat)) : List Value → List (Nat × Value) → Option (List Value)
  | zs, [] => forced zs []
  | zs, (i, v) :: us => match pls[i]? with
    | some (off, size) => bldO pls (putL off (cellsN size v) zs) us
    | none => none
theorem Yd.buildL {S : World → Prop} {T : TypeId} {ps : Array (Nat × Operand)} {us : List (Nat × Value)} {cs : List Value} (pls : List (Nat × Nat)) (zs : List Value) (hx : evp E G ps.toList = some us) (hb : bldO pls zs us = some cs)
    (hr : ∀ w, (Instr.build T us.toArray).run P w = .ok (.agg cs.toArray) w) : Yd P N D S E G (.build T ps) (.agg cs.toArray) := Yd.build hx hr
theorem ZO.litL [Wide F] {T T' : TypeId} {M : List Nat} {L : List SX.Ent} {ps : Array (Nat × Operand)} {us : List (Nat × Value)} {len : Nat} {cs : List Value} (pls : List (Nat × Nat)) (zs : List Value) (ho : o.op = .buildSlice T len ps) (hd : o.dst = some d) (hc : chk N d E [] = true) (hx : evp E [] ps.toList = some us)
    (hb : bldO pls zs us = some cs) (hr : ∀ W : World, (Instr.buildSlice T len us.toArray).run P W = .ok (.slice (some ⟨W.heap.size, 0, none⟩) len len) (W.alloc (.cells cs.toArray T'))) (hs : SX.St w0 M w L)
    (h : ∀ g w', SX.St w0 M w' (SX.Ent.blk g T' cs.toArray :: L) → Z N ((d, [], .slice (some ⟨g, 0, none⟩) len len) :: E) D K w') : ZO F n P N E D o K Q w :=
  ZO.lit ho hd hc hx hr hs h
/-- a part of a block, as an aggregate -/
theorem cellsBo {M : List Nat} {L : List SX.Ent} {g T o : Nat} {cs : List Value} (part : List Value) (hm : SX.Ent.blk g T cs.toArray ∈ L) (hp : part <+: cs.drop o) : ∀ w, SX.Keep w0 M L w → ∀ j u, part[j]? = some u → w.cell? ⟨g, o + j, none⟩ = some u := fun w h j u hu => by
  refine cellB (i := o + j) hm ?_ w h
  rw [nth_eq]
  obtain ⟨t, ht⟩ := hp
  have h1 : (cs.drop o)[j]? = some u := by
    rw [← ht, List.getElem?_append_left (List.getElem?_eq_some_iff.1 hu).1]
    exact hu
  rwa [List.getElem?_drop] at h1
/-- an operation whose guard was not computed -/
theorem skippedU {ops : Array Oper} (ha : Holds a N E D) {s : Nat} {b : Bool} (hG : effG ops E o = some ((s, b) :: G)) (hs : look s E = some ([], undef)) : Region.wanted o (yielded ops a.tmps) = false := by
  cases hw : Region.wanted o (yielded ops a.tmps) with
  | false => rfl
  | true =>
    have h1 := (wanted_of (ops := ops) (o := o) ha hG).1 hw (s, b) List.mem_cons_self
    have h2 := ha.get _ _ _ hs
    rw [if_pos gnil] at h2
    simp only at h1
    rw [h1] at h2
    simp [undef] at h2
theorem lsU [Wide F] {ops : Array Oper} {rest : List Oper} {s : Nat} {b : Bool} (hG : effG ops E o = some ((s, b) :: G)) (hs : look s E = some ([], undef)) (hd : o.dst = some d) (hc : chk N d E [] = true)
    (h : Z N ((d, [], undef) :: E) D (wpListIn F n P ops Q rest) w) : Z N E D (wpListIn F n P ops Q (o :: rest)) w := by
  intro a ha
  have hw := skippedU ha hG hs
  obtain ⟨h1, h2, h3⟩ := chk_spec hc
  unfold wpListIn
  rw [if_neg (by rw [hw]; simp)]
  refine ⟨fun f _ => Wide.fn f, ?_⟩
  rw [hd]
  exact h _ (ha.put h1 h2 h3 (by simp))
theorem lsUn [Wide F] {ops : Array Oper} {rest : List Oper} {s : Nat} {b : Bool} (hG : effG ops E o = some ((s, b) :: G)) (hs : look s E = some ([], undef)) (hd : o.dst = none)
    (h : Z N E D (wpListIn F n P ops Q rest) w) : Z N E D (wpListIn F n P ops Q (o :: rest)) w := by
  intro a ha
  have hw := skippedU ha hG hs
  unfold wpListIn
  rw [if_neg (by rw [hw]; simp)]
  refine ⟨fun f _ => Wide.fn f, ?_⟩
  rw [hd]
  exact h a ha
/-- the slice of a whole array -/
theorem Yd.cutA {S : World → Prop} {T e : TypeId} {b off nn size : Nat} (hx : ev E G x = some (.pointer (some ⟨b, off, none⟩))) (ht : P.underlying T = some (.array nn e)) (hs : ∀ w, (sizeOf e).run P w = .ok size w) :
    Yd P N D S E G (.slice T x none none none) (.slice (some ⟨b, off, none⟩) nn nn) := by
  refine ⟨fun c e => (by cases e), fun a ha hg o ho w _ => ?_⟩
  have h1 := ev_eval ha hg hx
  have h0 : ∀ (hh : nn = 0 ∨ ¬ nn = 0), (if nn = 0 then (⟨b, off, none⟩ : Addr) else (⟨b, off, none⟩ : Addr).add 0) = ⟨b, off, none⟩ := fun hh => by
    split
    · rfl
    · rw [add_none, Nat.add_zero]
  simp [execOp, ho, h1, Instr.sliceAt, run_underlying ht, Instr.sureAddr, Instr.sliceBounds, hs, add_none]
/-- an element of an array that is no struct -/
theorem Yd.idx1 {S : World → Prop} {T e : TypeId} {y : Operand} {nn : Nat} {cs : Array Value} {k : IntKind} {i : Int} (hx : ev E G x = some (.agg cs)) (hy : ev E G y = some (.int k i)) (ht : P.underlying T = some (.array nn e)) (hs : ∀ w, (sizeOf e).run P w = .ok 1 w)
    (hag : ∀ w, (isAgg e).run P w = .ok false w) (hb : GH E G → 0 ≤ i ∧ i < nn ∧ cs[i.toNat]? = some v) : Yd P N D S E G (.index T x y) v :=
  Yd.index hx hy fun hG w => by
    obtain ⟨h0, h1, h2⟩ := hb hG
    simp [Instr.index, asIntOf, run_underlying ht, h0, h1, hs, part, hag, h2]
def fldO (off size : Nat) : Value → Option Value
  | .agg cs => match size with
    | 1 => nth cs.toList off
    | n => (forced ((cs.toList.drop off).take n) []).map fun l => .agg l.toArray
  | _ => none
theorem Yd.fieldL {S : World → Prop} {T : TypeId} {f : Nat} {u : Value} (off size : Nat) (hx : ev E G x = some u) (hb : fldO off size u = some v) (hr : ∀ w, (Instr.field T u f).run P w = .ok v w) : Yd P N D S E G (.field T x f) v := Yd.field hx hr

/-- what a call that was put off does, in a frame on its way out in mode u: it leaves it in mode u' -/
def _root_.Go.Proofs.Yteabcdmgklhijaa.CallsDm (P : Program) (f : FuncId) (args : Array Value) (u u' : FrameMode) (w : World) (Φ : Value → World → Prop) : Prop := CallsDIn Fence.wide 0 P f args u w fun e v w' => v = u' ∧ SX.Ret Φ e w'
theorem _root_.Go.Proofs.Yteabcdmgklhijaa.CallsDf.dm {args : Array Value} {Φ : Value → World → Prop} (h : CallsDf P f args w Φ) (u : FrameMode) : CallsDm P f args u u w Φ := h u
theorem _root_.Go.Proofs.Yteabcdmgklhijaa.CallsDm.mono {args : Array Value} {u u' : FrameMode} {Φ Ψ : Value → World → Prop} (h : CallsDm P f args u u' w Φ) (hm : ∀ v w', Φ v w' → Ψ v w') : CallsDm P f args u u' w Ψ :=
  CallsDIn.mono h fun e x w' hh => ⟨hh.1, by obtain ⟨v, rfl, hv⟩ := hh.2; exact ⟨v, rfl, hm v w' hv⟩⟩

/-- a body that begins with recover -/
theorem enterRec {fn : Func} {y : Code} {id d0 d1 : Nat} {o0 o1 : Oper} {ts : Array TypeId} {args : Array Value} {Φ : Value → World → Prop} {u u' : FrameMode} {rv : Value}
    (hrec : ∀ (c0 : Frame) (cs : List Frame), c0.mode = u → (recoverD (c0 :: cs)).getD (.nilIface, c0 :: cs) = (rv, { c0 with mode := u' } :: cs))
    (hf : P.funcs[f]? = some fn) (hb : fn.body = some (.seq (.region id #[o0, o1] false) y)) (hn : fn.ntmps = N) (hN : Nat.ble args.size N = true) (he : envO 0 args.toList [] = some E)
    (h0 : o0.op = .call { callee := .builtin .recover, args := #[], argTypes := ts }) (g0 : o0.guard = none) (e0 : o0.dst = some d0) (h1 : o1.op = .assign (.tmp d0)) (g1 : o1.guard = none) (e1 : o1.dst = some d1)
    (hc : chk N d0 E [] = true) (hc1 : chk N d1 ((d0, [], rv) :: E) [] = true)
    (h : Z N ((d1, [], rv) :: (d0, [], rv) :: E) [] (y.wpIn Fence.wide 0 P (bodyPost P fn (SX.Ret Φ))) w) : CallsDm P f args u u' w Φ := by
  refine callsDIn_of_wpSIn hf hb trivial fun c0 cs hu => ?_
  rw [hn]
  have ha := holds_enter hN he
  generalize ({ tmps := args ++ Array.replicate (N - args.size) undef, defers := [] } : Act) = a at ha
  refine wpSIn_seq (wpSIn_region ?_)
  obtain ⟨k1, k2, k3⟩ := chk_spec hc
  obtain ⟨m1, m2, m3⟩ := chk_spec hc1
  have ha1 := ha.put (v := rv) k1 k2 k3 (by rw [if_pos gnil])
  have ha2 := ha1.put (v := rv) m1 m2 m3 (by rw [if_pos gnil])
  have hev : (a.put (some d0) rv).eval (.tmp d0) = rv := ev0 ha1 (by simp [ev, look, subG])
  have hr0 : (execOp a.eval o0).run P w = .ok .recover w := by simp [execOp, h0, resolve, invoke, builtin]
  have hr1 : (execOp (a.put (some d0) rv).eval o1).run P w = .ok (.value rv) w := by simp [execOp, h1, hev]
  have key : (y.wpSIn Fence.wide 0 P (bodyPostS P fn c0 cs fun e v w' => v = u' ∧ SX.Ret Φ e w')) ((a.put (some d0) rv).put (some d1) rv) ({ c0 with mode := u' } :: cs) w := by
    refine wpSIn_of_wpIn rfl (wpIn_mono (h _ ha2) fun e a' w' hq => ?_)
    cases e with
    | normal => obtain ⟨q1, v, q2, q3⟩ := hq; exact ⟨q1, u', rfl, v, q2, rfl, q3⟩
    | ret => obtain ⟨q1, v, q2, q3⟩ := hq; exact ⟨q1, u', rfl, v, q2, rfl, q3⟩
    | panic ch => obtain ⟨q1, q3⟩ := hq; exact ⟨q1, u', rfl, rfl, q3⟩
    | exit id => exact hq
    | goto l => exact hq
    | outgrown => exact ⟨u', rfl, hq⟩
  have hw0 : Region.wanted o0 (yielded #[o0, o1] a.tmps) = true := by simp [Region.wanted, g0]
  have hw1 : Region.wanted o1 (yielded #[o0, o1] (a.put (some d0) rv).tmps) = true := by simp [Region.wanted, g1]
  have hrc := hrec c0 cs hu
  have hl : List.range #[o0, o1].size = [0, 1] := rfl
  rw [hl]
  have step2 : wpOpsSIn Fence.wide 0 P #[o0, o1] (Exit.thenS (y.wpSIn Fence.wide 0 P (bodyPostS P fn c0 cs fun e v w' => v = u' ∧ SX.Ret Φ e w')) (bodyPostS P fn c0 cs fun e v w' => v = u' ∧ SX.Ret Φ e w')) [1] (a.put (some d0) rv) ({ c0 with mode := u' } :: cs) w := by
    have hi : (#[o0, o1] : Array Oper)[1]? = some o1 := rfl
    simp only [wpOpsSIn, hi, hw1, if_true, hr1, e1]
    exact ⟨fun f _ => trivial, key⟩
  have hi0 : (#[o0, o1] : Array Oper)[0]? = some o0 := rfl
  unfold wpOpsSIn
  simp only [hi0, hw0, if_true, hr0, e0]
  refine ⟨fun f _ => trivial, ?_⟩
  cases hd : recoverD (c0 :: cs) with
  | none =>
    rw [hd] at hrc
    simp only [Option.getD_none, Prod.mk.injEq] at hrc
    obtain ⟨r1, r2⟩ := hrc
    simp only
    rw [r1, r2]
    exact step2
  | some p =>
    obtain ⟨v1, cs1⟩ := p
    rw [hd] at hrc
    simp only [Option.getD_some, Prod.mk.injEq] at hrc
    obtain ⟨rfl, rfl⟩ := hrc
    exact step2
theorem rec_ret (c0 : Frame) (cs : List Frame) (h : c0.mode = .returning) : (recoverD (c0 :: cs)).getD (.nilIface, c0 :: cs) = (.nilIface, { c0 with mode := .returning } :: cs) := by
  have e : ({ c0 with mode := .returning } : Frame) = c0 := by rw [← h]
  simp [recoverD, h, e]
theorem rec_pan (v : Value) (c0 : Frame) (cs : List Frame) (h : c0.mode = .panicking (pe v)) : (recoverD (c0 :: cs)).getD (.nilIface, c0 :: cs) = (v, { c0 with mode := .panicking [{ v := v, recovered := true }] } :: cs) := by
  simp [recoverD, h, pe]

/-! ## the ends of a function that has put off one call -/
/-- it returns -/
theorem outDr {fn : Func} {R : Ending → World → Prop} {cap dargs : Array Value} {Φ : Value → World → Prop} (hk : ∀ args w, (callFunc k args).run P w = .ok (.enter k args) w)
    (hc : CallsDm P k (dargs ++ cap) .returning .returning w Φ) (hR : ∀ v w', Φ v w' → ∃ vs, RV P w' E fn.results.toList vs ∧ R (.returned (pack vs)) w') : Z N E [{ target := .fn (.func k) cap, args := dargs }] (bodyPostDIn Fence.wide 0 P fn R .ret) w := fun a ha => by
  show LeavesIn Fence.wide 0 P fn a.tmps R a.defers .returning w
  rw [ha.defers]
  refine leavesIn_cons (by simp) (by intro h; cases h) (hk _ _) (fun g _ => trivial) (CallsDIn.mono hc fun e u' w' h => ?_)
  obtain ⟨rfl, v, rfl, hv⟩ := h
  obtain ⟨vs, h1, h2⟩ := hR v w' hv
  exact ⟨_, results_run ⟨ha.size, ha.get, ha.defers⟩ h1 rfl, h2⟩
theorem outDrn {fn : Func} {R : Ending → World → Prop} {cap dargs : Array Value} {Φ : Value → World → Prop} (hk : ∀ args w, (callFunc k args).run P w = .ok (.enter k args) w)
    (hc : CallsDm P k (dargs ++ cap) .returning .returning w Φ) (hR : ∀ v w', Φ v w' → ∃ vs, RV P w' E fn.results.toList vs ∧ R (.returned (pack vs)) w') : Z N E [{ target := .fn (.func k) cap, args := dargs }] (bodyPostDIn Fence.wide 0 P fn R .normal) w := outDr hk hc hR
/-- a panic goes through it, and the call recovers -/
theorem outDp {fn : Func} {R : Ending → World → Prop} {cap dargs : Array Value} {Φ : Value → World → Prop} {u : Value} (hk : ∀ args w, (callFunc k args).run P w = .ok (.enter k args) w)
    (hc : CallsDm P k (dargs ++ cap) (.panicking (pe u)) (.panicking [{ v := u, recovered := true }]) w Φ) (hR : ∀ v w', Φ v w' → ∃ vs, RV P w' E fn.results.toList vs ∧ R (.returned (pack vs)) w') :
    Z N E [{ target := .fn (.func k) cap, args := dargs }] (bodyPostDIn Fence.wide 0 P fn R (.panic (pe u))) w := fun a ha => by
  show LeavesIn Fence.wide 0 P fn a.tmps R a.defers (.panicking (pe u)) w
  rw [ha.defers]
  refine leavesIn_cons (by simp) (by intro h; cases h) (hk _ _) (fun g _ => trivial) (CallsDIn.mono hc fun e u' w' h => ?_)
  obtain ⟨rfl, v, rfl, hv⟩ := h
  obtain ⟨vs, h1, h2⟩ := hR v w' hv
  exact ⟨_, results_run ⟨ha.size, ha.get, ha.defers⟩ h1 rfl, h2⟩
/-- .. and no call was put off yet -/
theorem outD0p {fn : Func} {R : Ending → World → Prop} {c : List PanicEntry} (hR : R (.panicked c) w) : Z N E [] (bodyPostDIn Fence.wide 0 P fn R (.panic c)) w := fun a ha => by
  show LeavesIn Fence.wide 0 P fn a.tmps R a.defers (.panicking c) w
  rw [ha.defers]
  exact hR
end Z
end Go.Proofs.Yteabcdmgklhijaa
