/- Regions that draw their order: an operation whose value does not hang on the order is taken first; what is left comes one by one. -/
import Derived.Test.YteabcdmgklhijaaSxOps
namespace Go.Proofs.Yteabcdmgklhijaa
open Go.RowKit
set_option linter.unusedVariables false
set_option linter.unusedSimpArgs false
namespace SX
section
variable {F : Fence} {n : Nat} {P : Program} {ops : Array Oper} {Q : Exit → Act → World → Prop} {md : Region.Mode} {S : World → Prop} {D : Nat → Bool}

def YieldsS (P : Program) (ops : Array Oper) (S : World → Prop) (o : Oper) (v : Value) (a : Act) : Prop :=
  (Region.wanted o (yielded ops a.tmps) = true ∧ ∀ w, S w → (execOp a.eval o).run P w = .ok (.value v) w) ∨
  (Region.wanted o (yielded ops a.tmps) = false ∧ v = undef)

theorem YieldsS.wpOpIn {i : Nat} {o : Oper} {v : Value} {a : Act} (hF : ∀ f, F.fn f) (hi : ops[i]? = some o) (hdo : ∀ c, o.op ≠ .defer c) (hy : YieldsS P ops S o v a)
    {K : Act → World → Prop} {w : World} (hS : S w) (h : K (a.put o.dst v) w) : wpOpIn F n P ops Q i K a w := by
  unfold Go.wpOpIn
  simp only [hi]
  rcases hy with ⟨hw, hv⟩ | ⟨hw, rfl⟩
  · simp only [hw, if_true, Oper.wpIn, Oper.semAt_plain F _ o hdo, hv w hS, Oper.uponIn]; exact ⟨fun f _ => hF f, h⟩
  · simp only [hw, Bool.false_eq_true, if_false]; exact ⟨fun f _ => hF f, h⟩

theorem YieldsS.of_same {o : Oper} {v : Value} {a a' : Act} (hy : YieldsS P ops S o v a) (he : execOp a'.eval o = execOp a.eval o)
    (hw : Region.wanted o (yielded ops a'.tmps) = Region.wanted o (yielded ops a.tmps)) : YieldsS P ops S o v a' := by
  unfold YieldsS at *
  rw [he, hw]
  exact hy

theorem wpOpIn_putS {j : Nat} {oi oj : Oper} {v : Value} (hF : ∀ f, F.fn f) (hj : ops[j]? = some oj) (hap : oi.apart ops oj = true)
    (hsi : ∀ cs b, oi.op ≠ .select cs b) (hsj : ∀ cs b, oj.op ≠ .select cs b) (hdj : ∀ c, oj.op ≠ .defer c)
    (hQ : ∀ c a w, Q (.panic c) (a.put oi.dst v) w → Q (.panic c) a w) {K : Act → World → Prop} {a : Act} {w : World}
    (hy : YieldsS P ops S oi v a) (h : wpOpIn F n P ops Q j K (a.put oi.dst v) w) :
    wpOpIn F n P ops Q j (fun a' w' => YieldsS P ops S oi v a' ∧ K (a'.put oi.dst v) w') a w := by
  obtain ⟨h1, h2, h3⟩ := Oper.apart_spec hap
  have keep : ∀ (a : Act), YieldsS P ops S oi v a → ∀ u, YieldsS P ops S oi v (a.put oj.dst u) := fun a hy u =>
    hy.of_same (execOp_put oi hsi a oj.dst u h3) (wanted_put oi a oj.dst u h3)
  have keepD : ∀ d, YieldsS P ops S oi v { a with defers := d :: a.defers } := fun d => hy.of_same rfl rfl
  unfold Go.wpOpIn at *
  simp only [hj] at *
  rw [wanted_put oj a oi.dst v h1] at h
  split
  · rename_i hw
    simp only [hw, if_true] at h
    unfold Oper.wpIn at *
    refine ⟨fun f _ => hF f, ?_⟩
    have h := h.2
    rw [Oper.semAt_plain F _ oj hdj, execOp_put oj hsj a oi.dst v h1] at h
    rw [Oper.semAt_plain F _ oj hdj]
    generalize (execOp a.eval oj).run P w = r at *
    cases r with
    | ok x w' =>
      cases x <;> simp only [Oper.uponIn] at h ⊢
      case value u => exact ⟨keep a hy u, by rw [← Act.put_comm a v u h2]; exact h⟩
      case skip => exact ⟨keep a hy _, by rw [← Act.put_comm a v undef h2]; exact h⟩
      case defer d =>
        refine ⟨keep _ (keepD d) _, ?_⟩
        rw [← Act.put_comm _ v undef h2, ← Act.put_defers]
        exact h
      case enter f args =>
        refine ⟨h.1, CallsIn.mono h.2 fun e w'' he => ?_⟩
        cases e with
        | returned u => exact ⟨keep a hy u, by rw [← Act.put_comm a v u h2]; exact he⟩
        | panicked c => exact hQ _ _ _ he
        | outgrown => exact he
      case row row args => exact ⟨h.1, RowsIn.mono h.2 fun u w'' he => ⟨keep a hy u, by rw [← Act.put_comm a v u h2]; exact he⟩⟩
      case round l f tmps assign body =>
        refine ⟨h.1, RoundIn.mono h.2 fun e w'' he => ?_⟩
        cases e with
        | returned u => exact ⟨keep a hy u, by rw [← Act.put_comm a v u h2]; exact he⟩
        | panicked c => exact hQ _ _ _ he
        | outgrown => exact he
    | halt x w' =>
      cases x <;> simp only [Oper.uponIn] at h ⊢
      case panic u => exact hQ _ _ _ h
  · rename_i hw
    simp only [hw] at h
    exact ⟨fun f _ => hF f, keep a hy _, by rw [← Act.put_comm a v undef h2]; exact h.2⟩

/-- Whatever order is picked from here on; S holds behind every operation that D names. -/
def wpAnyS (F : Fence) (n : Nat) (P : Program) (md : Region.Mode) (ops : Array Oper) (Q : Exit → Act → World → Prop) (S : World → Prop) (D : Nat → Bool) : Nat → Array Bool → Act → World → Prop
  | 0, listed, a, w => Region.ready md ops listed = [] ∧ Q .normal a w
  | fuel + 1, listed, a, w =>
    (Region.ready md ops listed = [] → Q .normal a w) ∧
    ∀ i ∈ Region.ready md ops listed, wpOpIn F n P ops Q i (fun a' w' => (D i = true → S w') ∧ wpAnyS F n P md ops Q S D fuel (listed.setIfInBounds i true) a' w') a w

theorem wpAnyIn_of_S : ∀ (fuel : Nat) (listed : Array Bool) (a : Act) (w : World), wpAnyS F n P md ops Q S D fuel listed a w → wpAnyIn F n P md ops Q fuel listed a w
  | 0, _, _, _, h => h
  | fuel + 1, _, _, _, h => ⟨h.1, fun i hi => wpOpIn_mono (fun a' w' h' => wpAnyIn_of_S fuel _ a' w' h'.2) (h.2 i hi)⟩

theorem wpAnyS_first {i : Nat} {oi : Oper} {v : Value} (hF : ∀ f, F.fn f) (hi : ops[i]? = some oi) (hsel : ∀ (j : Nat) (o : Oper) cs b, ops[j]? = some o → o.op ≠ .select cs b)
    (hdef : ∀ (j : Nat) (o : Oper) c, ops[j]? = some o → o.op ≠ .defer c)
    (hD : ∀ (j : Nat) (oj : Oper), ops[j]? = some oj → j ≠ i → (∀ e ∈ oj.after, Region.binds md e = true → e.on ≠ i) → D j = true)
    (hQ : ∀ c a w, Q (.panic c) (a.put oi.dst v) w → Q (.panic c) a w) :
    ∀ (fuel : Nat) (listed : Array Bool) (a : Act) (w : World),
      (∀ j oj, ops[j]? = some oj → j ≠ i → listed.getD j true = false → (∀ e ∈ oj.after, Region.binds md e = true → e.on ≠ i) → oi.apart ops oj = true) →
      i ∈ Region.ready md ops listed → YieldsS P ops S oi v a → S w →
      wpAnyS F n P md ops Q S D fuel (listed.setIfInBounds i true) (a.put oi.dst v) w → wpAnyS F n P md ops Q S D (fuel + 1) listed a w := by
  intro fuel
  induction fuel with
  | zero =>
    intro listed a w _ hr hy hS H
    refine ⟨fun h => (by rw [h] at hr; cases hr), fun j hj => ?_⟩
    by_cases hji : j = i
    · subst hji; exact hy.wpOpIn hF hi (fun c => hdef _ _ c hi) hS ⟨fun _ => hS, H⟩
    · have := ready_mono hj hji
      rw [H.1] at this
      cases this
  | succ fuel ih =>
    intro listed a w hfree hr hy hS H
    refine ⟨fun h => (by rw [h] at hr; cases hr), fun j hj => ?_⟩
    by_cases hji : j = i
    · subst hji; exact hy.wpOpIn hF hi (fun c => hdef _ _ c hi) hS ⟨fun _ => hS, H⟩
    · have h1 := H.2 j (ready_mono hj hji)
      obtain ⟨hjun, oj, hoj, hall⟩ := mem_ready.1 hj
      have hnot : ∀ e ∈ oj.after, Region.binds md e = true → e.on ≠ i := fun e he hb heq => by
        have h1 := hall e he hb
        have h0 := (mem_ready.1 hr).1
        rw [heq] at h1
        rcases Nat.lt_or_ge i listed.size with h' | h'
        · simp [h'] at h0 h1; rw [h0] at h1; cases h1
        · simp [Array.getElem?_eq_none h'] at h1
      have h2 := wpOpIn_putS hF hoj (hfree j oj hoj hji hjun hnot) (fun cs b => hsel i oi cs b hi) (fun cs b => hsel j oj cs b hoj) (fun c => hdef j oj c hoj) hQ hy h1
      have hfree' : ∀ k ok, ops[k]? = some ok → k ≠ i → (listed.setIfInBounds j true).getD k true = false →
          (∀ e ∈ ok.after, Region.binds md e = true → e.on ≠ i) → oi.apart ops ok = true := fun k ok hk hki hun hno => by
        refine hfree k ok hk hki ?_ hno
        by_cases hjk : j = k
        · subst hjk; exact hjun
        · rw [getD_set_ne true hjk] at hun; exact hun
      refine wpOpIn_mono (fun a' w' h3 => ⟨h3.2.1, ih (listed.setIfInBounds j true) a' w' hfree' (ready_mono hr (Ne.symm hji)) h3.1 (h3.2.1 (hD j oj hoj hji hnot)) ?_⟩) h2
      rw [Array.setIfInBounds_comm _ _ hji]
      exact h3.2.2

/-- No operation is a defer statement. -/
def noDefer (ops : Array Oper) : Bool := ops.all fun o => match o.op with | .defer _ => false | _ => true

theorem noDefer_spec (h : noDefer ops = true) : ∀ (j : Nat) (o : Oper) c, ops[j]? = some o → o.op ≠ .defer c := fun j o c ho e => by
  have := (Array.all_eq_true_iff_forall_mem.1 h) o (Array.mem_of_getElem? ho)
  simp [e] at this

/-- D names all that may come before i is done. -/
def demands (md : Region.Mode) (ops : Array Oper) (D : Nat → Bool) (i : Nat) : Bool :=
  (List.range ops.size).all fun j => D j || j == i || match ops[j]? with
    | some o => o.after.toList.any fun e => Region.binds md e && e.on == i
    | none => true

theorem demands_spec {i : Nat} (h : demands md ops D i = true) (j : Nat) (oj : Oper) (hj : ops[j]? = some oj) (hji : j ≠ i) (hno : ∀ e ∈ oj.after, Region.binds md e = true → e.on ≠ i) : D j = true := by
  have hlt : j < ops.size := (Array.getElem?_eq_some_iff.1 hj).1
  have h1 := (List.all_eq_true.1 h) j (List.mem_range.2 hlt)
  simp only [hj, Bool.or_eq_true, beq_iff_eq, hji, or_false] at h1
  rcases h1 with h1 | h1
  · exact h1
  · obtain ⟨e, he, h2⟩ := List.any_eq_true.1 h1
    simp only [Bool.and_eq_true, beq_iff_eq] at h2
    exact absurd h2.2 (hno e (by simpa using he) h2.1)

/-- No panic comes out. -/
def NP (Q : Exit → Act → World → Prop) : Exit → Act → World → Prop
  | .panic _, _, _ => False
  | e, a, w => Q e a w
theorem NP.out {Q : Exit → Act → World → Prop} {e : Exit} {a : Act} {w : World} (h : NP Q e a w) : Q e a w := by
  cases e <;> first | exact h | exact h.elim

/-- **The beginning.** -/
theorem region_begin {id : Nat} {a : Act} {w : World} (S : World → Prop) (D : Nat → Bool) (hm : P.follows .mixedOrders = true)
    (h : wpAnyS F n P .any ops (NP Q) S D ops.size (Array.replicate ops.size false) a w.drew) : (Code.region id ops true).wpIn F n P Q a w :=
  Go.wpIn_mono (wpIn_region_any hm (wpAnyIn_of_S _ _ _ _ h)) fun e a w h => NP.out h

/-- All the side conditions of a taking, as one Bool. -/
def mayTake (md : Region.Mode) (ops : Array Oper) (D : Nat → Bool) (listed : Array Bool) (i : Nat) : Bool :=
  Region.noSelect ops && noDefer ops && demands md ops D i && Region.free md ops listed i && (Region.ready md ops listed).contains i

/-- Number i is taken first. -/
theorem take {oi : Oper} {v : Value} {fuel : Nat} {listed : Array Bool} {a : Act} {w : World} (i : Nat) (hF : ∀ f, F.fn f) (hi : ops[i]? = some oi) (hc : mayTake md ops D listed i = true)
    (hQ : ∀ c a w, Q (.panic c) (a.put oi.dst v) w → Q (.panic c) a w) (hw : Region.wanted oi (yielded ops a.tmps) = true) (hy : ∀ w, S w → (execOp a.eval oi).run P w = .ok (.value v) w) (hS : S w)
    (h : wpAnyS F n P md ops Q S D fuel (listed.setIfInBounds i true) (a.put oi.dst v) w) : wpAnyS F n P md ops Q S D (fuel + 1) listed a w := by
  simp only [mayTake, Bool.and_eq_true] at hc
  obtain ⟨⟨⟨⟨h1, h2⟩, h3⟩, h4⟩, h5⟩ := hc
  exact wpAnyS_first hF hi (Region.noSelect_spec h1) (noDefer_spec h2) (demands_spec h3) hQ fuel listed a w (Region.free_spec hi h4) (by simpa using h5) (.inl ⟨hw, hy⟩) hS h

/-- Number i, whose guard says no, is passed over. -/
theorem takeNot {oi : Oper} {fuel : Nat} {listed : Array Bool} {a : Act} {w : World} (i : Nat) (hF : ∀ f, F.fn f) (hi : ops[i]? = some oi) (hc : mayTake md ops D listed i = true)
    (hQ : ∀ c a w, Q (.panic c) (a.put oi.dst undef) w → Q (.panic c) a w) (hw : Region.wanted oi (yielded ops a.tmps) = false) (hS : S w)
    (h : wpAnyS F n P md ops Q S D fuel (listed.setIfInBounds i true) (a.put oi.dst undef) w) : wpAnyS F n P md ops Q S D (fuel + 1) listed a w := by
  simp only [mayTake, Bool.and_eq_true] at hc
  obtain ⟨⟨⟨⟨h1, h2⟩, h3⟩, h4⟩, h5⟩ := hc
  exact wpAnyS_first hF hi (Region.noSelect_spec h1) (noDefer_spec h2) (demands_spec h3) hQ fuel listed a w (Region.free_spec hi h4) (by simpa using h5) (.inr ⟨hw, rfl⟩) hS h

/-- Number i alone may come. -/
theorem next {oi : Oper} {fuel : Nat} {listed : Array Bool} {a : Act} {w : World} (i : Nat) (hi : ops[i]? = some oi) (hr : Region.ready md ops listed = [i]) (hw : Region.wanted oi (yielded ops a.tmps) = true)
    (h : oi.wpIn F n P a w (fun a' w' => (D i = true → S w') ∧ wpAnyS F n P md ops Q S D fuel (listed.setIfInBounds i true) a' w') Q) : wpAnyS F n P md ops Q S D (fuel + 1) listed a w := by
  refine ⟨fun h0 => (by rw [hr] at h0; cases h0), fun k hk => ?_⟩
  rw [hr] at hk
  obtain rfl : k = i := by simpa using hk
  unfold Go.wpOpIn
  simp only [hi, hw, if_true]
  exact h

/-- All have come. -/
theorem done {listed : Array Bool} {a : Act} {w : World} (hr : Region.ready md ops listed = []) (h : Q .normal a w) : wpAnyS F n P md ops (NP Q) S D 0 listed a w := ⟨hr, h⟩
end

/-- What the loads of a region lean on: the things of Ls, and what was there when the function began. -/
def Keep (w0 : World) (M : List Nat) (Ls : List Ent) (w : World) : Prop := ∃ R, St w0 M w R ∧ ∀ e ∈ Ls, e ∈ R

theorem in0 {e : Ent} {R : List Ent} : e ∈ e :: R := List.mem_cons_self
theorem in1 {e0 e : Ent} {R : List Ent} : e ∈ e0 :: e :: R := List.mem_cons_of_mem _ List.mem_cons_self
theorem in2 {e0 e1 e : Ent} {R : List Ent} : e ∈ e0 :: e1 :: e :: R := List.mem_cons_of_mem _ in1
theorem in3 {e0 e1 e2 e : Ent} {R : List Ent} : e ∈ e0 :: e1 :: e2 :: e :: R := List.mem_cons_of_mem _ in2
theorem in4 {e0 e1 e2 e3 e : Ent} {R : List Ent} : e ∈ e0 :: e1 :: e2 :: e3 :: e :: R := List.mem_cons_of_mem _ in3

theorem Keep.blk {w0 w : World} {M : List Nat} {Ls : List Ent} (h : Keep w0 M Ls w) {g i : Nat} {T : TypeId} {cs : Array Value} {v : Value} (hm : Ent.blk g T cs ∈ Ls) (hv : cs[i]? = some v) : w.cell? ⟨g, i, none⟩ = some v := by
  obtain ⟨R, hR, hL⟩ := h
  exact (cell_blk (hR.ok _ (hL _ hm)) i).trans hv

theorem Keep.old {w0 w : World} {M : List Nat} {Ls : List Ent} (h : Keep w0 M Ls w) {p : Addr} {v : Value} (hp : p.block < w0.heap.size) (hM : p.block ∉ M) (hc : w0.cell? p = some v) : w.cell? p = some v := by
  obtain ⟨R, hR, _⟩ := h
  exact (hR.oldcell hp hM).trans hc

section
variable {P : Program} {a : Act} {w : World} {o : Oper} {S : World → Prop}
theorem y_load {T : TypeId} {p : Operand} {q : Addr} {v : Value} (ho : o.op = .load T p) (hagg : ∀ w, (isAgg T).run P w = .ok false w) (hp : a.eval p = .pointer (some q)) (hc : ∀ w, S w → w.cell? q = some v) :
    ∀ w, S w → (execOp a.eval o).run P w = .ok (.value v) w := fun w hS => by
  simp [execOp, ho, hp, Instr.loadAt, Instr.sureAddr, loadVar, hagg, hc w hS]
theorem y_move {x : Operand} (ho : o.op = .move x ∨ o.op = .assign x) : ∀ w, S w → (execOp a.eval o).run P w = .ok (.value (a.eval x)) w := fun w _ => by
  cases ho with
  | inl ho => simp [execOp, ho]
  | inr ho => simp [execOp, ho]
end

section
variable {F : Fence} {n : Nat} {P : Program} {w : World} {a : Act} {K : Act → World → Prop} {Q : Exit → Act → World → Prop} {o : Oper}
/-- A call of a function value. -/
theorem wp_calls {k : FuncId} {x : Operand} {as : Array Operand} {ts : Array TypeId} {first cap args : Array Value} (hF : ∀ f, F.fn f) (hd : F.depth = none)
    (ho : o.op = .call { callee := .value x, args := as, argTypes := ts }) (hx : a.eval x = .func (.func k) first cap) (hk : ∀ args w, (callFunc k args).run P w = .ok (.enter k args) w)
    (hargs : (first.toList ++ as.toList.map a.eval ++ cap.toList).toArray = args)
    (h : CallsIn F (n - 1) P k args w (fun e w' => ∃ v, e = .returned v ∧ K (a.put o.dst v) w')) : o.wpIn F n P a w K Q := by
  refine ⟨fun f _ => hF f, ?_⟩
  rw [Oper.semAt_plain F _ o (by intro c hc; rw [ho] at hc; cases hc)]
  have hrun : (execOp a.eval o).run P w = .ok (.enter k args) w := by
    simp only [execOp, ho, resolve, Sem.run_bind, hx, Deferred.ofValue, Sem.run_pure, Result.andThen_ok, invoke, hk]
    rw [← hargs]
    congr 2
    apply Array.ext'
    simp
  rw [hrun]
  refine ⟨fun h => (by rw [hd] at h; cases h), h.mono fun e w' hR => ?_⟩
  obtain ⟨v, rfl, hΦ⟩ := hR
  exact hΦ
end

end SX
end Go.Proofs.Yteabcdmgklhijaa
