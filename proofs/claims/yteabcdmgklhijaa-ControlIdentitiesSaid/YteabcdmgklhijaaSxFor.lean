/- The statement that ranges over a function, over the list of a function's own blocks: the iterator's contract, and what the caller owes. -/
import Derived.Test.YteabcdmgklhijaaSxOrd
namespace Go.Proofs.Yteabcdmgklhijaa
open Go.RowKit
namespace SX

/-- **An iterator's contract**: function gf with the captured values lb, in whatever state of the caller (of which it needs the things E0, and R of what was there), hands the elements of xs to yield, each as arguments args in things Lx of its own with 'A x args Lx'; it ends behind the last one, or where a round said no. -/
def SeqC {α : Type} (P : Program) (gf : FuncId) (lb : Array Value) (A : α → Array Value → List Ent → Prop) (E0 : List Ent) (R : World → List Nat → Prop) (xs : List α) : Prop :=
  ∀ (l : Nat) (w0 : World) (M : List Nat) (I : List α → List Ent → Prop) (Ix : List Ent → Prop) (W : World) (L0 : List Ent), R w0 M →
    (∀ E pre x args W L Lx, I pre L → (pre ++ [x]) <+: xs → A x args Lx → St w0 M W (Lx ++ (L ++ E)) → YieldAt Fence.wide 0 P l args W fun e W' =>
      (e = .returned (.bool true) ∧ ∃ L', I (pre ++ [x]) L' ∧ St w0 M W' (L' ++ E)) ∨ (e = .returned (.bool false) ∧ ∃ L', Ix L' ∧ St w0 M W' (L' ++ E))) →
    I [] L0 → St w0 M W (L0 ++ E0) →
    Calls P gf (#[.func (.yield l) #[] #[]] ++ lb) W fun e W' => (∃ v, e = .returned v) ∧ ∃ L', (I xs L' ∨ Ix L') ∧ St w0 M W' (L' ++ E0)

variable {w0 w w' : World} {M : List Nat} {L : List Ent} {P : Program}

theorem heap_putObj_same {l : Nat} {o : Obj} (h : l < w.heap.size) : (w.putObj l o).heap[l]? = some o := World.putObj_heap_same h

/-- A block of ours becomes another object. -/
theorem St.putObj {j l : Nat} {ob : Obj} (h : St w0 M w L) (hj : L[j]? = some (Ent.obj l ob)) (ob' : Obj) : St w0 M (w.putObj l ob') (L.set j (Ent.obj l ob')) := by
  have hb : w.heap[l]? = some ob := h.get hj
  refine St.back hj ((h.front hj).step rfl rfl rfl (by simp) (fun b _ hne => ?_) (by simp [Ent.obj]) (by simp [Ent.obj]) (heap_putObj_same (lt_of_some hb)))
  exact World.putObj_heap_other (by simpa [Ent.obj] using hne)

theorem St.mid {L1 L2 : List Ent} {e : Ent} (h : St w0 M w (L1 ++ e :: L2)) : St w0 M w (e :: (L1 ++ L2)) := h.perm (List.perm_middle.symm)
theorem St.unmid {L1 L2 : List Ent} {e : Ent} (h : St w0 M w (e :: (L1 ++ L2))) : St w0 M w (L1 ++ e :: L2) := h.perm List.perm_middle

theorem St.putMid {L1 L2 : List Ent} {l : Nat} {ob : Obj} (h : St w0 M w (L1 ++ Ent.obj l ob :: L2)) (ob' : Obj) : St w0 M (w.putObj l ob') (L1 ++ Ent.obj l ob' :: L2) := by
  have := (h.mid).putObj (j := 0) rfl ob'
  exact St.unmid this

theorem St.getMid {L1 L2 : List Ent} {l : Nat} {ob : Obj} (h : St w0 M w (L1 ++ Ent.obj l ob :: L2)) : w.heap[l]? = some ob := h.ok (Ent.obj l ob) (by simp)

/-- How the body of a round may be left. -/
def roundQ {α : Type} (w0 : World) (M : List Nat) (I : List α → List Ent → Prop) (Ix : Code → List Ent → Prop) (xs : List α) (Z : List Ent) : Exit → Act → World → Prop
  | .normal, _, W' => ∃ L', I xs L' ∧ St w0 M W' (L' ++ Z)
  | .ret, _, W' => ∃ L', Ix .ret L' ∧ St w0 M W' (L' ++ Z)
  | .exit id, _, W' => ∃ L', Ix (.exit id) L' ∧ St w0 M W' (L' ++ Z)
  | .goto t, _, W' => ∃ L', Ix (.goto t) L' ∧ St w0 M W' (L' ++ Z)
  | .panic _, _, _ => False
  | .outgrown, _, _ => False

/-- **The statement, at the outermost level of a function.** -/
theorem rangeFunc {α : Type} {g : Operand} {ps : Array Tmp} {assign body : Code} {Q : Exit → Act → World → Prop} {a : Act} {gf : Nat} {lb : Array Value} {A : α → Array Value → List Ent → Prop} {E0 L0 : List Ent} {R : World → List Nat → Prop} {xs : List α}
    (hseq : SeqC P gf lb A E0 R xs) (hg : a.eval g = .func (.func gf) #[] lb) (eg : ∀ args w, (callFunc gf args).run P w = .ok (.enter gf args) w)
    (hs : St w0 M w (L0 ++ E0)) (hR : R w0 M) (hps : ∀ x args Lx, A x args Lx → args.size = ps.size)
    (I : List α → List Ent → Prop) (Ix : Code → List Ent → Prop) (h0 : I [] L0)
    (hround : ∀ (l : Nat) (Z : List Ent) pre x args W L Lx, I pre L → (pre ++ [x]) <+: xs → A x args Lx → St w0 M W (Lx ++ (L ++ Z)) →
      assign.wpIn (Fence.wide.inRound l) 0 P (Exit.then (fun a₁ W₁ => ∃ L₁, St w0 M W₁ (L₁ ++ Z) ∧ ∀ W₂ Z₂, St w0 M W₂ (L₁ ++ Z₂) →
        body.wpIn (Fence.wide.inRound l) 0 P (roundQ w0 M I Ix (pre ++ [x]) Z₂) a₁ W₂) (fun _ _ _ => False))
        { tmps := (ps.zip args).foldl (fun t (p, v) => t.setIfInBounds p v) a.tmps, defers := [] } W)
    (hdone : ∀ D W L, I xs L → St w0 M W (L ++ (Ent.obj D (.deferred (some [])) :: E0)) → Q .normal { a with defers := { target := .collected D, args := #[] } :: a.defers } W)
    (hstop : ∀ D c W L, Ix c L → St w0 M W (L ++ (Ent.obj D (.deferred (some [])) :: E0)) → c.wpIn Fence.wide 0 P Q { a with defers := { target := .collected D, args := #[] } :: a.defers } W) :
    (Code.rangeFunc g ps assign body).wpIn Fence.wide 0 P Q a w := by
  refine wpIn_rangeFunc ?_
  intro fn hfn
  obtain ⟨rec, hrec⟩ : ∃ rec : LoopState → Option Code → Loop, rec = fun st pe => { state := st, pending := pe, fn, tmps := a.tmps, params := ps, assign, body, defers := w.heap.size } := ⟨_, rfl⟩
  obtain ⟨W1, hW1⟩ : ∃ W1, (w.alloc (.deferred (some []))).alloc (.loop (rec .ready none)) = W1 := ⟨_, rfl⟩
  obtain ⟨l, hl⟩ : ∃ l, l = w.heap.size + 1 := ⟨_, rfl⟩
  obtain ⟨D, hD⟩ : ∃ D, D = w.heap.size := ⟨_, rfl⟩
  have hs1 : St w0 M W1 (L0 ++ (E0 ++ [Ent.obj l (.loop (rec .ready none)), Ent.obj D (.deferred (some []))])) := by
    have h1 := (hs.alloc (.deferred (some []))).alloc (.loop (rec .ready none))
    rw [hW1, World.size_alloc, ← hl, ← hD] at h1
    refine h1.perm ?_
    rw [← List.append_assoc]
    exact (List.perm_append_comm (l₁ := L0 ++ E0) (l₂ := [Ent.obj l (.loop (rec .ready none)), Ent.obj D (.deferred (some []))]))
  refine ⟨l, [{ target := .collected D, args := #[] }], W1, { target := .fn (.func gf) lb, args := #[.func (.yield l) #[] #[]] }, W1, gf,
    #[.func (.yield l) #[] #[]] ++ lb, W1, ?_, ?_, (fun _ _ => trivial), ?_, (fun h => (by cases h)), ?_⟩
  · rw [← hW1, hrec, hl, hD]; exact run_enterLoop_outer _ _ _ _ _
  · simp only [resolve, hg]
    simp [go_sem]
  · simp [invoke, go_sem, eg]
  · refine CallsIn.mono (call (hseq l w0 M (fun pre L => ∃ L', L = L' ++ [Ent.obj l (.loop (rec .ready none)), Ent.obj D (.deferred (some []))] ∧ I pre L')
      (fun L => ∃ c L', L = L' ++ [Ent.obj l (.loop (rec .done (some c))), Ent.obj D (.deferred (some []))] ∧ Ix c L') W1 (L0 ++ [Ent.obj l (.loop (rec .ready none)), Ent.obj D (.deferred (some []))]) hR ?_ ⟨L0, rfl, h0⟩ ?_)) ?_
    · -- one round
      rintro E pre x args W _ Lx ⟨L, rfl, hi⟩ hpre hA hst
      have hlW : W.heap[l]? = some (.loop (rec .ready none)) := hst.ok (Ent.obj l (.loop (rec .ready none))) (by simp)
      have hy := run_yield (P := P) (args := args) hlW (by rw [hrec]; exact hps x args Lx hA)
      rw [hrec] at hy
      have hst' : St w0 M W (Lx ++ (L ++ (Ent.obj l (.loop (rec .ready none)) :: (Ent.obj D (.deferred (some [])) :: E)))) := by simpa [List.append_assoc] using hst
      refine ⟨fn, _, assign, body, hy, roundIn_of_wpIn trivial (Go.wpIn_mono (hround l _ pre x args W L Lx hi hpre hA hst') ?_)⟩
      intro e a₁ W₁ hp
      cases e with
      | normal =>
        obtain ⟨L₁, hst1, hbody⟩ := hp
        have hl1 : W₁.heap[l]? = some (.loop (rec .ready none)) := hst1.getMid
        refine ⟨_, run_beginRound hl1 (by rw [hrec]), ?_⟩
        have hst2 := hst1.putMid (.loop { rec .ready none with state := .busy })
        refine Go.wpIn_mono (hbody _ _ hst2) ?_
        have fin : ∀ (jump : Option Code) (W3 : World) (L' : List Ent), St w0 M W3 (L' ++ (Ent.obj l (.loop { rec .ready none with state := .busy }) :: (Ent.obj D (.deferred (some [])) :: E))) →
            (Instr.endRound l jump).run P W3 = .ok (.bool jump.isNone) (W3.putObj l (.loop (rec (if jump.isNone then .ready else .done) jump))) ∧
            St w0 M (W3.putObj l (.loop (rec (if jump.isNone then .ready else .done) jump))) (L' ++ (Ent.obj l (.loop (rec (if jump.isNone then .ready else .done) jump)) :: (Ent.obj D (.deferred (some [])) :: E))) := fun jump W3 L' hst3 => by
          have hl3 := hst3.getMid
          have hr := run_endRound (P := P) jump hl3
          refine ⟨?_, hst3.putMid _⟩
          rw [hrec] at hr ⊢
          exact hr
        intro e a3 W3 hp
        cases e with
        | normal =>
          obtain ⟨L', hi', hst3⟩ := hp
          obtain ⟨hr, hst4⟩ := fin none W3 L' hst3
          exact ⟨_, _, hr, .inl ⟨rfl, _, ⟨L', rfl, hi'⟩, by simpa [List.append_assoc] using hst4⟩⟩
        | ret =>
          obtain ⟨L', hi', hst3⟩ := hp
          obtain ⟨hr, hst4⟩ := fin (some .ret) W3 L' hst3
          exact ⟨_, _, hr, .inr ⟨rfl, _, ⟨_, L', rfl, hi'⟩, by simpa [List.append_assoc] using hst4⟩⟩
        | exit id =>
          obtain ⟨L', hi', hst3⟩ := hp
          obtain ⟨hr, hst4⟩ := fin (some (.exit id)) W3 L' hst3
          exact ⟨_, _, hr, .inr ⟨rfl, _, ⟨_, L', rfl, hi'⟩, by simpa [List.append_assoc] using hst4⟩⟩
        | goto t =>
          obtain ⟨L', hi', hst3⟩ := hp
          obtain ⟨hr, hst4⟩ := fin (some (.goto t)) W3 L' hst3
          exact ⟨_, _, hr, .inr ⟨rfl, _, ⟨_, L', rfl, hi'⟩, by simpa [List.append_assoc] using hst4⟩⟩
        | panic ch => exact hp.elim
        | outgrown => exact hp.elim
      | exit id => exact hp.elim
      | goto t => exact hp.elim
      | ret => exact hp.elim
      | panic ch => exact hp.elim
      | outgrown => exact hp.elim
    · refine hs1.perm ?_
      rw [List.append_assoc]
      exact (List.perm_append_comm).append_left L0
    · -- behind the iterator
      rintro e W2 ⟨⟨v, rfl⟩, _, (⟨L', rfl, hi⟩ | ⟨c, L', rfl, hi⟩), hst⟩
      · have hst' : St w0 M W2 (L' ++ (Ent.obj l (.loop (rec .ready none)) :: (Ent.obj D (.deferred (some [])) :: E0))) := by simpa [List.append_assoc] using hst
        have hlW := hst'.getMid
        refine ⟨none, _, by have := run_endLoop (P := P) hlW (by rw [hrec]; simp); rw [hrec] at this; exact this, hdone D _ L' hi ?_⟩
        exact (hst'.putMid _).sub (List.Sublist.append (List.Sublist.refl _) (List.sublist_cons_self _ _))
      · have hst' : St w0 M W2 (L' ++ (Ent.obj l (.loop (rec .done (some c))) :: (Ent.obj D (.deferred (some [])) :: E0))) := by simpa [List.append_assoc] using hst
        have hlW := hst'.getMid
        refine ⟨some c, _, by have := run_endLoop (P := P) hlW (by rw [hrec]; simp); rw [hrec] at this; exact this, hstop D c _ L' hi ?_⟩
        exact (hst'.putMid _).sub (List.Sublist.append (List.Sublist.refl _) (List.sublist_cons_self _ _))

/-- A call of yield. -/
theorem wp_yield {l : Nat} {a : Act} {o : Oper} {K : Act → World → Prop} {Q : Exit → Act → World → Prop} {x : Operand} {as : Array Operand} {ts : Array TypeId} {args : Array Value} {Rp : Ending → World → Prop}
    (ho : o.op = .call { callee := .value x, args := as, argTypes := ts }) (hx : a.eval x = .func (.yield l) #[] #[]) (hargs : (as.toList.map a.eval).toArray = args)
    (hY : YieldAt Fence.wide 0 P l args w Rp) (hK : ∀ e w', Rp e w' → ∃ v, e = .returned v ∧ K (a.put o.dst v) w') : o.wpIn Fence.wide 0 P a w K Q := by
  refine ⟨fun f _ => trivial, ?_⟩
  rw [Oper.semAt_plain Fence.wide _ o (by intro c hc; rw [ho] at hc; cases hc)]
  obtain ⟨fn, tmps, assign, body, hy, hR⟩ := hY
  have hrun : (execOp a.eval o).run P w = .ok (.round l fn tmps assign body) w := by
    simp only [execOp, ho, resolve, Sem.run_bind, hx, Deferred.ofValue, Sem.run_pure, Result.andThen_ok, invoke]
    rw [← hy, ← hargs]
    congr 2
    apply Array.ext'
    simp
  rw [hrun]
  refine ⟨fun h => (by cases h), hR.mono fun e w' hr => ?_⟩
  obtain ⟨v, rfl, hk⟩ := hK e w' hr
  exact hk

/-- A function that holds such a statement is entered. -/
theorem enterM {f : FuncId} {fn : Func} {c : Code} {args : Array Value} {Rp : Ending → World → Prop} (hf : P.funcs[f]? = some fn) (hb : fn.body = some c)
    (h : c.wpIn Fence.wide 0 P (bodyPostM Fence.wide 0 P fn Rp) { tmps := args ++ Array.replicate (fn.ntmps - args.size) undef, defers := [] } w) : Calls P f args w Rp :=
  (callsIn_wide (n := 0)).1 (callsIn_of_wp_marks hf hb trivial h)

/-- It returns without a mark. -/
theorem leave0 {fn : Func} {a : Act} {Rp : Ending → World → Prop} {v : Value} (hd : a.defers = []) (hr : (results fn a.tmps).run P w = .ok v w) (h : Rp (.returned v) w) : bodyPostM Fence.wide 0 P fn Rp .ret a w := by
  show LeavesInM Fence.wide 0 P fn a.tmps Rp a.defers .returning w
  rw [hd]
  exact ⟨v, hr, h⟩
theorem leave0n {fn : Func} {a : Act} {Rp : Ending → World → Prop} {v : Value} (hd : a.defers = []) (hr : (results fn a.tmps).run P w = .ok v w) (h : Rp (.returned v) w) : bodyPostM Fence.wide 0 P fn Rp .normal a w :=
  leave0 hd hr h

/-- It returns with one mark. -/
theorem leave1 {fn : Func} {a : Act} {Rp : Ending → World → Prop} {v : Value} {D : Nat} {L1 L2 : List Ent} (hs : St w0 M w (L1 ++ Ent.obj D (.deferred (some [])) :: L2)) (hd : a.defers = [{ target := .collected D, args := #[] }])
    (hr : ∀ w, (results fn a.tmps).run P w = .ok v w) (h : ∀ w', St w0 M w' (L1 ++ L2) → Rp (.returned v) w') : bodyPostM Fence.wide 0 P fn Rp .ret a w := by
  show LeavesInM Fence.wide 0 P fn a.tmps Rp a.defers .returning w
  rw [hd]
  refine ⟨by simp, .inl ⟨D, _, rfl, run_takeDeferred hs.getMid, ?_⟩⟩
  refine ⟨v, hr _, h _ ?_⟩
  exact (hs.putMid (.deferred none)).sub (List.Sublist.append (List.Sublist.refl _) (List.sublist_cons_self _ _))
theorem leave1n {fn : Func} {a : Act} {Rp : Ending → World → Prop} {v : Value} {D : Nat} {L1 L2 : List Ent} (hs : St w0 M w (L1 ++ Ent.obj D (.deferred (some [])) :: L2)) (hd : a.defers = [{ target := .collected D, args := #[] }])
    (hr : ∀ w, (results fn a.tmps).run P w = .ok v w) (h : ∀ w', St w0 M w' (L1 ++ L2) → Rp (.returned v) w') : bodyPostM Fence.wide 0 P fn Rp .normal a w :=
  leave1 hs hd hr h

end SX
end Go.Proofs.Yteabcdmgklhijaa
