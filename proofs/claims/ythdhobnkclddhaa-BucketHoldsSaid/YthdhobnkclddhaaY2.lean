/- Part 2 of the proofs that lead to the statement. -/
import Derived.Test.YthdhobnkclddhaaY1
import Derived.ProofKit
import Derived.OpenShut
import Derived.ShutString
import Derived.ChangeOld
import Derived.Below
/- Iterators used inside of loops: the marks are carried along. -/
namespace Go.Proofs.Ythdhobnkclddhaa
open Go.RowKit
set_option linter.unusedVariables false
set_option linter.unusedSimpArgs false
namespace Z
variable {N : Nat} {E E' : Env} {D : List Deferred} {a : Act} {G : Guards} {F : Fence} {n : Nat} {P : Program} {o : Oper} {v : Value}
variable {K : Act → World → Prop} {Q : Exit → Act → World → Prop} {w w' w0 : World} {x y : Code} {d k : Nat} {f : FuncId} {M : List Nat} {L L1 L2 : List SX.Ent}
/-- a mark among the calls put off, and its object -/
def mkD (d : Nat) : Deferred := { target := .collected d, args := #[] }
def mkE (d : Nat) : SX.Ent := SX.Ent.obj d (.deferred (some []))
theorem loopD {ι : Type} (Dm : ι → List Deferred) (is : List Nat) {E0 : Env} (hk : keepO E is [] = some E0) (envm : ι → Env) (I : ι → World → Prop) (μ : ι → Nat) (i0 : ι) (hD : Dm i0 = D) (hE : Sub (envm i0) E) (h0 : I i0 w)
    (round : ∀ i w, I i w → Z N (envm i ++ E0) (Dm i) (x.wpIn F n P (Exit.then (fun a' w' => ∃ j, Holds a' N (envm j ++ E0) (Dm j) ∧ I j w' ∧ μ j < μ i) Q)) w) : Z N E D ((Code.loop x).wpIn F n P Q) w := by
  classical
  intro a ha
  subst hD
  have hleast : ∀ a w, (∃ i, Holds a N (envm i ++ E0) (Dm i) ∧ I i w) → ∃ m, (∃ i, Holds a N (envm i ++ E0) (Dm i) ∧ I i w ∧ μ i = m) ∧ ∀ k, (∃ i, Holds a N (envm i ++ E0) (Dm i) ∧ I i w ∧ μ i = k) → m ≤ k :=
    fun a w ⟨i, h1, h2⟩ => least (p := fun m => ∃ i, Holds a N (envm i ++ E0) (Dm i) ∧ I i w ∧ μ i = m) ⟨i, h1, h2, rfl⟩
  let μ' : Act → World → Nat := fun a w => if h : ∃ i, Holds a N (envm i ++ E0) (Dm i) ∧ I i w then Classical.choose (hleast a w h) else 0
  refine wpIn_loop (fun a w => ∃ i, Holds a N (envm i ++ E0) (Dm i) ∧ I i w) μ' ⟨i0, ha.sub (Sub.append hE (keepO_sub E is [] trivial hk)), h0⟩ fun a w hi => ?_
  obtain ⟨⟨i, h1, h2, h3⟩, -⟩ := Classical.choose_spec (hleast a w hi)
  have hm : μ' a w = μ i := by simp only [μ', dif_pos hi]; exact h3.symm
  refine wpIn_mono (round i w h2 a h1) fun e a' w' hq => ?_
  cases e with
  | normal =>
    obtain ⟨j, hj1, hj2, hj3⟩ := hq
    refine ⟨⟨j, hj1, hj2⟩, ?_⟩
    have hex' : ∃ i, Holds a' N (envm i ++ E0) (Dm i) ∧ I i w' := ⟨j, hj1, hj2⟩
    have : μ' a' w' ≤ μ j := by simp only [μ', dif_pos hex']; exact (Classical.choose_spec (hleast a' w' hex')).2 _ ⟨j, hj1, hj2, rfl⟩
    rw [hm]
    omega
  | exit _ => exact hq
  | goto _ => exact hq
  | ret => exact hq
  | panic _ => exact hq
  | outgrown => exact hq
theorem againD {ι : Type} {Dm : ι → List Deferred} {env : ι → Env} {I : ι → World → Prop} {μ : ι → Nat} {i : ι} (j : ι) (hD : D = Dm j) (hE : Sub (env j) E) (hI : I j w) (hμ : μ j < μ i) :
    Z N E D (fun a' w' => ∃ j, Holds a' N (env j) (Dm j) ∧ I j w' ∧ μ j < μ i) w := fun a ha => ⟨j, hD ▸ ha.sub hE, hI, hμ⟩

theorem leaveMs {fn : Func} {R : Ending → World → Prop} {tmps : Array Value} {v : Value} : ∀ (ds : List Nat) (w : World), SX.St w0 M w (ds.map mkE ++ L) → (∀ w', SX.St w0 M w' L → (results fn tmps).run P w' = .ok v w' ∧ R (.returned v) w') →
    LeavesInM Fence.wide 0 P fn tmps R (ds.map mkD) .returning w
  | [], w, hs, h => ⟨v, (h w hs).1, (h w hs).2⟩
  | d :: ds, w, hs, h => by
    have hs1 : SX.St w0 M w (([] : List SX.Ent) ++ SX.Ent.obj d (.deferred (some [])) :: (ds.map mkE ++ L)) := hs
    refine ⟨by simp, .inl ⟨d, _, rfl, run_takeDeferred hs1.getMid, ?_⟩⟩
    exact leaveMs ds _ (hs1.putMid (.deferred none)).tl h
theorem outMs {fn : Func} {R : Ending → World → Prop} {vs : List Value} (ds : List Nat) (L : List SX.Ent) (hs : SX.St w0 M w (ds.map mkE ++ L)) (h : ∀ w', SX.St w0 M w' L → RV P w' E fn.results.toList vs) (hR : ∀ w', SX.St w0 M w' L → R (.returned (pack vs)) w') :
    Z N E (ds.map mkD) (bodyPostM Fence.wide 0 P fn R .ret) w := fun a ha => by
  show LeavesInM Fence.wide 0 P fn a.tmps R a.defers .returning w
  rw [ha.defers]
  exact leaveMs ds w hs fun w' hs' => ⟨results_run ha (h w' hs') rfl, hR w' hs'⟩
theorem outMsn {fn : Func} {R : Ending → World → Prop} {vs : List Value} (ds : List Nat) (L : List SX.Ent) (hs : SX.St w0 M w (ds.map mkE ++ L)) (h : ∀ w', SX.St w0 M w' L → RV P w' E fn.results.toList vs) (hR : ∀ w', SX.St w0 M w' L → R (.returned (pack vs)) w') :
    Z N E (ds.map mkD) (bodyPostM Fence.wide 0 P fn R .normal) w := outMs ds L hs h hR
/-- the new mark is put to the others -/
theorem marksEnd {ds : List Nat} {d : Nat} (hs : SX.St w0 M w ((L ++ ds.map mkE) ++ [SX.Ent.obj d (.deferred (some []))])) : SX.St w0 M w (L ++ (d :: ds).map mkE) := by
  refine hs.perm ?_
  rw [List.append_assoc]
  exact List.Perm.append_left _ (List.perm_append_comm (l₁ := [mkE d]))
theorem marksFront {ds : List Nat} (hs : SX.St w0 M w (L ++ ds.map mkE)) : SX.St w0 M w (ds.map mkE ++ L) := hs.rot
/-- a struct of a row of ours -/
theorem cellsRf {α : Type} {enc : α → List Value} {s : Nat} {xs : List α} {g kk cc T m i : Nat} {x : α} {cs : List Value} (hm : SX.Ent.row (.slice (some ⟨g, 0, none⟩) kk cc) T s m (xs.flatMap enc) ∈ L) (hs : ∀ x, (enc x).length = s) (hx : xs[i]? = some x) (hcs : enc x = cs) :
    ∀ w, SX.Keep w0 M L w → ∀ j u, cs[j]? = some u → w.cell? ⟨g, 0 + (i : Int).toNat * s + j, none⟩ = some u := fun w hk j u hu => cellR hm (flat_pos hs hx (by rw [hcs]; exact hu)) w hk

/-! ## drawn regions out of which a panic may come, in a function that puts calls off -/
def PQd (Q : Exit → Act → World → Prop) (d : Nat) : Prop := ∀ (c : List PanicEntry) (a : Act) (u : Value) (w : World), Q (.panic c) (a.put (some d) u) w → Q (.panic c) a w
theorem tXD [Wide F] {ops : Array Oper} {S : World → Prop} {Dn : Nat → Bool} {done : List Nat} (i : Nat) (T : List Nat) (hQ : PQd Q d) (hi : ops[i]? = some o) (hG : effG ops E o = some G) (hd : o.dst = some d) (hc : chk N d E G = true) (hm : (left ops done && SX.mayTakeT .any ops Dn (flags ops.size done) i T) = true)
    (hS : S w) (y : Yd P N D S E G o.op v) (h : Z N ((d, G, v) :: E) D (wpP F n P ops Q S Dn (i :: done)) w) : Z N E D (wpP F n P ops Q S Dn done) w := by
  classical
  simp only [Bool.and_eq_true] at hm
  intro a ha
  obtain ⟨h1, h2, h3⟩ := chk_spec hc
  have hw := wanted_of (ops := ops) (o := o) ha hG
  unfold wpP
  rw [fuel_eq (i := i) hm.1]
  have hmt := hm.2
  obtain ⟨q1, q2, q3, q4⟩ := SX.mayTakeT_spec hmt hi
  have hmt' := hmt
  simp only [SX.mayTakeT, Bool.and_eq_true] at hmt'
  obtain ⟨⟨⟨⟨⟨⟨⟨k1, k2⟩, k3⟩, -⟩, -⟩, -⟩, -⟩, k8⟩ := hmt'
  have hQ' : ∀ u : Value, ∀ c a w, Q (.panic c) (a.put o.dst u) w → Q (.panic c) a w := fun u c a w h => by rw [hd] at h; exact hQ c a u w h
  by_cases hg : gholds a G
  · exact SX.wpAnyS_firstT (fun j => T.contains j) k3 (fun f => Wide.fn f) hi (Region.noSelect_spec k1) (SX.noDefer_spec k2) q1 q2 (hQ' v) _ _ a w q3 q4 (by simpa using k8) (.inl ⟨hw.2 hg, fun w hS => y.2 a ha hg o rfl w hS⟩) hS (by
      rw [hd]
      exact h _ (ha.put h1 h2 h3 (by rw [if_pos hg])))
  · exact SX.wpAnyS_firstT (fun j => T.contains j) k3 (fun f => Wide.fn f) hi (Region.noSelect_spec k1) (SX.noDefer_spec k2) q1 q2 (hQ' undef) _ _ a w q3 q4 (by simpa using k8) (.inr ⟨(by
      cases hb : Region.wanted o (yielded ops a.tmps) with
      | false => rfl
      | true => exact absurd (hw.1 hb) hg), rfl⟩) hS (by
      rw [hd]
      exact h _ (ha.put h1 h2 h3 (by rw [if_neg hg])))
def slotR : ResultVar → Nat
  | .tmp t => t
  | .cell a _ => a
theorem mapM_same {α β : Type} : ∀ (l : List α) (f g : α → Sem β), (∀ x ∈ l, f x = g x) → l.mapM f = l.mapM g
  | [], _, _, _ => rfl
  | x :: l, f, g, h => by
    rw [List.mapM_cons, List.mapM_cons, h x (by simp), mapM_same l f g fun y hy => h y (by simp [hy])]
theorem results_put {fn : Func} {tmps : Array Value} {u : Value} (h : fn.results.toList.all (fun r => slotR r != d) = true) : results fn (tmps.setIfInBounds d u) = results fn tmps := by
  have h2 : ∀ (f : ResultVar → Sem Value), (fn.results.mapM f) = (do let l ← fn.results.toList.mapM f; Pure.pure l.toArray) := fun f => by
    rw [Array.mapM_eq_mapM_toList]
    simp [Functor.map]
  unfold results
  rw [h2, h2]
  congr 1
  congr 1
  refine mapM_same _ _ _ fun r hr => ?_
  have hne : slotR r ≠ d := by simpa using List.all_eq_true.1 h r hr
  have hg : ∀ t, t ≠ d → (tmps.setIfInBounds d u).getD t undef = tmps.getD t undef := fun t ht => by
    simp [Array.getD_eq_getD_getElem?, Array.getElem?_setIfInBounds, Ne.symm ht]
  cases r with
  | tmp t => simp only [slotR] at hne; simp only [hg t hne]
  | cell a t => simp only [slotR] at hne; simp only [hg a hne]
theorem leaves_same {fn : Func} {R : Ending → World → Prop} {t t' : Array Value} (ht : results fn t = results fn t') : ∀ (ds : List Deferred) (m : FrameMode) (w : World), LeavesIn F n P fn t R ds m w → LeavesIn F n P fn t' R ds m w
  | [], .returning, w => fun ⟨v, h1, h2⟩ => ⟨v, ht ▸ h1, h2⟩
  | [], .panicking c, w => id
  | [], .run, w => id
  | d :: ds, m, w => fun ⟨h1, h2, fv, cap, f, args, a1, a2, a3, hc⟩ => ⟨h1, h2, fv, cap, f, args, a1, a2, a3, CallsDIn.mono hc fun e u' w' h => by
    cases e with
    | returned v => exact leaves_same ht ds _ _ h
    | panicked c => exact leaves_same ht ds _ _ h
    | outgrown => exact h⟩
theorem leaves_put {fn : Func} {R : Ending → World → Prop} {tmps : Array Value} {u : Value} {ds : List Deferred} {m : FrameMode} (hr : fn.results.toList.all (fun r => slotR r != d) = true) (h : LeavesIn F n P fn (tmps.setIfInBounds d u) R ds m w) : LeavesIn F n P fn tmps R ds m w :=
  leaves_same (results_put hr) ds m w h
theorem tnSPG [Wide F] {ops : Array Oper} {S : World → Prop} {Dn : Nat → Bool} {done : List Nat} (s : Nat) (b : Bool) (i : Nat) (hi : ops[i]? = some o) (hm : left ops done = true) (hr : Region.ready .any ops (flags ops.size done) = [i]) (hG : effG ops E o = some G) (hs : look s E = some ([], .bool (!b))) (hmem : (s, b) ∈ G)
    (hd : o.dst = some d) (hc : chk N d E G = true) (hS : Dn i = true → S w) (h : Z N ((d, G, undef) :: E) D (wpP F n P ops Q S Dn (i :: done)) w) : Z N E D (wpP F n P ops Q S Dn done) w := by
  intro a ha
  unfold wpP
  rw [fuel_eq (i := i) hm]
  refine ⟨fun h0 => (by rw [hr] at h0; cases h0), fun k hk => ?_⟩
  rw [hr] at hk
  obtain rfl : k = i := by simpa using hk
  obtain ⟨h1, h2, h3⟩ := chk_spec hc
  have hnot := not_holds ha hs hmem
  have hw : Region.wanted o (yielded ops a.tmps) = false := by
    cases hb : Region.wanted o (yielded ops a.tmps) with
    | false => rfl
    | true => exact absurd ((wanted_of (ops := ops) (o := o) ha hG).1 hb) hnot
  unfold Go.wpOpIn
  simp only [hi, hw, Bool.false_eq_true, if_false]
  refine ⟨fun f _ => Wide.fn f, hS, ?_⟩
  rw [hd]
  exact h _ (ha.put h1 h2 h3 (by rw [if_neg hnot]))
end Z
end Go.Proofs.Ythdhobnkclddhaa

/- Iterators over iterators: a round of the one calls the other's round. -/
namespace Go.Proofs.Ythdhobnkclddhaa
open Go.RowKit
set_option linter.unusedVariables false
set_option linter.unusedSimpArgs false
namespace SX
variable {w0 w w' : World} {M : List Nat} {L1 L2 L3 : List Ent}
theorem St.swap (h : St w0 M w (L1 ++ (L2 ++ L3))) : St w0 M w (L2 ++ (L1 ++ L3)) := h.perm (by
  rw [← List.append_assoc, ← List.append_assoc]
  exact List.Perm.append_right _ List.perm_append_comm)
/-- a choice among the first things -/
theorem St.selT (h : St w0 M w (L1 ++ L2)) (is : List Nat) (hnd : is.Nodup) : St w0 M w (is.filterMap (L1[·]?) ++ L2) := by
  have h1 := h.lend.sel is hnd
  refine h.comp (N := idsOf L1) ⟨h1.os, h1.tape, h1.output, h1.size, h1.nodup, h1.new, h1.ok, h1.old⟩ (fun _ hb => hb)
end SX
namespace SX
section
variable {F : Fence} {n : Nat} {P : Program} {ops : Array Oper} {Q : Exit → Act → World → Prop} {md : Region.Mode} {S : World → Prop} {D : Nat → Bool}
/-- asz `wpAnyS_firstT`, of an operation that reads no memory, behind which nothing is leant on -/
theorem wpAnyS_firstP {i : Nat} {oi : Oper} {v : Value} (T : Nat → Bool) (hTi : T i = true) (hF : ∀ f, F.fn f) (hi : ops[i]? = some oi) (hsel : ∀ (j : Nat) (o : Oper) cs b, ops[j]? = some o → o.op ≠ .select cs b)
    (hdef : ∀ (j : Nat) (o : Oper) c, ops[j]? = some o → o.op ≠ .defer c)
    (hT : ∀ (j : Nat) (oj : Oper), ops[j]? = some oj → T j = true → j ≠ i → ∃ e ∈ oj.after, Region.binds md e = true ∧ T e.on = true)
    (hDi : D i = false)
    (hQ : ∀ c a w, Q (.panic c) (a.put oi.dst v) w → Q (.panic c) a w) :
    ∀ (fuel : Nat) (listed : Array Bool) (a : Act) (w : World),
      (∀ j, T j = true → listed[j]? = some false) →
      (∀ j oj, ops[j]? = some oj → T j = false → listed.getD j true = false → oi.apart ops oj = true) →
      i ∈ Region.ready md ops listed → YieldsS P ops (fun _ => True) oi v a →
      wpAnyS F n P md ops Q S D fuel (listed.setIfInBounds i true) (a.put oi.dst v) w → wpAnyS F n P md ops Q S D (fuel + 1) listed a w := by
  intro fuel
  induction fuel with
  | zero =>
    intro listed a w _ _ hr hy H
    refine ⟨fun h => (by rw [h] at hr; cases hr), fun j hj => ?_⟩
    by_cases hji : j = i
    · subst hji; exact hy.wpOpIn hF hi (fun c => hdef _ _ c hi) trivial ⟨fun h => (by rw [hDi] at h; cases h), H⟩
    · have := ready_mono hj hji
      rw [H.1] at this
      cases this
  | succ fuel ih =>
    intro listed a w hun hfree hr hy H
    refine ⟨fun h => (by rw [h] at hr; cases hr), fun j hj => ?_⟩
    by_cases hji : j = i
    · subst hji; exact hy.wpOpIn hF hi (fun c => hdef _ _ c hi) trivial ⟨fun h => (by rw [hDi] at h; cases h), H⟩
    · have h1 := H.2 j (ready_mono hj hji)
      obtain ⟨hjun, oj, hoj, hall⟩ := mem_ready.1 hj
      have hTj : T j = false := by
        cases hb : T j with
        | false => rfl
        | true =>
          obtain ⟨e, he, hbd, hTe⟩ := hT j oj hoj hb hji
          have h2 := hall e he hbd
          have h3 := hun _ hTe
          rw [Array.getD_eq_getD_getElem?, h3] at h2
          cases h2
      have h2 := wpOpIn_putS hF hoj (hfree j oj hoj hTj hjun) (fun cs b => hsel i oi cs b hi) (fun cs b => hsel j oj cs b hoj) (fun c => hdef j oj c hoj) hQ hy h1
      have hun' : ∀ k, T k = true → (listed.setIfInBounds j true)[k]? = some false := fun k hk => by
        rw [Array.getElem?_setIfInBounds_ne (fun e => by rw [e, hk] at hTj; cases hTj)]
        exact hun k hk
      have hfree' : ∀ k ok, ops[k]? = some ok → T k = false → (listed.setIfInBounds j true).getD k true = false → oi.apart ops ok = true := fun k ok hk hki hun => by
        refine hfree k ok hk hki ?_
        by_cases hjk : j = k
        · subst hjk; exact hjun
        · rw [getD_set_ne true hjk] at hun; exact hun
      refine wpOpIn_mono (fun a' w' h3 => ⟨h3.2.1, ih (listed.setIfInBounds j true) a' w' hun' hfree' (ready_mono hr (Ne.symm hji)) h3.1 ?_⟩) h2
      rw [Array.setIfInBounds_comm _ _ hji]
      exact h3.2.2
/-- the side conditions, asz one Bool -/
def mayTakeP (md : Region.Mode) (ops : Array Oper) (D : Nat → Bool) (listed : Array Bool) (i : Nat) (T : List Nat) : Bool :=
  Region.noSelect ops && noDefer ops && T.contains i && (T.all fun j => j == i || match ops[j]? with | some o => o.after.toList.any (fun e => Region.binds md e && T.contains e.on) | none => false) &&
    (T.all fun j => match listed[j]? with | some b => !b | none => false) && !D i &&
    ((List.range ops.size).all fun j => T.contains j || listed.getD j true || match ops[i]?, ops[j]? with | some oi, some oj => oi.apart ops oj | _, _ => false) && (Region.ready md ops listed).contains i
theorem mayTakeP_spec {listed : Array Bool} {i : Nat} {oi : Oper} {T : List Nat} (h : mayTakeP md ops D listed i T = true) (hi : ops[i]? = some oi) :
    (∀ (j : Nat) (oj : Oper), ops[j]? = some oj → (T.contains j) = true → j ≠ i → ∃ e ∈ oj.after, Region.binds md e = true ∧ T.contains e.on = true) ∧ D i = false ∧
    (∀ j, T.contains j = true → listed[j]? = some false) ∧ (∀ j oj, ops[j]? = some oj → T.contains j = false → listed.getD j true = false → oi.apart ops oj = true) := by
  simp only [mayTakeP, Bool.and_eq_true] at h
  obtain ⟨⟨⟨⟨⟨⟨⟨h1, h2⟩, h3⟩, h4⟩, h5⟩, h6⟩, h7⟩, h8⟩ := h
  refine ⟨fun j oj hj hTj hji => ?_, by simpa using h6, fun j hTj => ?_, fun j oj hj hTj hun => ?_⟩
  · have := List.all_eq_true.1 h4 j (by simpa using hTj)
    simp only [hj, Bool.or_eq_true, beq_iff_eq, hji, false_or] at this
    obtain ⟨e, he, h9⟩ := List.any_eq_true.1 this
    simp only [Bool.and_eq_true] at h9
    exact ⟨e, by simpa using he, h9⟩
  · have := List.all_eq_true.1 h5 j (by simpa using hTj)
    revert this
    cases listed[j]? with
    | none => simp
    | some b => cases b <;> simp
  · have := List.all_eq_true.1 h7 j (List.mem_range.2 (Array.getElem?_eq_some_iff.1 hj).1)
    rw [hTj, hun, hi, hj] at this
    simpa using this
end
end SX
namespace Z
/-- marks behind what an iterator leans on, and back -/
theorem toRange {w0 w : World} {M : List Nat} {C E0 : List SX.Ent} {ds : List Nat} (h : SX.St w0 M w (C ++ (E0 ++ ds.map mkE))) : SX.St w0 M w ((C ++ ds.map mkE) ++ E0) := h.perm (by
  rw [List.append_assoc]
  exact List.Perm.append_left _ List.perm_append_comm)
theorem fromRange {w0 w : World} {M : List Nat} {C E0 : List SX.Ent} {ds : List Nat} {d : Nat} (h : SX.St w0 M w ((C ++ ds.map mkE) ++ (SX.Ent.obj d (.deferred (some [])) :: E0))) : SX.St w0 M w (C ++ (E0 ++ (d :: ds).map mkE)) := h.perm (by
  rw [List.append_assoc]
  refine List.Perm.append_left _ ?_
  refine List.Perm.trans List.perm_middle ?_
  refine List.Perm.trans (List.Perm.cons _ List.perm_append_comm) ?_
  exact List.perm_middle.symm)
variable {N : Nat} {E E' : Env} {D : List Deferred} {a : Act} {G : Guards} {F : Fence} {n : Nat} {P : Program} {S : World → Prop} {ops : Array Oper} {o : Oper} {v : Value}
variable {K : Act → World → Prop} {Q : Exit → Act → World → Prop} {w w' w0 : World} {rest : List Oper} {M : List Nat} {L L1 L2 : List SX.Ent} {x : Operand} {d : Nat}
/-- a drawn region where S is leant on -/
theorem drawS {id : Nat} (S : World → Prop) (Dn : Nat → Bool) {Q : Exit → Act → World → Prop} (hm : P.follows .mixedOrders = true) (hs : SX.St w0 M w L) (h : ∀ w', SX.St w0 M w' L → Z N E D (wpD F n P ops Q S Dn []) w') : Z N E D ((Code.region id ops true).wpIn F n P Q) w :=
  draw Dn hm (h _ hs.drew)
theorem yieldIn {l l' : Nat} {args : Array Value} {R : Ending → World → Prop} (h : YieldAt Fence.wide 0 P l args w R) : YieldAt (Fence.wide.inRound l') 0 P l args w R := h
/-- a call of yield in a round -/
theorem ZO.yieldIn {l l' : Nat} {asz : Array Operand} {ts : Array TypeId} {vs : List Value} {args : Array Value} {Rp : Ending → World → Prop}
    (ho : o.op = .call { callee := .value x, args := asz, argTypes := ts }) (hd : o.dst = some d) (hc : chk N d E [] = true) (hx : ev E [] x = some (.func (.yield l) #[] #[])) (hv : evs E [] asz.toList = some vs) (he : vs.toArray = args)
    (hY : YieldAt Fence.wide 0 P l args w Rp) (hK : ∀ e w', Rp e w' → ∃ v, e = .returned v ∧ Z N ((d, [], v) :: E) D K w') : ZO (Fence.wide.inRound l') 0 P N E D o K Q w := by
  intro a ha
  obtain ⟨c1, c2, c3⟩ := chk_spec hc
  have hx' := ev0 ha hx
  have hargs : (asz.toList.map a.eval).toArray = args := by rw [evs_eval ha gnil hv, he]
  refine ⟨fun f _ => trivial, ?_⟩
  rw [Oper.semAt_plain (Fence.wide.inRound l') _ o (by intro c hc; rw [ho] at hc; cases hc)]
  obtain ⟨fn, tmps, assign, body, hy, hR⟩ := hY
  have hrun : (execOp a.eval o).run P w = .ok (.round l fn tmps assign body) w := by
    simp only [execOp, ho, resolve, Sem.run_bind, hx', Deferred.ofValue, Sem.run_pure, Result.andThen_ok, invoke]
    rw [← hy, ← hargs]
    congr 2
    apply Array.ext'
    simp
  rw [hrun]
  have hR2 : RoundIn (Fence.wide.inRound l') 0 P l fn tmps assign body w Rp := hR
  refine ⟨fun h => (by cases h), hR2.mono fun e w' hr => ?_⟩
  obtain ⟨v, rfl, hk⟩ := hK e w' hr
  show K (a.put o.dst v) w'
  rw [hd]
  exact hk _ (ha.put c1 c2 c3 (by rw [if_pos gnil]))
/-- number i, which reads no memory, is taken first -/
theorem tY [Wide F] {done : List Nat} {Dn : Nat → Bool} (i : Nat) (T : List Nat) (hi : ops[i]? = some o) (hG : effG ops E o = some G) (hd : o.dst = some d) (hc : chk N d E G = true) (hm : (left ops done && SX.mayTakeP .any ops Dn (flags ops.size done) i T) = true)
    (y : Yd P N D (fun _ => True) E G o.op v) (h : Z N ((d, G, v) :: E) D (wpD F n P ops Q S Dn (i :: done)) w) : Z N E D (wpD F n P ops Q S Dn done) w := by
  classical
  simp only [Bool.and_eq_true] at hm
  intro a ha
  obtain ⟨h1, h2, h3⟩ := chk_spec hc
  have hw := wanted_of (ops := ops) (o := o) ha hG
  unfold wpD
  rw [fuel_eq (i := i) hm.1]
  have hmt := hm.2
  obtain ⟨q1, q2, q3, q4⟩ := SX.mayTakeP_spec hmt hi
  have hmt' := hmt
  simp only [SX.mayTakeP, Bool.and_eq_true] at hmt'
  obtain ⟨⟨⟨⟨⟨⟨⟨k1, k2⟩, k3⟩, -⟩, -⟩, -⟩, -⟩, k8⟩ := hmt'
  have hQ : ∀ u : Value, ∀ c a w, SX.NP Q (.panic c) (a.put o.dst u) w → SX.NP Q (.panic c) a w := fun u c a w h => h.elim
  by_cases hg : gholds a G
  · exact SX.wpAnyS_firstP (fun j => T.contains j) k3 (fun f => Wide.fn f) hi (Region.noSelect_spec k1) (SX.noDefer_spec k2) q1 q2 (hQ v) _ _ a w q3 q4 (by simpa using k8) (.inl ⟨hw.2 hg, fun w hS => y.2 a ha hg o rfl w hS⟩) (by
      rw [hd]
      exact h _ (ha.put h1 h2 h3 (by rw [if_pos hg])))
  · exact SX.wpAnyS_firstP (fun j => T.contains j) k3 (fun f => Wide.fn f) hi (Region.noSelect_spec k1) (SX.noDefer_spec k2) q1 q2 (hQ undef) _ _ a w q3 q4 (by simpa using k8) (.inr ⟨(by
      cases hb : Region.wanted o (yielded ops a.tmps) with
      | false => rfl
      | true => exact absurd (hw.1 hb) hg), rfl⟩) (by
      rw [hd]
      exact h _ (ha.put h1 h2 h3 (by rw [if_neg hg])))
end Z
end Go.Proofs.Ythdhobnkclddhaa

/- Blocks and rows of ours, asz readers see them. -/
namespace Go.Proofs.Ythdhobnkclddhaa
open Go.RowKit
set_option linter.unusedVariables false
set_option linter.unusedSimpArgs false

def Cel (w : World) (g : Nat) (cs : List Value) : Prop := g < w.heap.size ∧ ∀ i u, cs[i]? = some u → w.cell? ⟨g, i, none⟩ = some u
theorem Cel.st {w W : World} {L : List SX.Ent} {g : Nat} {cs : List Value} (h : Cel w g cs) (hW : SX.St w [] W L) : Cel W g cs :=
  ⟨Nat.lt_of_lt_of_le h.1 hW.size, fun i u hu => (hW.oldcell (p := ⟨g, i, none⟩) h.1 (by simp)).trans (h.2 i u hu)⟩
theorem SX.St.celOf {w0 w : World} {M : List Nat} {L : List SX.Ent} {g T : Nat} {cs : List Value} (hs : SX.St w0 M w L) (hm : SX.Ent.blk g T cs.toArray ∈ L) : Cel w g cs := by
  have hr : w.heap[g]? = some (.cells cs.toArray T (0, 0)) := hs.ok _ hm
  exact ⟨SX.lt_of_some hr, fun i u hu => (SX.cell_blk hr i).trans (by simpa using hu)⟩
theorem _root_.Go.Proofs.Ythdhobnkclddhaa.SX.St.blkSl {w0 w : World} {M : List Nat} {L : List SX.Ent} {g T : Nat} {cs : Array Value} (hs : SX.St w0 M w L) (hm : SX.Ent.blk g T cs ∈ L) : Sl w (some ⟨g, 0, none⟩) cs.toList := fun hp => by
  have hr : w.heap[g]? = some (.cells cs T (0, 0)) := hs.ok _ hm
  refine ⟨g, 0, rfl, SX.lt_of_some hr, fun i u hu => ?_⟩
  rw [Nat.zero_add]
  exact (SX.cell_blk hr i).trans (by simpa using hu)
theorem _root_.Go.Proofs.Ythdhobnkclddhaa.SX.St.slm {w0 w : World} {M : List Nat} {L : List SX.Ent} {T k size c m : Nat} {A : Option Addr} {xs : List Value} (hs : SX.St w0 M w L) (hm : SX.Ent.row (.slice A k c) T size m xs ∈ L) : Sl w A xs := by
  obtain ⟨j, hj⟩ := List.getElem?_of_mem hm
  exact SX.row_slB hs hj
theorem rowEq {w0 w : World} {M : List Nat} {L : List SX.Ent} {v : Value} {T s k k' : Nat} {xs xs' : List Value} (hs : SX.St w0 M w (SX.Ent.row v T s k xs :: L)) (h1 : k = k') (h2 : xs = xs') : SX.St w0 M w (SX.Ent.row v T s k' xs' :: L) := by
  subst h1 h2
  exact hs
theorem blkEq {w0 w : World} {M : List Nat} {L : List SX.Ent} {g T : Nat} {cs cs' : Array Value} (hs : SX.St w0 M w (SX.Ent.blk g T cs :: L)) (h : cs = cs') : SX.St w0 M w (SX.Ent.blk g T cs' :: L) := by
  subst h
  exact hs
theorem Sl.zero {w : World} {A : Option Addr} {xs : List Value} (h : Sl w A xs) (hA : A = none) : xs.length = 0 := by
  subst hA
  rcases Nat.eq_zero_or_pos xs.length with h0 | h0
  · exact h0
  · obtain ⟨b, off, e, -⟩ := h h0
    cases e
theorem Sl.pre {w : World} {A : Option Addr} {xs ys : List Value} (h : Sl w A xs) (hp : ys <+: xs) : Sl w A ys := fun h0 => by
  obtain ⟨b, off, e, hb, hc⟩ := h (Nat.lt_of_lt_of_le h0 hp.length_le)
  refine ⟨b, off, e, hb, fun j u hu => hc j u ?_⟩
  obtain ⟨t, rfl⟩ := hp
  rw [List.getElem?_append_left (List.getElem?_eq_some_iff.1 hu).1]
  exact hu
theorem by8 {l : List Int} (h : l.all (fun x => decide (0 ≤ x ∧ x < 256)) = true) : ∀ x ∈ l, 0 ≤ x ∧ x < 256 := fun x hx => by simpa using List.all_eq_true.1 h x hx
theorem sl_nil {w : World} {A : Option Addr} : Sl w A [] := fun h => absurd h (by decide)
theorem sx_nil {w : World} {M : List Nat} {A : Option Addr} : Sx w M A [] := fun h => absurd h (by decide)
theorem wm64 {n : Int} (h : 0 ≤ n ∧ n < 18446744073709551616) : IntKind.u64.wrap n = n := by
  simp only [IntKind.wrap, IntKind.signed, IntKind.bits]
  simp
  omega
/-- a struct that is read whole -/
theorem Cel.agg {w0 : World} {M : List Nat} {L : List SX.Ent} {g : Nat} {cs : List Value} (h : Cel w0 g cs) (hM : g ∉ M) : ∀ w, SX.Keep w0 M L w → ∀ (j : Nat) (u : Value), cs[j]? = some u → w.cell? ⟨g, 0 + j, none⟩ = some u := fun w hK j u hu => by
  rw [Nat.zero_add]
  exact Z.cellO h.1 hM (h.2 j u hu) w hK
theorem _root_.Go.Proofs.Ythdhobnkclddhaa.SX.St.keepBlk {w0 w : World} {M : List Nat} {L : List SX.Ent} {g T : Nat} {cs : Array Value} (hs : SX.St w0 M w L) (hm : SX.Ent.blk g T cs ∈ L) (i : Nat) : w.cell? ⟨g, i, none⟩ = cs[i]? := SX.cell_blk (hs.ok _ hm) i
end Go.Proofs.Ythdhobnkclddhaa

/- Arguments of any shape, asz they read: integers, slices, structs. -/
namespace Go.Proofs.Ythdhobnkclddhaa
open Go.ChangeShapes Go.WideShapes Go.ChangeAt Go.RowKit
set_option linter.unusedVariables false
set_option linter.unusedSimpArgs false

/-- the cells cs read asz a value of type t -/
def Rd (P : Program) (W : World) (t : TypeId) (cs : List Value) : Prop :=
  ∃ (H : Type) (enc : TypeId × Value → H) (fuel : Nat) (x : DataW H × List MemPlace), DataW.trod enc P W 0 (fun _ => true) true fuel t cs = some x

variable {P : Program} {W : World} {t e : TypeId} {cs : List Value} {k : IntKind}

theorem Rd.of {H : Type} {enc : TypeId × Value → H} {v : Value} {d : DataW H} {p : List MemPlace} (h : DataW.Trod enc P W 0 (fun _ => true) true t v d p) : Rd P W t v.cells.toList := by
  obtain ⟨fuel, h⟩ := h
  exact ⟨H, enc, fuel, _, h⟩

theorem Rd.int (ht : P.underlying t = some (.int k)) (h : Rd P W t cs) : ∃ n, cs = [.int k n] ∧ (Lit.int k n).wf = true := by
  obtain ⟨H, enc, fuel, x, h⟩ := h
  cases fuel with
  | zero => simp [DataW.trod] at h
  | succ n =>
    unfold DataW.trod at h
    rw [ht] at h
    split at h <;> simp_all
theorem Rd.bool (ht : P.underlying t = some .bool) (h : Rd P W t cs) : ∃ b, cs = [.bool b] := by
  obtain ⟨H, enc, fuel, x, h⟩ := h
  cases fuel with
  | zero => simp [DataW.trod] at h
  | succ n =>
    unfold DataW.trod at h
    rw [ht] at h
    split at h <;> simp_all
theorem Rd.string (ht : P.underlying t = some .string) (h : Rd P W t cs) : ∃ s, cs = [.string s] ∧ s.size ≤ maxLen := by
  obtain ⟨H, enc, fuel, x, h⟩ := h
  cases fuel with
  | zero => simp [DataW.trod] at h
  | succ n =>
    unfold DataW.trod at h
    rw [ht] at h
    split at h <;> simp_all
theorem Rd.field {fs : Array Field} (ht : P.underlying t = some (.struct fs)) (h : Rd P W t cs) :
    cs.length = P.cellsOf t ∧ ∀ (i : Nat) (f : Field), fs[i]? = some f → Rd P W f.type ((cs.drop f.offset).take (P.cellsOf f.type)) := by
  obtain ⟨H, enc, fuel, x, h⟩ := h
  obtain ⟨xs, n, _, _, h1, h2, h3⟩ := DataW.trod_struct ht h
  refine ⟨h1, fun i f hf => ?_⟩
  have h4 := h3 i f hf
  have hi : i < xs.length := by
    rw [h2]
    exact (Array.getElem?_eq_some_iff.1 hf).1
  rw [List.getElem?_eq_getElem hi] at h4
  exact ⟨H, enc, n, _, h4⟩
theorem Rd.array {n : Nat} (ht : P.underlying t = some (.array n e)) (h : Rd P W t cs) :
    cs.length = P.cellsOf t ∧ ∀ i, i < n → Rd P W e ((cs.drop (i * P.cellsOf e)).take (P.cellsOf e)) := by
  obtain ⟨H, enc, fuel, x, h⟩ := h
  cases fuel with
  | zero => simp [DataW.trod] at h
  | succ m =>
    unfold DataW.trod at h
    rw [ht] at h
    simp only at h
    by_cases hl : cs.length = P.cellsOf t
    · rw [if_pos hl] at h
      refine ⟨hl, fun i hi => ?_⟩
      obtain ⟨xs, hx, -⟩ := Option.map_eq_some_iff.1 h
      have : ∀ (l : List Nat) (ys : List (DataW H × List MemPlace)), l.mapM (fun i => DataW.trod enc P W 0 (fun _ => true) true m e ((cs.drop (i * P.cellsOf e)).take (P.cellsOf e))) = some ys → ∀ i ∈ l, ∃ y, DataW.trod enc P W 0 (fun _ => true) true m e ((cs.drop (i * P.cellsOf e)).take (P.cellsOf e)) = some y := by
        intro l
        induction l with
        | nil => intro ys _ i hi; cases hi
        | cons j l ih =>
          intro ys hy i hi
          simp only [List.mapM_cons, Option.bind_eq_bind, Option.bind_eq_some_iff] at hy
          obtain ⟨y, hy1, zs, hz, _⟩ := hy
          rcases List.mem_cons.1 hi with rfl | hi
          · exact ⟨y, hy1⟩
          · exact ih zs hz i hi
      obtain ⟨y, hy⟩ := this _ _ hx i (List.mem_range.2 hi)
      exact ⟨H, enc, m, y, hy⟩
    · rw [if_neg hl] at h; cases h
theorem cells_len {a : Addr} {n : Nat} {r : List Value} (h : W.cells? 0 a n = some r) : r.length = n ∧ ∀ (j : Nat) (u : Value), r[j]? = some u → W.cell? (a.add j) = some u := by
  unfold World.cells? at h
  rw [if_pos (Nat.zero_le _)] at h
  have key : ∀ (l : List Nat) (r : List Value), l.mapM (fun i => W.cell? (a.add i)) = some r → r.length = l.length ∧ ∀ (j : Nat) (u : Value), r[j]? = some u → ∃ i, l[j]? = some i ∧ W.cell? (a.add i) = some u := by
    intro l
    induction l with
    | nil => intro r hr; simp at hr; subst hr; simp
    | cons i l ih =>
      intro r hr
      simp only [List.mapM_cons, Option.bind_eq_bind, Option.bind_eq_some_iff] at hr
      obtain ⟨y, hy, ys, hys, hr⟩ := hr
      obtain rfl : y :: ys = r := by simpa using hr
      obtain ⟨h1, h2⟩ := ih ys hys
      refine ⟨by simp [h1], fun j u hu => ?_⟩
      cases j with
      | zero =>
        obtain rfl : y = u := by simpa using hu
        exact ⟨i, rfl, hy⟩
      | succ j =>
        obtain ⟨i', h3, h4⟩ := h2 j u (by simpa using hu)
        exact ⟨i', by simpa using h3, h4⟩
  obtain ⟨h1, h2⟩ := key _ r h
  refine ⟨by simpa using h1, fun j u hu => ?_⟩
  obtain ⟨i, h3, h4⟩ := h2 j u hu
  have hj : j < n := by
    have := (List.getElem?_eq_some_iff.1 hu).1
    simp at h1
    omega
  rw [List.getElem?_range hj] at h3
  obtain rfl : j = i := by simpa using h3
  exact h4
theorem Rd.slice (ht : P.underlying t = some (.slice e)) (h : Rd P W t cs) :
    cs = [.slice none 0 0] ∨ ∃ (a : Addr) (len cap : Nat) (rows : List (List Value)), cs = [.slice (some a) len cap] ∧ len ≤ cap ∧ cap ≤ maxLen ∧ rows.length = len ∧
      ∀ i r, rows[i]? = some r → W.cells? 0 (a.add (i * P.cellsOf e)) (P.cellsOf e) = some r ∧ Rd P W e r := by
  obtain ⟨H, enc, fuel, x, h⟩ := h
  rcases DataW.trod_slice ht h with ⟨h1, _⟩ | ⟨a, len, cap, elems, rest, n, _, h1, _, _, h2, h3, h4, h5, _⟩
  · exact .inl h1
  · refine .inr ⟨a, len, cap, (List.range len).map fun i => (W.cells? 0 (a.add (i * P.cellsOf e)) (P.cellsOf e)).getD [], h1, h2, h3, by simp, fun i r hr => ?_⟩
    rw [List.getElem?_map] at hr
    obtain ⟨i', hi', hr⟩ := Option.map_eq_some_iff.1 hr
    have hi : i < len := by
      have := (List.getElem?_eq_some_iff.1 hi').1
      simpa using this
    rw [List.getElem?_range hi] at hi'
    obtain rfl : i = i' := by simpa using hi'
    have h6 := h5 i hi
    rw [List.getElem?_eq_getElem (by omega)] at h6
    obtain ⟨r', h7, h8⟩ := Option.bind_eq_some_iff.1 h6
    rw [h7] at hr
    obtain rfl : r' = r := by simpa using hr
    exact ⟨h7, H, enc, n, _, h8⟩

theorem addr_none {a : Addr} {j : Nat} {u : Value} (hj : a.spot.isSome = true → 0 < j) (h : W.cell? (a.add j) = some u) : True := trivial

/-- a slice whose elements decode -/
theorem Rd.rows {α : Type} {A : Option Addr} {n c : Nat} (enc : α → List Value) (Good : α → Prop) (ht : P.underlying t = some (.slice e)) (hpos : 0 < P.cellsOf e)
    (dec : ∀ r, Rd P W e r → ∃ x, r = enc x ∧ Good x) (hsz : ∀ x, (enc x).length = P.cellsOf e) (h : Rd P W t [.slice A n c]) :
    ∃ xs : List α, xs.length = n ∧ n ≤ c ∧ c ≤ maxLen ∧ (∀ x ∈ xs, Good x) ∧ Sl W A (xs.flatMap enc) := by
  rcases Rd.slice ht h with h1 | ⟨a, len, cap, rows, h1, h2, h3, h4, h5⟩
  · simp only [List.cons.injEq, Value.slice.injEq, and_true] at h1
    obtain ⟨rfl, rfl, rfl⟩ := h1
    exact ⟨[], rfl, Nat.le_refl _, Nat.zero_le _, by simp, fun hp => by simp at hp⟩
  · simp only [List.cons.injEq, Value.slice.injEq, and_true] at h1
    obtain ⟨rfl, rfl, rfl⟩ := h1
    have key : ∀ (l : List (List Value)), (∀ r ∈ l, Rd P W e r) → ∃ xs : List α, l = xs.map enc ∧ ∀ x ∈ xs, Good x := by
      intro l
      induction l with
      | nil => intro _; exact ⟨[], rfl, by simp⟩
      | cons r l ih =>
        intro hl
        obtain ⟨x, rfl, hx⟩ := dec r (hl r (by simp))
        obtain ⟨xs, rfl, hxs⟩ := ih (fun r hr => hl r (by simp [hr]))
        exact ⟨x :: xs, rfl, fun y hy => by
          rcases List.mem_cons.1 hy with rfl | hy
          · exact hx
          · exact hxs y hy⟩
    obtain ⟨xs, hxs, hG⟩ := key rows (fun r hr => by
      obtain ⟨i, hi⟩ := List.getElem?_of_mem hr
      exact (h5 i r hi).2)
    have hlen : xs.length = n := by rw [← h4, hxs, List.length_map]
    refine ⟨xs, hlen, h2, h3, hG, fun hp => ?_⟩
    -- the cells, one by one
    have hcell : ∀ (i : Nat) (x : α), xs[i]? = some x → ∀ (j : Nat) (u : Value), (enc x)[j]? = some u → W.cell? ((a.add (i * P.cellsOf e)).add j) = some u := by
      intro i x hx j u hu
      have hr : rows[i]? = some (enc x) := by
        rw [hxs, List.getElem?_map, hx]
        rfl
      exact (cells_len (h5 i _ hr).1).2 j u hu
    have hn0 : 0 < n := by
      rw [← hlen]
      cases xs with
      | nil => simp at hp
      | cons x xs => simp
    -- the address has no spot
    have hspot : a.spot = none := by
      have hx0 : xs[0]? = some (xs[0]'(by omega)) := List.getElem?_eq_getElem (by omega)
      have hl0 := hsz (xs[0]'(by omega))
      have := hcell 0 _ hx0 0 _ (List.getElem?_eq_getElem (by omega))
      have e0 : (a.add (0 * P.cellsOf e)).add 0 = a := by simp [Addr.add]
      rw [e0] at this
      unfold World.cell? at this
      split at this
      · cases hs : a.spot with
        | none => rfl
        | some s => simp [hs] at this
      · cases this
    obtain ⟨b, off, sp⟩ := a
    simp only at hspot
    subst hspot
    have hadd : ∀ o m, (⟨b, o, none⟩ : Addr).add m = ⟨b, o + m, none⟩ := fun o m => by
      unfold Addr.add
      split
      · rename_i h; rw [h]; rfl
      · rfl
    have hall : ∀ (ys : List α) (i : Nat), (∀ j, j < ys.length → xs[i + j]? = ys[j]?) → i + ys.length ≤ n → ∀ m u, (ys.flatMap enc)[m]? = some u → W.cell? ⟨b, off + (i * P.cellsOf e + m), none⟩ = some u := by
      intro ys
      induction ys with
      | nil => intro i _ _ m u hu; simp at hu
      | cons y ys ih =>
        intro i hy hle m u hu
        simp only [List.length_cons] at hle
        rw [List.flatMap_cons] at hu
        have hyl := hsz y
        by_cases hm : m < P.cellsOf e
        · rw [List.getElem?_append_left (by omega)] at hu
          have h0 := hy 0 (by simp)
          simp at h0
          have := hcell i y h0 m u hu
          rw [hadd, hadd] at this
          rw [← Nat.add_assoc]
          exact this
        · rw [List.getElem?_append_right (by omega), hyl] at hu
          have := ih (i + 1) (fun j hj => by
            have := hy (j + 1) (by simp; omega)
            rw [show i + 1 + j = i + (j + 1) from by omega, this]
            simp) (by omega) (m - P.cellsOf e) u hu
          rw [Nat.add_mul, Nat.one_mul] at this
          rw [show i * P.cellsOf e + m = i * P.cellsOf e + P.cellsOf e + (m - P.cellsOf e) from by omega]
          exact this
    have hfin := hall xs 0 (fun j _ => by simp) (by omega)
    simp only [Nat.zero_mul, Nat.zero_add] at hfin
    refine ⟨b, off, rfl, ?_, fun j u hu => hfin j u hu⟩
    have hpp : 0 < (xs.flatMap enc).length := hp
    have := hfin 0 _ (List.getElem?_eq_getElem hpp)
    exact World.block_lt_of_cell? _ _ this
theorem list1 {α : Type} {l : List α} (h : l.length = 1) : ∃ a, l = [a] := by
  match l, h with
  | [a], _ => exact ⟨a, rfl⟩
theorem list2 {α : Type} {l : List α} (h : l.length = 2) : ∃ a b, l = [a, b] := by
  match l, h with
  | [a, b], _ => exact ⟨a, b, rfl⟩
theorem list3 {α : Type} {l : List α} (h : l.length = 3) : ∃ a b c, l = [a, b, c] := by
  match l, h with
  | [a, b, c], _ => exact ⟨a, b, c, rfl⟩
theorem list4 {α : Type} {l : List α} (h : l.length = 4) : ∃ a b c d, l = [a, b, c, d] := by
  match l, h with
  | [a, b, c, d], _ => exact ⟨a, b, c, d, rfl⟩
theorem list5 {α : Type} {l : List α} (h : l.length = 5) : ∃ a b c d e, l = [a, b, c, d, e] := by
  match l, h with
  | [a, b, c, d, e], _ => exact ⟨a, b, c, d, e, rfl⟩
theorem list6 {α : Type} {l : List α} (h : l.length = 6) : ∃ a b c d e f, l = [a, b, c, d, e, f] := by
  match l, h with
  | [a, b, c, d, e, f], _ => exact ⟨a, b, c, d, e, f, rfl⟩
theorem wf_bd {n : Int} (h : (Lit.int k n).wf = true) : k.min ≤ n ∧ n ≤ k.max := by
  simpa [Lit.wf] using h
theorem wf_u8 {n : Int} (h : (Lit.int .u8 n).wf = true) : 0 ≤ n ∧ n ≤ 255 := wf_bd h
theorem wf_i64 {n : Int} (h : (Lit.int .i64 n).wf = true) : -9223372036854775808 ≤ n ∧ n ≤ 9223372036854775807 := wf_bd h
theorem wf_u64 {n : Int} (h : (Lit.int .u64 n).wf = true) : 0 ≤ n ∧ n ≤ 18446744073709551615 := wf_bd h
end Go.Proofs.Ythdhobnkclddhaa
