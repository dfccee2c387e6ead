/- Part 4 of the proofs that lead to the statement. -/
import Derived.Test.YtcieclifabbkjaaY3
/- Iterators used inside of loops: the marks are carried along. -/
namespace Go.Proofs.Ytcieclifabbkjaa
open Go.RowKit
set_option linter.unusedVariables false
set_option linter.unusedSimpArgs false
namespace Z
variable {N : Nat} {E E' : Env} {D : List Deferred} {a : Act} {G : Guards} {F : Fence} {n : Nat} {P : Program} {o : Oper} {v : Value}
variable {K : Act → World → Prop} {Q : Exit → Act → World → Prop} {w w' w0 : World} {x y : Code} {d k : Nat} {f : FuncId} {M : List Nat} {L L1 L2 : List SX.Ent}
/-- a mark among the calls put off, and its object -/
def mkD (d : Nat) : Deferred := { target := .collected d, args := #[] }
def mkE (d : Nat) : SX.Ent := SX.Ent.obj d (.deferred (some []))
theorem loopD {ι : Type} (Dm : ι → List Deferred) (is : List Nat) {E0 : Env} (hk : keepO E is [] = some E0) (envm : ι → Env) (I : ι → World → Prop) (μ : ι → Nat) (i0 : ι) (hD : Dm i0 = D) (hE : Sub (envm i0) E) (h0 : I i0 w)
    (round : ∀ i w, I i w → Z N (envm i ++ E0) (Dm i) (x.wpIn F n P (Exit.then (fun a' w' => ∃ j, Holds a' N (envm j ++ E0) (Dm j) ∧ I j w' ∧ μ j < μ i) Q)) w) : Z N E D ((Code.loop x).wpIn F n P Q) w := by
  classical
  intro a ha
  subst hD
  have hleast : ∀ a w, (∃ i, Holds a N (envm i ++ E0) (Dm i) ∧ I i w) → ∃ m, (∃ i, Holds a N (envm i ++ E0) (Dm i) ∧ I i w ∧ μ i = m) ∧ ∀ k, (∃ i, Holds a N (envm i ++ E0) (Dm i) ∧ I i w ∧ μ i = k) → m ≤ k :=
    fun a w ⟨i, h1, h2⟩ => least (p := fun m => ∃ i, Holds a N (envm i ++ E0) (Dm i) ∧ I i w ∧ μ i = m) ⟨i, h1, h2, rfl⟩
  let μ' : Act → World → Nat := fun a w => if h : ∃ i, Holds a N (envm i ++ E0) (Dm i) ∧ I i w then Classical.choose (hleast a w h) else 0
  refine wpIn_loop (fun a w => ∃ i, Holds a N (envm i ++ E0) (Dm i) ∧ I i w) μ' ⟨i0, ha.sub (Sub.append hE (keepO_sub E is [] trivial hk)), h0⟩ fun a w hi => ?_
  obtain ⟨⟨i, h1, h2, h3⟩, -⟩ := Classical.choose_spec (hleast a w hi)
  have hm : μ' a w = μ i := by simp only [μ', dif_pos hi]; exact h3.symm
  refine wpIn_mono (round i w h2 a h1) fun e a' w' hq => ?_
  cases e with
  | normal =>
    obtain ⟨j, hj1, hj2, hj3⟩ := hq
    refine ⟨⟨j, hj1, hj2⟩, ?_⟩
    have hex' : ∃ i, Holds a' N (envm i ++ E0) (Dm i) ∧ I i w' := ⟨j, hj1, hj2⟩
    have : μ' a' w' ≤ μ j := by simp only [μ', dif_pos hex']; exact (Classical.choose_spec (hleast a' w' hex')).2 _ ⟨j, hj1, hj2, rfl⟩
    rw [hm]
    omega
  | exit _ => exact hq
  | goto _ => exact hq
  | ret => exact hq
  | panic _ => exact hq
  | outgrown => exact hq
theorem againD {ι : Type} {Dm : ι → List Deferred} {env : ι → Env} {I : ι → World → Prop} {μ : ι → Nat} {i : ι} (j : ι) (hD : D = Dm j) (hE : Sub (env j) E) (hI : I j w) (hμ : μ j < μ i) :
    Z N E D (fun a' w' => ∃ j, Holds a' N (env j) (Dm j) ∧ I j w' ∧ μ j < μ i) w := fun a ha => ⟨j, hD ▸ ha.sub hE, hI, hμ⟩

theorem leaveMs {fn : Func} {R : Ending → World → Prop} {tmps : Array Value} {v : Value} : ∀ (ds : List Nat) (w : World), SX.St w0 M w (ds.map mkE ++ L) → (∀ w', SX.St w0 M w' L → (results fn tmps).run P w' = .ok v w' ∧ R (.returned v) w') →
    LeavesInM Fence.wide 0 P fn tmps R (ds.map mkD) .returning w
  | [], w, hs, h => ⟨v, (h w hs).1, (h w hs).2⟩
  | d :: ds, w, hs, h => by
    have hs1 : SX.St w0 M w (([] : List SX.Ent) ++ SX.Ent.obj d (.deferred (some [])) :: (ds.map mkE ++ L)) := hs
    refine ⟨by simp, .inl ⟨d, _, rfl, run_takeDeferred hs1.getMid, ?_⟩⟩
    exact leaveMs ds _ (hs1.putMid (.deferred none)).tl h
theorem outMs {fn : Func} {R : Ending → World → Prop} {vs : List Value} (ds : List Nat) (L : List SX.Ent) (hs : SX.St w0 M w (ds.map mkE ++ L)) (h : ∀ w', SX.St w0 M w' L → RV P w' E fn.results.toList vs) (hR : ∀ w', SX.St w0 M w' L → R (.returned (pack vs)) w') :
    Z N E (ds.map mkD) (bodyPostM Fence.wide 0 P fn R .ret) w := fun a ha => by
  show LeavesInM Fence.wide 0 P fn a.tmps R a.defers .returning w
  rw [ha.defers]
  exact leaveMs ds w hs fun w' hs' => ⟨results_run ha (h w' hs') rfl, hR w' hs'⟩
theorem outMsn {fn : Func} {R : Ending → World → Prop} {vs : List Value} (ds : List Nat) (L : List SX.Ent) (hs : SX.St w0 M w (ds.map mkE ++ L)) (h : ∀ w', SX.St w0 M w' L → RV P w' E fn.results.toList vs) (hR : ∀ w', SX.St w0 M w' L → R (.returned (pack vs)) w') :
    Z N E (ds.map mkD) (bodyPostM Fence.wide 0 P fn R .normal) w := outMs ds L hs h hR
/-- the new mark is put to the others -/
theorem marksEnd {ds : List Nat} {d : Nat} (hs : SX.St w0 M w ((L ++ ds.map mkE) ++ [SX.Ent.obj d (.deferred (some []))])) : SX.St w0 M w (L ++ (d :: ds).map mkE) := by
  refine hs.perm ?_
  rw [List.append_assoc]
  exact List.Perm.append_left _ (List.perm_append_comm (l₁ := [mkE d]))
theorem marksFront {ds : List Nat} (hs : SX.St w0 M w (L ++ ds.map mkE)) : SX.St w0 M w (ds.map mkE ++ L) := hs.rot
/-- a struct of a row of ours -/
theorem cellsRf {α : Type} {enc : α → List Value} {s : Nat} {xs : List α} {g kk cc T m i : Nat} {x : α} {cs : List Value} (hm : SX.Ent.row (.slice (some ⟨g, 0, none⟩) kk cc) T s m (xs.flatMap enc) ∈ L) (hs : ∀ x, (enc x).length = s) (hx : xs[i]? = some x) (hcs : enc x = cs) :
    ∀ w, SX.Keep w0 M L w → ∀ j u, cs[j]? = some u → w.cell? ⟨g, 0 + (i : Int).toNat * s + j, none⟩ = some u := fun w hk j u hu => cellR hm (flat_pos hs hx (by rw [hcs]; exact hu)) w hk

/-! ## drawn regions out of which a panic may come, in a function that puts calls off -/
def PQd (Q : Exit → Act → World → Prop) (d : Nat) : Prop := ∀ (c : List PanicEntry) (a : Act) (u : Value) (w : World), Q (.panic c) (a.put (some d) u) w → Q (.panic c) a w
theorem tXD [Wide F] {ops : Array Oper} {S : World → Prop} {Dn : Nat → Bool} {done : List Nat} (i : Nat) (T : List Nat) (hQ : PQd Q d) (hi : ops[i]? = some o) (hG : effG ops E o = some G) (hd : o.dst = some d) (hc : chk N d E G = true) (hm : (left ops done && SX.mayTakeT .any ops Dn (flags ops.size done) i T) = true)
    (hS : S w) (y : Yd P N D S E G o.op v) (h : Z N ((d, G, v) :: E) D (wpP F n P ops Q S Dn (i :: done)) w) : Z N E D (wpP F n P ops Q S Dn done) w := by
  classical
  simp only [Bool.and_eq_true] at hm
  intro a ha
  obtain ⟨h1, h2, h3⟩ := chk_spec hc
  have hw := wanted_of (ops := ops) (o := o) ha hG
  unfold wpP
  rw [fuel_eq (i := i) hm.1]
  have hmt := hm.2
  obtain ⟨q1, q2, q3, q4⟩ := SX.mayTakeT_spec hmt hi
  have hmt' := hmt
  simp only [SX.mayTakeT, Bool.and_eq_true] at hmt'
  obtain ⟨⟨⟨⟨⟨⟨⟨k1, k2⟩, k3⟩, -⟩, -⟩, -⟩, -⟩, k8⟩ := hmt'
  have hQ' : ∀ u : Value, ∀ c a w, Q (.panic c) (a.put o.dst u) w → Q (.panic c) a w := fun u c a w h => by rw [hd] at h; exact hQ c a u w h
  by_cases hg : gholds a G
  · exact SX.wpAnyS_firstT (fun j => T.contains j) k3 (fun f => Wide.fn f) hi (Region.noSelect_spec k1) (SX.noDefer_spec k2) q1 q2 (hQ' v) _ _ a w q3 q4 (by simpa using k8) (.inl ⟨hw.2 hg, fun w hS => y.2 a ha hg o rfl w hS⟩) hS (by
      rw [hd]
      exact h _ (ha.put h1 h2 h3 (by rw [if_pos hg])))
  · exact SX.wpAnyS_firstT (fun j => T.contains j) k3 (fun f => Wide.fn f) hi (Region.noSelect_spec k1) (SX.noDefer_spec k2) q1 q2 (hQ' undef) _ _ a w q3 q4 (by simpa using k8) (.inr ⟨(by
      cases hb : Region.wanted o (yielded ops a.tmps) with
      | false => rfl
      | true => exact absurd (hw.1 hb) hg), rfl⟩) hS (by
      rw [hd]
      exact h _ (ha.put h1 h2 h3 (by rw [if_neg hg])))
def slotR : ResultVar → Nat
  | .tmp t => t
  | .cell a _ => a
theorem mapM_same {α β : Type} : ∀ (l : List α) (f g : α → Sem β), (∀ x ∈ l, f x = g x) → l.mapM f = l.mapM g
  | [], _, _, _ => rfl
  | x :: l, f, g, h => by
    rw [List.mapM_cons, List.mapM_cons, h x (by simp), mapM_same l f g fun y hy => h y (by simp [hy])]
theorem results_put {fn : Func} {tmps : Array Value} {u : Value} (h : fn.results.toList.all (fun r => slotR r != d) = true) : results fn (tmps.setIfInBounds d u) = results fn tmps := by
  have h2 : ∀ (f : ResultVar → Sem Value), (fn.results.mapM f) = (do let l ← fn.results.toList.mapM f; Pure.pure l.toArray) := fun f => by
    rw [Array.mapM_eq_mapM_toList]
    simp [Functor.map]
  unfold results
  rw [h2, h2]
  congr 1
  congr 1
  refine mapM_same _ _ _ fun r hr => ?_
  have hne : slotR r ≠ d := by simpa using List.all_eq_true.1 h r hr
  have hg : ∀ t, t ≠ d → (tmps.setIfInBounds d u).getD t undef = tmps.getD t undef := fun t ht => by
    simp [Array.getD_eq_getD_getElem?, Array.getElem?_setIfInBounds, Ne.symm ht]
  cases r with
  | tmp t => simp only [slotR] at hne; simp only [hg t hne]
  | cell a t => simp only [slotR] at hne; simp only [hg a hne]
theorem leaves_same {fn : Func} {R : Ending → World → Prop} {t t' : Array Value} (ht : results fn t = results fn t') : ∀ (ds : List Deferred) (m : FrameMode) (w : World), LeavesIn F n P fn t R ds m w → LeavesIn F n P fn t' R ds m w
  | [], .returning, w => fun ⟨v, h1, h2⟩ => ⟨v, ht ▸ h1, h2⟩
  | [], .panicking c, w => id
  | [], .run, w => id
  | d :: ds, m, w => fun ⟨h1, h2, fv, cap, f, args, a1, a2, a3, hc⟩ => ⟨h1, h2, fv, cap, f, args, a1, a2, a3, CallsDIn.mono hc fun e u' w' h => by
    cases e with
    | returned v => exact leaves_same ht ds _ _ h
    | panicked c => exact leaves_same ht ds _ _ h
    | outgrown => exact h⟩
theorem leaves_put {fn : Func} {R : Ending → World → Prop} {tmps : Array Value} {u : Value} {ds : List Deferred} {m : FrameMode} (hr : fn.results.toList.all (fun r => slotR r != d) = true) (h : LeavesIn F n P fn (tmps.setIfInBounds d u) R ds m w) : LeavesIn F n P fn tmps R ds m w :=
  leaves_same (results_put hr) ds m w h
theorem tnSPG [Wide F] {ops : Array Oper} {S : World → Prop} {Dn : Nat → Bool} {done : List Nat} (s : Nat) (b : Bool) (i : Nat) (hi : ops[i]? = some o) (hm : left ops done = true) (hr : Region.ready .any ops (flags ops.size done) = [i]) (hG : effG ops E o = some G) (hs : look s E = some ([], .bool (!b))) (hmem : (s, b) ∈ G)
    (hd : o.dst = some d) (hc : chk N d E G = true) (hS : Dn i = true → S w) (h : Z N ((d, G, undef) :: E) D (wpP F n P ops Q S Dn (i :: done)) w) : Z N E D (wpP F n P ops Q S Dn done) w := by
  intro a ha
  unfold wpP
  rw [fuel_eq (i := i) hm]
  refine ⟨fun h0 => (by rw [hr] at h0; cases h0), fun k hk => ?_⟩
  rw [hr] at hk
  obtain rfl : k = i := by simpa using hk
  obtain ⟨h1, h2, h3⟩ := chk_spec hc
  have hnot := not_holds ha hs hmem
  have hw : Region.wanted o (yielded ops a.tmps) = false := by
    cases hb : Region.wanted o (yielded ops a.tmps) with
    | false => rfl
    | true => exact absurd ((wanted_of (ops := ops) (o := o) ha hG).1 hb) hnot
  unfold Go.wpOpIn
  simp only [hi, hw, Bool.false_eq_true, if_false]
  refine ⟨fun f _ => Wide.fn f, hS, ?_⟩
  rw [hd]
  exact h _ (ha.put h1 h2 h3 (by rw [if_neg hnot]))
end Z
end Go.Proofs.Ytcieclifabbkjaa

/- Status reports decoded. -/
namespace Go.Proofs.Ytcieclifabbkjaa
open Go.RowKit
set_option linter.unusedSimpArgs false
set_option linter.unusedVariables false
--newlaws

theorem entry_any (g T : Nat) (sv : Value) (l : List Int) (a : Nat) (w : World) (hs : SX.St w (SX.idsOf (RdL g T sv l a)) w (RdL g T sv l a)) (hl : l.length ≤ 1000000) (hb : ∀ x ∈ l, 0 ≤ x ∧ x < 256) (ha : a ≤ 8 * l.length) :
    Calls Try.prog 43 #[.agg #[.pointer (some ⟨g, 0, none⟩)]] w (Z.Bo (fun v w' => nkE l a = 0 ∧ v = .tuple #[.agg (nkAt l a).cells.toArray, .bool (moreAt l a)] ∧ SX.St w (SX.idsOf (RdL g T sv l a)) w' (RdL g T sv l (nkA l a))) fun c w' => nkE l a ≠ 0 ∧ c = perr 5 ∧ ∃ a', SX.St w (SX.idsOf (RdL g T sv l a)) w' (RdL g T sv l a')) := by
  by_cases h : nkE l a = 0
  · exact Z.Bo.ret ((entry_ok g T sv l a w hs hl hb h).mono fun e w' ⟨v, h1, h2⟩ => ⟨v, h1, h, h2⟩)
  · exact Z.Bo.pan ((entry_bad g T sv l a w hs hl hb ha h).mono fun e w' ⟨v, h1, h2⟩ => ⟨v, h1, h, h2⟩)
theorem must_any (b : Bool) (e : Int) (w : World) : Calls Try.prog 42 #[.bool b, .int .i64 e] w (Z.Bo (fun v w' => b = true ∧ v = .tuple #[] ∧ SX.St w [] w' []) fun c w' => b = false ∧ c = perr e ∧ SX.St w [] w' []) := by
  cases b with
  | true => exact Z.Bo.ret ((must_ok true e w rfl).mono fun e w' ⟨v, h1, h2⟩ => ⟨v, h1, rfl, h2⟩)
  | false => exact Z.Bo.pan ((must_bad false e w rfl).mono fun e w' ⟨v, h1, h2⟩ => ⟨v, h1, rfl, h2⟩)
theorem dec1_pan (gs ge Ts Te : Nat) (x a b : Value) (e : Int) (w : World) (hs : SX.St w (SX.idsOf [SX.Ent.blk ge Te #[x], SX.Ent.blk gs Ts #[a, b]]) w [SX.Ent.blk ge Te #[x], SX.Ent.blk gs Ts #[a, b]]) :
    CallsDm Try.prog 38 #[.pointer (some ⟨gs, 0, none⟩), .pointer (some ⟨ge, 0, none⟩)] (.panicking (perr e)) (.panicking [{ v := .iface 27 (.int .i64 e), recovered := true }]) w
      (fun v w' => v = .tuple #[] ∧ SX.St w (SX.idsOf [SX.Ent.blk ge Te #[x], SX.Ent.blk gs Ts #[a, b]]) w' [SX.Ent.blk ge Te #[.int .i64 e], SX.Ent.blk gs Ts #[.int .i64 0, .slice none 0 0]]) := by
  generalize hM : SX.idsOf [SX.Ent.blk ge Te #[x], SX.Ent.blk gs Ts #[a, b]] = M at *
  refine Z.enterRec (Z.rec_pan _) Try.func38 rfl Try.ntmps38 rfl rfl rfl rfl rfl rfl rfl rfl rfl rfl ?_
  refine Z.seq ?_
  refine Z.seq ?_
  refine Z.region ?_
  refine Z.lb 1 rfl ?_
  refine Z.l rfl rfl (by rfl) (Z.keepS hs) (Z.Yd.bin rfl rfl (by intro _ w; go_simp; try rfl)) ?_
  refine Z.lnil ?_
  refine Z.only [0, 1, 2, 7] rfl ?_
  refine Z.nthen ?_
  refine Z.cond rfl (fun h => absurd h (by simp)) (fun hc1 => ?_)
  refine Z.skip ?_
  refine Z.nthen ?_
  refine Z.seq ?_
  refine Z.region ?_
  refine Z.lb 1 rfl ?_
  refine Z.l rfl rfl (by rfl) (Z.keepS hs) (Z.Yd.assertYes rfl (by intro v w; kernel_rfl)) ?_
  refine Z.lb 5 rfl ?_
  refine Z.lnil ?_
  refine Z.only [0, 1, 2, 3, 4] rfl ?_
  refine Z.nthen ?_
  refine Z.seq ?_
  refine Z.seq ?_
  refine Z.region ?_
  refine Z.lb 2 rfl ?_
  refine Z.lnil ?_
  refine Z.only [0, 1, 2, 3, 14] rfl ?_
  refine Z.nthen ?_
  refine Z.cond rfl (fun h => absurd h (by simp)) (fun hc3 => ?_)
  refine Z.skip ?_
  refine Z.nthen ?_
  refine Z.region ?_
  refine Z.l rfl rfl (by rfl) (Z.keepS hs) (Z.Yd.buildL [(0, 1), (1, 1)] [.int .i64 0, .slice none 0 0] rfl rfl (by intro w; kernel_rfl)) ?_
  refine Z.lb 1 rfl ?_
  refine Z.le rfl trivial ?_
  first | refine Z.ZO.storeA rfl rfl hs rfl rfl (by kernel_rfl) (by first | (simp [Value.oneCell']; done) | (refine Z.all_one ?_; assumption)) (by first | exact SX.at0 | exact SX.at1 | exact SX.at2 | exact SX.at3 | exact SX.at4 | exact SX.at5 | exact Z.at6 | exact Z.at7 | exact Z.at8 | exact Z.at9 | exact Z.at10 | exact Z.at11 | exact Z.at12) (by rfl) ?_ | refine Z.ZO.storeP rfl rfl hs rfl rfl (by kernel_rfl) (by first | (simp [Value.oneCell']; done) | (refine Z.all_one ?_; assumption)) (by first | exact SX.at0 | exact SX.at1 | exact SX.at2 | exact SX.at3 | exact SX.at4 | exact SX.at5 | exact Z.at6 | exact Z.at7 | exact Z.at8 | exact Z.at9 | exact Z.at10 | exact Z.at11 | exact Z.at12) (by first | decide | (simp; done) | (simp; omega)) ?_ | refine Z.ZO.storePR rfl rfl hs rfl rfl (by kernel_rfl) (by first | (simp [Value.oneCell']; done) | (refine Z.all_one ?_; assumption)) (by first | exact SX.at0 | exact SX.at1 | exact SX.at2 | exact SX.at3 | exact SX.at4 | exact SX.at5 | exact Z.at6 | exact Z.at7 | exact Z.at8 | exact Z.at9 | exact Z.at10 | exact Z.at11 | exact Z.at12) (by first | decide | (simp; done) | (simp; omega)) ?_
  clear hs; intro ws hs
  simp only [Nat.zero_add, Nat.add_zero, Nat.reduceAdd, Int.reduceToNat, Nat.reduceMul, List.set_cons_zero, List.set_cons_succ, List.setIfInBounds_toArray] at hs
  try simp only [Z.putL, Nat.zero_add] at hs
  refine Z.le rfl trivial ?_
  first | refine Z.ZO.store rfl rfl hs Try.sizeOf27 rfl rfl rfl (by first | exact SX.at0 | exact SX.at1 | exact SX.at2 | exact SX.at3 | exact SX.at4 | exact SX.at5 | exact Z.at6 | exact Z.at7 | exact Z.at8 | exact Z.at9 | exact Z.at10 | exact Z.at11 | exact Z.at12) (by first | (simp; done) | (simp; omega)) ?_ | refine Z.ZO.storeR rfl rfl hs Try.sizeOf27 rfl rfl rfl (by first | exact SX.at0 | exact SX.at1 | exact SX.at2 | exact SX.at3 | exact SX.at4 | exact SX.at5 | exact Z.at6 | exact Z.at7 | exact Z.at8 | exact Z.at9 | exact Z.at10 | exact Z.at11 | exact Z.at12) (by first | omega | (simp [ints_length]; done) | (simp [ints_length]; omega)) ?_
  clear hs; intro ws hs
  simp only [Nat.zero_add, Nat.add_zero, Nat.reduceAdd, Int.reduceToNat, Nat.reduceMul, List.set_cons_zero, List.set_cons_succ, List.setIfInBounds_toArray] at hs
  refine Z.lnil ?_
  refine Z.only [] rfl ?_
  -- ret#0
  refine Z.out0n trivial ?_
  first | exact ⟨_, rfl, rfl, hs⟩ | exact ⟨_, rfl, rfl, hs.sub (List.nil_sublist _)⟩
theorem dec1_ret (gs ge : Nat) (w : World) :
    CallsDm Try.prog 38 #[.pointer (some ⟨gs, 0, none⟩), .pointer (some ⟨ge, 0, none⟩)] .returning .returning w (fun v w' => v = .tuple #[] ∧ SX.St w [] w' []) := by
  have hs := SX.St.start w
  refine Z.enterRec (Z.rec_ret) Try.func38 rfl Try.ntmps38 rfl rfl rfl rfl rfl rfl rfl rfl rfl rfl ?_
  refine Z.seq ?_
  refine Z.seq ?_
  refine Z.region ?_
  refine Z.lb 1 rfl ?_
  refine Z.l rfl rfl (by rfl) (Z.keepS hs) (Z.Yd.bin rfl rfl (by intro _ w; go_simp; try rfl)) ?_
  refine Z.lnil ?_
  refine Z.only [0, 1, 2, 7] rfl ?_
  refine Z.nthen ?_
  refine Z.cond rfl (fun hc1 => ?_) (fun h => absurd h (by simp))
  refine Z.ret ?_
  repeat (first | refine Z.rthen ?_ | refine Z.rblock ?_ | refine Z.rscope ?_)
  -- ret#0
  refine Z.out0 trivial ?_
  first | exact ⟨_, rfl, rfl, hs⟩ | exact ⟨_, rfl, rfl, hs.sub (List.nil_sublist _)⟩
/-- what a decoder returns -/
def Dec (e ack : Int) (ns : List NkV) (v : Value) (w w' : World) : Prop := ∃ B c co, v = .tuple #[.agg #[.int .i64 ack, .slice B ns.length c], .int .i64 e] ∧ SX.St w [] w' [SX.Ent.row (.slice B ns.length co) 45 4 ns.length (ns.flatMap NkV.cells)]
theorem Dec.zero {e : Int} {w w' : World} (hs : SX.St w [] w' []) : Dec e 0 [] (.tuple #[.agg #[.int .i64 0, .slice none 0 0], .int .i64 e]) w w' := ⟨none, 0, 0, rfl, hs.nil _ 4⟩
set_option maxRecDepth 100000 in
theorem decode_short (A : Option Addr) (m c : Nat) (l : List Int) (w : World) (hx : Sl w A (ints .u8 l)) (hl : l.length = m) (hm : m ≤ 1000000) (hb : ∀ x ∈ l, 0 ≤ x ∧ x < 256) (h : ¬ 15 ≤ 8 * l.length) :
    Calls Try.prog 17 #[.slice A m c] w (SX.Ret fun v w' => Dec 5 0 [] v w w') := by
  have hs := SX.St.start w
  have q1 : gsE l 0 [4, 10, 1] = 5 := gs_bad (l := l) [4, 10, 1] 0 (by simp) (by omega) (by simp; omega)
  have hz0 : A = none → m = 0 := fun hA => by
    subst hA
    rcases Nat.eq_zero_or_pos m with h0 | h0
    · exact h0
    · obtain ⟨b, off, e, -⟩ := hx (by simp [ints]; omega)
      cases e
  refine Z.enterD Try.func17 rfl Try.ntmps17 rfl rfl ?_
  refine Z.seq ?_
  refine Z.region ?_
  refine Z.le rfl trivial ?_
  refine Z.ZO.alloc rfl rfl (by rfl) Try.zeroValue24 rfl hs ?_
  clear hs; intro g2 w2 hs
  refine Z.le rfl trivial ?_
  refine Z.ZO.alloc rfl rfl (by rfl) Try.zeroValue27 rfl hs ?_
  clear hs; intro g3 w3 hs
  refine Z.lnil ?_
  refine Z.only [0, 2, 3] rfl ?_
  refine Z.nthen ?_
  refine Z.seq ?_
  refine Z.region ?_
  refine Z.lb 1 rfl ?_
  refine Z.le rfl trivial ?_
  refine Z.ZO.defer rfl rfl rfl rfl ?_
  refine Z.lnil ?_
  refine Z.only [0, 2, 3] rfl ?_
  refine Z.nthen ?_
  refine Z.seq ?_
  refine Z.region ?_
  refine Z.lb 1 rfl ?_
  refine Z.le rfl trivial ?_
  refine Z.ZO.call rfl rfl (by rfl) rfl rfl Try.call39 rfl (newreader_any A m c l _ ((hx.st (hs.sub (List.nil_sublist _))).sx) hl (by omega) hz0) ?_
  rintro v2_1 w2_1 ⟨gr, sv, rfl, hy⟩
  replace hs := hs.call hy
  clear hy
  try simp only [List.cons_append, List.nil_append, List.append_nil] at hs
  refine Z.l rfl rfl (by rfl) (Z.keepS hs) (Z.Yd.buildL [(0, 1)] [.pointer none] rfl rfl (by intro w; kernel_rfl)) ?_
  refine Z.le rfl trivial ?_
  refine Z.ZO.alloc rfl rfl (by rfl) Try.zeroValue77 rfl hs ?_
  clear hs; intro g4 w4 hs
  refine Z.le rfl trivial ?_
  first | refine Z.ZO.storeA rfl rfl hs rfl rfl (by kernel_rfl) (by first | (simp [Value.oneCell']; done) | (refine Z.all_one ?_; assumption)) (by first | exact SX.at0 | exact SX.at1 | exact SX.at2 | exact SX.at3 | exact SX.at4 | exact SX.at5 | exact Z.at6 | exact Z.at7 | exact Z.at8 | exact Z.at9 | exact Z.at10 | exact Z.at11 | exact Z.at12) (by rfl) ?_ | refine Z.ZO.storeP rfl rfl hs rfl rfl (by kernel_rfl) (by first | (simp [Value.oneCell']; done) | (refine Z.all_one ?_; assumption)) (by first | exact SX.at0 | exact SX.at1 | exact SX.at2 | exact SX.at3 | exact SX.at4 | exact SX.at5 | exact Z.at6 | exact Z.at7 | exact Z.at8 | exact Z.at9 | exact Z.at10 | exact Z.at11 | exact Z.at12) (by first | decide | (simp; done) | (simp; omega)) ?_ | refine Z.ZO.storePR rfl rfl hs rfl rfl (by kernel_rfl) (by first | (simp [Value.oneCell']; done) | (refine Z.all_one ?_; assumption)) (by first | exact SX.at0 | exact SX.at1 | exact SX.at2 | exact SX.at3 | exact SX.at4 | exact SX.at5 | exact Z.at6 | exact Z.at7 | exact Z.at8 | exact Z.at9 | exact Z.at10 | exact Z.at11 | exact Z.at12) (by first | decide | (simp; done) | (simp; omega)) ?_
  clear hs; intro ws hs
  simp only [Nat.zero_add, Nat.add_zero, Nat.reduceAdd, Int.reduceToNat, Nat.reduceMul, List.set_cons_zero, List.set_cons_succ, List.setIfInBounds_toArray] at hs
  try simp only [Z.putL, Nat.zero_add] at hs
  refine Z.lnil ?_
  refine Z.only [2, 3, 4] rfl ?_
  refine Z.nthen ?_
  refine Z.seq ?_
  refine Z.region ?_
  refine Z.l rfl rfl (by rfl) (Z.keepS hs) (Z.Yd.fieldA (m := 0) rfl (by kernel_rfl)) ?_
  refine Z.l rfl rfl (by rfl) (Z.keepS hs) (by first | exact Z.Yd.load rfl Try.isAgg74 (fun _ => Z.cellB (by first | ((repeat (first | exact List.mem_cons_self | refine List.mem_cons_of_mem _ ?_ | refine List.mem_append_right _ ?_)); done) | fail) rfl) | exact Z.Yd.load rfl Try.isAgg74 (fun _ => Z.cellO (by assumption) (by simp) (by assumption)) | fail "load 3.1") ?_
  refine Z.le rfl trivial ?_
  refine Z.ZO.litL (T' := 3) [(0, 1), (1, 1), (2, 1)] [.int .i64 0, .int .i64 0, .int .i64 0] rfl rfl (by rfl) rfl rfl (by intro W; kernel_rfl) hs ?_
  clear hs; intro g15 w15 hs
  replace hs : SX.St w [] _ (RdL gr 107 sv l 0 ++ [_, _, _, _]) := hs.sel [2, 3, 0, 1, 4, 5] (by decide)
  refine Z.le rfl trivial ?_
  refine Z.ZO.call rfl rfl (by rfl) rfl rfl Try.call41 rfl (rgetall_any gr _ sv l 0 _ _ _ [4, 10, 1] _ hs.lend (by have h0 := Z.blk_lentj hs (j := 0) rfl; exact h0) rfl (by decide) (by omega) (by omega) hb) ?_
  rintro v3_3 w3_3 ⟨so, rfl, hz⟩
  replace hs := hs.regain hz
  rw [q1]
  rw [q1, if_neg (by decide), if_neg (by decide), if_neg (by decide)] at hs
  simp only [RdL, List.cons_append, List.nil_append] at hs
  refine Z.lb 2 rfl ?_
  refine Z.le rfl trivial ?_
  refine Z.ZO.callP rfl rfl rfl Try.call40 rfl (gots_bad _ 5 _ (by decide)) ?_
  rintro c3_6 w3_6 ⟨rfl, hy⟩
  replace hs := hs.call hy
  clear hy
  try simp only [List.cons_append, List.nil_append, List.append_nil] at hs
  replace hs := hs.sel [5, 6] (by decide)
  repeat (first | refine Z.pthen ?_ | refine Z.pblock ?_ | refine Z.pscope ?_)
  -- ret#0
  refine Z.outDp Try.call38 (dec1_pan g2 g3 _ _ _ _ _ _ _ (hs.lend (L2 := []))) ?_
  rintro vD wD ⟨rfl, hz⟩
  replace hs := hs.regain (L2 := []) hz
  refine ⟨[_, _], (by exact ⟨⟨_, rfl, Z.rvcA hs Try.isAgg24 (by first | ((repeat (first | exact List.mem_cons_self | refine List.mem_cons_of_mem _ ?_ | refine List.mem_append_right _ ?_)); done) | fail) (by exact Try.sizeOf24)⟩, ⟨_, rfl, Z.rvc hs Try.isAgg27 (by first | ((repeat (first | exact List.mem_cons_self | refine List.mem_cons_of_mem _ ?_ | refine List.mem_append_right _ ?_)); done) | fail) rfl⟩, trivial⟩), ?_⟩
  exact ⟨_, rfl, Dec.zero (hs.sub (List.nil_sublist _))⟩
set_option maxRecDepth 100000 in
theorem decode_fmt (A : Option Addr) (m c : Nat) (l : List Int) (w : World) (hx : Sl w A (ints .u8 l)) (hl : l.length = m) (hm : m ≤ 1000000) (hb : ∀ x ∈ l, 0 ≤ x ∧ x < 256) (h : 15 ≤ 8 * l.length) (h4 : gv l 0 4 ≠ 0) :
    Calls Try.prog 17 #[.slice A m c] w (SX.Ret fun v w' => Dec 9 0 [] v w w') := by
  have hs := SX.St.start w
  have b0 := gv_bd l 0 4
  have b1 := gv_bd l 4 10
  have b2 := gv_bd l 14 1
  simp only [Nat.reducePow] at b0 b1 b2
  obtain ⟨q1, q2, q3⟩ := gs_ok (l := l) [4, 10, 1] 0 (by simp) (by simp; omega)
  obtain ⟨v0, hv0⟩ : ∃ v, v = gv l 0 4 := ⟨_, rfl⟩
  obtain ⟨v1, hv1⟩ : ∃ v, v = gv l 4 10 := ⟨_, rfl⟩
  obtain ⟨v2, hv2⟩ : ∃ v, v = gv l 14 1 := ⟨_, rfl⟩
  have q3' : gsV l 0 [4, 10, 1] = [v0, v1, v2] := by rw [hv0, hv1, hv2]; exact q3
  have q1' : gsE l 0 [4, 10, 1] = 0 := q1
  have q2' : gsA l 0 [4, 10, 1] = 15 := q2
  rw [← hv0] at b0
  rw [← hv1] at b1
  rw [← hv2] at b2
  have hz0 : A = none → m = 0 := fun hA => by
    subst hA
    rcases Nat.eq_zero_or_pos m with h0 | h0
    · exact h0
    · obtain ⟨b, off, e, -⟩ := hx (by simp [ints]; omega)
      cases e
  have h4' : (v0 == 0) = false := by rw [hv0]; simpa using h4
  refine Z.enterD Try.func17 rfl Try.ntmps17 rfl rfl ?_
  refine Z.seq ?_
  refine Z.region ?_
  refine Z.le rfl trivial ?_
  refine Z.ZO.alloc rfl rfl (by rfl) Try.zeroValue24 rfl hs ?_
  clear hs; intro g2 w2 hs
  refine Z.le rfl trivial ?_
  refine Z.ZO.alloc rfl rfl (by rfl) Try.zeroValue27 rfl hs ?_
  clear hs; intro g3 w3 hs
  refine Z.lnil ?_
  refine Z.only [0, 2, 3] rfl ?_
  refine Z.nthen ?_
  refine Z.seq ?_
  refine Z.region ?_
  refine Z.lb 1 rfl ?_
  refine Z.le rfl trivial ?_
  refine Z.ZO.defer rfl rfl rfl rfl ?_
  refine Z.lnil ?_
  refine Z.only [0, 2, 3] rfl ?_
  refine Z.nthen ?_
  refine Z.seq ?_
  refine Z.region ?_
  refine Z.lb 1 rfl ?_
  refine Z.le rfl trivial ?_
  refine Z.ZO.call rfl rfl (by rfl) rfl rfl Try.call39 rfl (newreader_any A m c l _ ((hx.st (hs.sub (List.nil_sublist _))).sx) hl (by omega) hz0) ?_
  rintro v2_1 w2_1 ⟨gr, sv, rfl, hy⟩
  replace hs := hs.call hy
  clear hy
  try simp only [List.cons_append, List.nil_append, List.append_nil] at hs
  refine Z.l rfl rfl (by rfl) (Z.keepS hs) (Z.Yd.buildL [(0, 1)] [.pointer none] rfl rfl (by intro w; kernel_rfl)) ?_
  refine Z.le rfl trivial ?_
  refine Z.ZO.alloc rfl rfl (by rfl) Try.zeroValue77 rfl hs ?_
  clear hs; intro g4 w4 hs
  refine Z.le rfl trivial ?_
  first | refine Z.ZO.storeA rfl rfl hs rfl rfl (by kernel_rfl) (by first | (simp [Value.oneCell']; done) | (refine Z.all_one ?_; assumption)) (by first | exact SX.at0 | exact SX.at1 | exact SX.at2 | exact SX.at3 | exact SX.at4 | exact SX.at5 | exact Z.at6 | exact Z.at7 | exact Z.at8 | exact Z.at9 | exact Z.at10 | exact Z.at11 | exact Z.at12) (by rfl) ?_ | refine Z.ZO.storeP rfl rfl hs rfl rfl (by kernel_rfl) (by first | (simp [Value.oneCell']; done) | (refine Z.all_one ?_; assumption)) (by first | exact SX.at0 | exact SX.at1 | exact SX.at2 | exact SX.at3 | exact SX.at4 | exact SX.at5 | exact Z.at6 | exact Z.at7 | exact Z.at8 | exact Z.at9 | exact Z.at10 | exact Z.at11 | exact Z.at12) (by first | decide | (simp; done) | (simp; omega)) ?_ | refine Z.ZO.storePR rfl rfl hs rfl rfl (by kernel_rfl) (by first | (simp [Value.oneCell']; done) | (refine Z.all_one ?_; assumption)) (by first | exact SX.at0 | exact SX.at1 | exact SX.at2 | exact SX.at3 | exact SX.at4 | exact SX.at5 | exact Z.at6 | exact Z.at7 | exact Z.at8 | exact Z.at9 | exact Z.at10 | exact Z.at11 | exact Z.at12) (by first | decide | (simp; done) | (simp; omega)) ?_
  clear hs; intro ws hs
  simp only [Nat.zero_add, Nat.add_zero, Nat.reduceAdd, Int.reduceToNat, Nat.reduceMul, List.set_cons_zero, List.set_cons_succ, List.setIfInBounds_toArray] at hs
  try simp only [Z.putL, Nat.zero_add] at hs
  refine Z.lnil ?_
  refine Z.only [2, 3, 4] rfl ?_
  refine Z.nthen ?_
  refine Z.seq ?_
  refine Z.region ?_
  refine Z.l rfl rfl (by rfl) (Z.keepS hs) (Z.Yd.fieldA (m := 0) rfl (by kernel_rfl)) ?_
  refine Z.l rfl rfl (by rfl) (Z.keepS hs) (by first | exact Z.Yd.load rfl Try.isAgg74 (fun _ => Z.cellB (by first | ((repeat (first | exact List.mem_cons_self | refine List.mem_cons_of_mem _ ?_ | refine List.mem_append_right _ ?_)); done) | fail) rfl) | exact Z.Yd.load rfl Try.isAgg74 (fun _ => Z.cellO (by assumption) (by simp) (by assumption)) | fail "load 3.1") ?_
  refine Z.le rfl trivial ?_
  refine Z.ZO.litL (T' := 3) [(0, 1), (1, 1), (2, 1)] [.int .i64 0, .int .i64 0, .int .i64 0] rfl rfl (by rfl) rfl rfl (by intro W; kernel_rfl) hs ?_
  clear hs; intro g15 w15 hs
  replace hs : SX.St w [] _ (RdL gr 107 sv l 0 ++ [_, _, _, _]) := hs.sel [2, 3, 0, 1, 4, 5] (by decide)
  refine Z.le rfl trivial ?_
  refine Z.ZO.call rfl rfl (by rfl) rfl rfl Try.call41 rfl (rgetall_any gr _ sv l 0 _ _ _ [4, 10, 1] _ hs.lend (by have h0 := Z.blk_lentj hs (j := 0) rfl; exact h0) rfl (by decide) (by omega) (by omega) hb) ?_
  rintro v3_3 w3_3 ⟨so, rfl, hz⟩
  replace hs := hs.regain hz
  rw [q1']
  rw [q1', if_pos rfl, if_pos rfl, if_pos rfl, q2', q3'] at hs
  simp only [RdL, List.cons_append, List.nil_append] at hs
  obtain ⟨gso, cso, rfl, -, -⟩ := row_form (j := 2) hs rfl (by omega)
  refine Z.lb 2 rfl ?_
  refine Z.le rfl trivial ?_
  refine Z.ZO.call rfl rfl (by rfl) rfl rfl Try.call40 rfl (gots_ok _ _) ?_
  rintro v3_6 w3_6 ⟨rfl, hy⟩
  replace hs := hs.call hy
  clear hy
  try simp only [List.cons_append, List.nil_append, List.append_nil] at hs
  refine Z.lb 1 rfl ?_
  refine Z.lnil ?_
  refine Z.only [2, 3, 4, 5] rfl ?_
  refine Z.nthen ?_
  refine Z.seq ?_
  refine Z.region ?_
  refine Z.lb 1 rfl ?_
  refine Z.l rfl rfl (by rfl) (Z.keepS hs) (Z.Yd.elem rfl rfl Try.underlying78 Try.sizeOf62 (fun hG => ⟨(by first | omega | (have hG' := Z.gh rfl hG; simp at hG'; omega)), (by first | omega | (have hG' := Z.gh rfl hG; simp at hG'; omega))⟩)) ?_
  refine Z.l rfl rfl (by rfl) (Z.keepS hs) (Z.Yd.load rfl Try.isAgg62 (fun _ => Z.cellR (by first | ((repeat (first | exact List.mem_cons_self | refine List.mem_cons_of_mem _ ?_ | refine List.mem_append_right _ ?_)); done) | fail) rfl)) ?_
  refine Z.lb 1 rfl ?_
  refine Z.le rfl trivial ?_
  refine Z.ZO.callP rfl rfl rfl Try.call42 rfl (must_bad _ 9 _ h4') ?_
  rintro c4_4 w4_4 ⟨rfl, hy⟩
  replace hs := hs.call hy
  clear hy
  try simp only [List.cons_append, List.nil_append, List.append_nil] at hs
  replace hs := hs.sel [5, 6] (by decide)
  repeat (first | refine Z.pthen ?_ | refine Z.pblock ?_ | refine Z.pscope ?_)
  -- ret#0
  refine Z.outDp Try.call38 (dec1_pan g2 g3 _ _ _ _ _ _ _ (hs.lend (L2 := []))) ?_
  rintro vD wD ⟨rfl, hz⟩
  replace hs := hs.regain (L2 := []) hz
  refine ⟨[_, _], (by exact ⟨⟨_, rfl, Z.rvcA hs Try.isAgg24 (by first | ((repeat (first | exact List.mem_cons_self | refine List.mem_cons_of_mem _ ?_ | refine List.mem_append_right _ ?_)); done) | fail) (by exact Try.sizeOf24)⟩, ⟨_, rfl, Z.rvc hs Try.isAgg27 (by first | ((repeat (first | exact List.mem_cons_self | refine List.mem_cons_of_mem _ ?_ | refine List.mem_append_right _ ?_)); done) | fail) rfl⟩, trivial⟩), ?_⟩
  exact ⟨_, rfl, Dec.zero (hs.sub (List.nil_sublist _))⟩
theorem last_at {acc : List NkV} (h : acc.length ≠ 0) : ∃ p, acc[acc.length - 1]? = some p := ⟨_, List.getElem?_eq_getElem (by omega)⟩
set_option maxRecDepth 100000 in
theorem decode_main (A : Option Addr) (m c : Nat) (l : List Int) (w : World) (hx : Sl w A (ints .u8 l)) (hl : l.length = m) (hm : m ≤ 1000000) (hb : ∀ x ∈ l, 0 ≤ x ∧ x < 256) (h : 15 ≤ 8 * l.length) (h4 : gv l 0 4 = 0) (R : Int × List NkV) (hR : decGo l (gv l 4 10) (8 * l.length + 1) 15 [] (gv l 14 1 == 1) = R) :
    Calls Try.prog 17 #[.slice A m c] w (SX.Ret fun v w' => Dec R.1 (if R.1 = 0 then gv l 4 10 else 0) (if R.1 = 0 then R.2 else []) v w w') := by
  have hs := SX.St.start w
  have b0 := gv_bd l 0 4
  have b1 := gv_bd l 4 10
  have b2 := gv_bd l 14 1
  simp only [Nat.reducePow] at b0 b1 b2
  obtain ⟨q1, q2, q3⟩ := gs_ok (l := l) [4, 10, 1] 0 (by simp) (by simp; omega)
  obtain ⟨v0, hv0⟩ : ∃ v, v = gv l 0 4 := ⟨_, rfl⟩
  obtain ⟨v1, hv1⟩ : ∃ v, v = gv l 4 10 := ⟨_, rfl⟩
  obtain ⟨v2, hv2⟩ : ∃ v, v = gv l 14 1 := ⟨_, rfl⟩
  have q3' : gsV l 0 [4, 10, 1] = [v0, v1, v2] := by rw [hv0, hv1, hv2]; exact q3
  have q1' : gsE l 0 [4, 10, 1] = 0 := q1
  have q2' : gsA l 0 [4, 10, 1] = 15 := q2
  rw [← hv0] at b0
  rw [← hv1] at b1
  rw [← hv2] at b2
  have hz0 : A = none → m = 0 := fun hA => by
    subst hA
    rcases Nat.eq_zero_or_pos m with h0 | h0
    · exact h0
    · obtain ⟨b, off, e, -⟩ := hx (by simp [ints]; omega)
      cases e
  have h4' : (v0 == 0) = true := by rw [hv0]; simpa using h4
  rw [← hv1] at hR ⊢
  rw [← hv2] at hR
  refine Z.enterD Try.func17 rfl Try.ntmps17 rfl rfl ?_
  refine Z.seq ?_
  refine Z.region ?_
  refine Z.le rfl trivial ?_
  refine Z.ZO.alloc rfl rfl (by rfl) Try.zeroValue24 rfl hs ?_
  clear hs; intro g2 w2 hs
  refine Z.le rfl trivial ?_
  refine Z.ZO.alloc rfl rfl (by rfl) Try.zeroValue27 rfl hs ?_
  clear hs; intro g3 w3 hs
  refine Z.lnil ?_
  refine Z.only [0, 2, 3] rfl ?_
  refine Z.nthen ?_
  refine Z.seq ?_
  refine Z.region ?_
  refine Z.lb 1 rfl ?_
  refine Z.le rfl trivial ?_
  refine Z.ZO.defer rfl rfl rfl rfl ?_
  refine Z.lnil ?_
  refine Z.only [0, 2, 3] rfl ?_
  refine Z.nthen ?_
  refine Z.seq ?_
  refine Z.region ?_
  refine Z.lb 1 rfl ?_
  refine Z.le rfl trivial ?_
  refine Z.ZO.call rfl rfl (by rfl) rfl rfl Try.call39 rfl (newreader_any A m c l _ ((hx.st (hs.sub (List.nil_sublist _))).sx) hl (by omega) hz0) ?_
  rintro v2_1 w2_1 ⟨gr, sv, rfl, hy⟩
  replace hs := hs.call hy
  clear hy
  try simp only [List.cons_append, List.nil_append, List.append_nil] at hs
  refine Z.l rfl rfl (by rfl) (Z.keepS hs) (Z.Yd.buildL [(0, 1)] [.pointer none] rfl rfl (by intro w; kernel_rfl)) ?_
  refine Z.le rfl trivial ?_
  refine Z.ZO.alloc rfl rfl (by rfl) Try.zeroValue77 rfl hs ?_
  clear hs; intro g4 w4 hs
  refine Z.le rfl trivial ?_
  first | refine Z.ZO.storeA rfl rfl hs rfl rfl (by kernel_rfl) (by first | (simp [Value.oneCell']; done) | (refine Z.all_one ?_; assumption)) (by first | exact SX.at0 | exact SX.at1 | exact SX.at2 | exact SX.at3 | exact SX.at4 | exact SX.at5 | exact Z.at6 | exact Z.at7 | exact Z.at8 | exact Z.at9 | exact Z.at10 | exact Z.at11 | exact Z.at12) (by rfl) ?_ | refine Z.ZO.storeP rfl rfl hs rfl rfl (by kernel_rfl) (by first | (simp [Value.oneCell']; done) | (refine Z.all_one ?_; assumption)) (by first | exact SX.at0 | exact SX.at1 | exact SX.at2 | exact SX.at3 | exact SX.at4 | exact SX.at5 | exact Z.at6 | exact Z.at7 | exact Z.at8 | exact Z.at9 | exact Z.at10 | exact Z.at11 | exact Z.at12) (by first | decide | (simp; done) | (simp; omega)) ?_ | refine Z.ZO.storePR rfl rfl hs rfl rfl (by kernel_rfl) (by first | (simp [Value.oneCell']; done) | (refine Z.all_one ?_; assumption)) (by first | exact SX.at0 | exact SX.at1 | exact SX.at2 | exact SX.at3 | exact SX.at4 | exact SX.at5 | exact Z.at6 | exact Z.at7 | exact Z.at8 | exact Z.at9 | exact Z.at10 | exact Z.at11 | exact Z.at12) (by first | decide | (simp; done) | (simp; omega)) ?_
  clear hs; intro ws hs
  simp only [Nat.zero_add, Nat.add_zero, Nat.reduceAdd, Int.reduceToNat, Nat.reduceMul, List.set_cons_zero, List.set_cons_succ, List.setIfInBounds_toArray] at hs
  try simp only [Z.putL, Nat.zero_add] at hs
  refine Z.lnil ?_
  refine Z.only [2, 3, 4] rfl ?_
  refine Z.nthen ?_
  refine Z.seq ?_
  refine Z.region ?_
  refine Z.l rfl rfl (by rfl) (Z.keepS hs) (Z.Yd.fieldA (m := 0) rfl (by kernel_rfl)) ?_
  refine Z.l rfl rfl (by rfl) (Z.keepS hs) (by first | exact Z.Yd.load rfl Try.isAgg74 (fun _ => Z.cellB (by first | ((repeat (first | exact List.mem_cons_self | refine List.mem_cons_of_mem _ ?_ | refine List.mem_append_right _ ?_)); done) | fail) rfl) | exact Z.Yd.load rfl Try.isAgg74 (fun _ => Z.cellO (by assumption) (by simp) (by assumption)) | fail "load 3.1") ?_
  refine Z.le rfl trivial ?_
  refine Z.ZO.litL (T' := 3) [(0, 1), (1, 1), (2, 1)] [.int .i64 0, .int .i64 0, .int .i64 0] rfl rfl (by rfl) rfl rfl (by intro W; kernel_rfl) hs ?_
  clear hs; intro g15 w15 hs
  replace hs : SX.St w [] _ (RdL gr 107 sv l 0 ++ [_, _, _, _]) := hs.sel [2, 3, 0, 1, 4, 5] (by decide)
  refine Z.le rfl trivial ?_
  refine Z.ZO.call rfl rfl (by rfl) rfl rfl Try.call41 rfl (rgetall_any gr _ sv l 0 _ _ _ [4, 10, 1] _ hs.lend (by have h0 := Z.blk_lentj hs (j := 0) rfl; exact h0) rfl (by decide) (by omega) (by omega) hb) ?_
  rintro v3_3 w3_3 ⟨so, rfl, hz⟩
  replace hs := hs.regain hz
  rw [q1']
  rw [q1', if_pos rfl, if_pos rfl, if_pos rfl, q2', q3'] at hs
  simp only [RdL, List.cons_append, List.nil_append] at hs
  obtain ⟨gso, cso, rfl, -, -⟩ := row_form (j := 2) hs rfl (by omega)
  refine Z.lb 2 rfl ?_
  refine Z.le rfl trivial ?_
  refine Z.ZO.call rfl rfl (by rfl) rfl rfl Try.call40 rfl (gots_ok _ _) ?_
  rintro v3_6 w3_6 ⟨rfl, hy⟩
  replace hs := hs.call hy
  clear hy
  try simp only [List.cons_append, List.nil_append, List.append_nil] at hs
  refine Z.lb 1 rfl ?_
  refine Z.lnil ?_
  refine Z.only [2, 3, 4, 5] rfl ?_
  refine Z.nthen ?_
  refine Z.seq ?_
  refine Z.region ?_
  refine Z.lb 1 rfl ?_
  refine Z.l rfl rfl (by rfl) (Z.keepS hs) (Z.Yd.elem rfl rfl Try.underlying78 Try.sizeOf62 (fun hG => ⟨(by first | omega | (have hG' := Z.gh rfl hG; simp at hG'; omega)), (by first | omega | (have hG' := Z.gh rfl hG; simp at hG'; omega))⟩)) ?_
  refine Z.l rfl rfl (by rfl) (Z.keepS hs) (Z.Yd.load rfl Try.isAgg62 (fun _ => Z.cellR (by first | ((repeat (first | exact List.mem_cons_self | refine List.mem_cons_of_mem _ ?_ | refine List.mem_append_right _ ?_)); done) | fail) rfl)) ?_
  refine Z.lb 1 rfl ?_
  refine Z.le rfl trivial ?_
  refine Z.ZO.call rfl rfl (by rfl) rfl rfl Try.call42 rfl (must_ok _ 9 _ h4') ?_
  rintro v4_4 w4_4 ⟨rfl, hy⟩
  replace hs := hs.call hy
  clear hy
  try simp only [List.cons_append, List.nil_append, List.append_nil] at hs
  refine Z.lnil ?_
  refine Z.only [2, 3, 4, 5] rfl ?_
  refine Z.nthen ?_
  refine Z.seq ?_
  refine Z.region ?_
  refine Z.lb 1 rfl ?_
  refine Z.l rfl rfl (by rfl) (Z.keepS hs) (Z.Yd.elem rfl rfl Try.underlying78 Try.sizeOf62 (fun hG => ⟨(by first | omega | (have hG' := Z.gh rfl hG; simp at hG'; omega)), (by first | omega | (have hG' := Z.gh rfl hG; simp at hG'; omega))⟩)) ?_
  refine Z.l rfl rfl (by rfl) (Z.keepS hs) (Z.Yd.load rfl Try.isAgg62 (fun _ => Z.cellR (by first | ((repeat (first | exact List.mem_cons_self | refine List.mem_cons_of_mem _ ?_ | refine List.mem_append_right _ ?_)); done) | fail) rfl)) ?_
  refine Z.l rfl rfl (by rfl) (Z.keepS hs) (Z.Yd.convI rfl ⟨_, Try.underlying62⟩ Try.underlying3 (fun hG => Z.wi64 (by first | omega | (have hG' := Z.gh rfl hG; simp at hG'; omega)))) ?_
  refine Z.l rfl rfl (by rfl) (Z.keepS hs) (Z.Yd.fieldA (m := 0) rfl (by kernel_rfl)) ?_
  refine Z.le rfl trivial ?_
  first | refine Z.ZO.store rfl rfl hs Try.sizeOf3 rfl rfl rfl (by first | exact SX.at0 | exact SX.at1 | exact SX.at2 | exact SX.at3 | exact SX.at4 | exact SX.at5 | exact Z.at6 | exact Z.at7 | exact Z.at8 | exact Z.at9 | exact Z.at10 | exact Z.at11 | exact Z.at12) (by first | (simp; done) | (simp; omega)) ?_ | refine Z.ZO.storeR rfl rfl hs Try.sizeOf3 rfl rfl rfl (by first | exact SX.at0 | exact SX.at1 | exact SX.at2 | exact SX.at3 | exact SX.at4 | exact SX.at5 | exact Z.at6 | exact Z.at7 | exact Z.at8 | exact Z.at9 | exact Z.at10 | exact Z.at11 | exact Z.at12) (by first | omega | (simp [ints_length]; done) | (simp [ints_length]; omega)) ?_
  clear hs; intro ws hs
  simp only [Nat.zero_add, Nat.add_zero, Nat.reduceAdd, Int.reduceToNat, Nat.reduceMul, List.set_cons_zero, List.set_cons_succ, List.setIfInBounds_toArray] at hs
  refine Z.lnil ?_
  refine Z.only [2, 3, 4, 5] rfl ?_
  refine Z.nthen ?_
  refine Z.seq ?_
  refine Z.seq ?_
  refine Z.region ?_
  refine Z.lb 1 rfl ?_
  refine Z.l rfl rfl (by rfl) (Z.keepS hs) (Z.Yd.elem rfl rfl Try.underlying78 Try.sizeOf62 (fun hG => ⟨(by first | omega | (have hG' := Z.gh rfl hG; simp at hG'; omega)), (by first | omega | (have hG' := Z.gh rfl hG; simp at hG'; omega))⟩)) ?_
  refine Z.l rfl rfl (by rfl) (Z.keepS hs) (Z.Yd.load rfl Try.isAgg62 (fun _ => Z.cellR (by first | ((repeat (first | exact List.mem_cons_self | refine List.mem_cons_of_mem _ ?_ | refine List.mem_append_right _ ?_)); done) | fail) rfl)) ?_
  refine Z.lb 2 rfl ?_
  refine Z.lnil ?_
  refine Z.only [2, 3, 4, 6] rfl ?_
  replace hs := (hs.sel [0, 1, 4, 5, 6] (by decide)).nil 45 4
  replace hs := hs.sel [1, 2, 0, 3, 4, 5] (by decide)
  refine Z.nthen ?_
  refine Z.block ?_
  refine Z.loopk (ι := Nat × List NkV × Value × Bool) [2, 3, 4] rfl (fun k => [(6, [], .bool k.2.2.2)]) (fun k wr => (k.1 ≤ 8 * l.length ∧ k.2.1.length ≤ 512 ∧ ∃ f, 8 * l.length - k.1 < f ∧ decGo l v1 f k.1 k.2.1 k.2.2.2 = R) ∧ SX.St w [] wr (RdL gr 107 sv l k.1 ++ [SX.Ent.row k.2.2.1 45 4 k.2.1.length (k.2.1.flatMap NkV.cells), SX.Ent.blk g4 77 #[.pointer (some ⟨gr, 0, none⟩)], SX.Ent.blk g3 27 #[.int .i64 0], SX.Ent.blk g2 24 #[.int .i64 v1, k.2.2.1]])) (fun k => 8 * l.length - k.1 + (if k.2.2.2 = true then 1 else 0)) (15, [], .slice none 0 0, v2 == 1) (by refine ⟨?_, trivial⟩ <;> (first | rfl | (refine Z.lookv rfl ?_; simp; done) | (refine Z.lookv rfl ?_; simp; omega))) ⟨⟨by simp only; omega, by simp, _, by simp only; omega, hR⟩, hs⟩ ?_
  clear hs
  rintro ⟨a, acc, sva, more⟩ w2 ⟨⟨ha, h512, f, hf, hgo⟩, hs⟩
  refine Z.only [2, 3, 4, 6] rfl ?_
  (try dsimp only at hs)
  dsimp only at ha h512 hf hgo
  refine Z.seq ?_
  refine Z.seq ?_
  refine Z.region ?_
  refine Z.lb 1 rfl ?_
  refine Z.lnil ?_
  refine Z.only [2, 3, 4, 34] rfl ?_
  refine Z.nthen ?_
  refine Z.cond rfl (fun hc7 => ?_) (fun hc7 => ?_)
  · first
      | (exfalso; simp at hc7 <;> omega)
      | (
        (try simp at hc7)
        obtain ⟨f, rfl⟩ : ∃ f', f = f' + 1 := ⟨f - 1, by omega⟩
        unfold decGo at hgo
        obtain ⟨Aa, ca, rfl, -, -, -⟩ := SX.row_slv hs (j := 2) rfl
        refine Z.skip ?_
        refine Z.nthen ?_
        refine Z.block ?_
        refine Z.seq ?_
        refine Z.region ?_
        refine Z.le rfl trivial ?_
        refine Z.ZO.alloc rfl rfl (by rfl) Try.zeroValue45 rfl hs ?_
        clear hs; intro g7 w7 hs
        refine Z.lnil ?_
        refine Z.only [2, 3, 4, 7] rfl ?_
        refine Z.nthen ?_
        refine Z.seq ?_
        refine Z.region ?_
        refine Z.l rfl rfl (by rfl) (Z.keepS hs) (by first | exact Z.Yd.loadA _ rfl Try.isAgg77 (fun _ => Z.cellsB (by first | ((repeat (first | exact List.mem_cons_self | refine List.mem_cons_of_mem _ ?_ | refine List.mem_append_right _ ?_)); done) | fail)) (by exact Try.sizeOf77) | fail "load 9.0") ?_
        replace hs : SX.St w [] _ (RdL gr 107 sv l a ++ [_, _, _, _, _]) := hs.sel [1, 2, 0, 3, 4, 5, 6] (by decide)
        refine Z.le rfl trivial ?_
        refine Z.ZO.callB rfl rfl (by rfl) rfl rfl Try.call43 rfl (entry_any gr _ sv l a _ hs.lend (by omega) hb ha) ?_ ?_
        · skip
          rintro v9_1 w9_1 ⟨hE, rfl, hz⟩
          replace hs := hs.regain hz
          have hA := nkA_ok hE
          have hone := nk_one (nkAt l a)
          rw [if_neg (by simp_all), if_neg (by simpa using hE)] at hgo
          simp only [RdL, List.cons_append, List.nil_append] at hs
          refine Z.lb 3 rfl ?_
          refine Z.le rfl trivial ?_
          first | refine Z.ZO.storeA rfl rfl hs rfl rfl (by kernel_rfl) (by first | (simp [Value.oneCell']; done) | (refine Z.all_one ?_; assumption)) (by first | exact SX.at0 | exact SX.at1 | exact SX.at2 | exact SX.at3 | exact SX.at4 | exact SX.at5 | exact Z.at6 | exact Z.at7 | exact Z.at8 | exact Z.at9 | exact Z.at10 | exact Z.at11 | exact Z.at12) (by rfl) ?_ | refine Z.ZO.storeP rfl rfl hs rfl rfl (by kernel_rfl) (by first | (simp [Value.oneCell']; done) | (refine Z.all_one ?_; assumption)) (by first | exact SX.at0 | exact SX.at1 | exact SX.at2 | exact SX.at3 | exact SX.at4 | exact SX.at5 | exact Z.at6 | exact Z.at7 | exact Z.at8 | exact Z.at9 | exact Z.at10 | exact Z.at11 | exact Z.at12) (by first | decide | (simp; done) | (simp; omega)) ?_ | refine Z.ZO.storePR rfl rfl hs rfl rfl (by kernel_rfl) (by first | (simp [Value.oneCell']; done) | (refine Z.all_one ?_; assumption)) (by first | exact SX.at0 | exact SX.at1 | exact SX.at2 | exact SX.at3 | exact SX.at4 | exact SX.at5 | exact Z.at6 | exact Z.at7 | exact Z.at8 | exact Z.at9 | exact Z.at10 | exact Z.at11 | exact Z.at12) (by first | decide | (simp; done) | (simp; omega)) ?_
          clear hs; intro ws hs
          simp only [Nat.zero_add, Nat.add_zero, Nat.reduceAdd, Int.reduceToNat, Nat.reduceMul, List.set_cons_zero, List.set_cons_succ, List.setIfInBounds_toArray] at hs
          try simp only [Z.putL, Nat.zero_add] at hs
          refine Z.lb 1 rfl ?_
          refine Z.lnil ?_
          refine Z.only [2, 3, 4, 6, 7] rfl ?_
          refine Z.nthen ?_
          refine Z.seq ?_
          refine Z.region ?_
          refine Z.l rfl rfl (by rfl) (Z.keepS hs) (Z.Yd.fieldA (m := 1) rfl (by kernel_rfl)) ?_
          refine Z.l rfl rfl (by rfl) (Z.keepS hs) (by first | exact Z.Yd.load rfl Try.isAgg22 (fun _ => Z.cellB (by first | ((repeat (first | exact List.mem_cons_self | refine List.mem_cons_of_mem _ ?_ | refine List.mem_append_right _ ?_)); done) | fail) rfl) | exact Z.Yd.load rfl Try.isAgg22 (fun _ => Z.cellO (by assumption) (by simp) (by assumption)) | fail "load 10.1") ?_
          refine Z.l rfl rfl (by rfl) (Z.keepS hs) (Z.Yd.lenS rfl Try.underlying22) ?_
          refine Z.lb 1 rfl ?_
          refine Z.lnil ?_
          refine Z.only [2, 3, 4, 6, 7, 8] rfl ?_
          refine Z.nthen ?_
          refine Z.seq ?_
          refine Z.drawPK (fun j => j != 24) mixed hs ?_
          clear hs; intro wd11 hs
          refine Z.tnP 0 rfl rfl (by kernel_rfl) rfl trivial ?_
          refine Z.ZO.quiet rfl (by rfl) (Z.keepS hs) (Z.Yd.pure rfl) ?_
          refine Z.tkP (Dn := fun j => j != 24) (i := 0) (fun _ => ⟨_, hs, by first | (simp; done) | exact fun e he => List.mem_append_right _ he⟩) ?_
          refine Z.tnP 1 rfl rfl (by kernel_rfl) rfl trivial ?_
          refine Z.ZO.quiet rfl (by rfl) (Z.keepS hs) (Z.Yd.pure rfl) ?_
          refine Z.tkP (Dn := fun j => j != 24) (i := 1) (fun _ => ⟨_, hs, by first | (simp; done) | exact fun e he => List.mem_append_right _ he⟩) ?_
          refine Z.tnP 2 rfl rfl (by kernel_rfl) rfl trivial ?_
          refine Z.ZO.quiet rfl (by rfl) (Z.keepS hs) (Z.Yd.pure rfl) ?_
          refine Z.tkP (Dn := fun j => j != 24) (i := 2) (fun _ => ⟨_, hs, by first | (simp; done) | exact fun e he => List.mem_append_right _ he⟩) ?_
          refine Z.split (s := 45) rfl (fun hsp45 => ?_) (fun hsp45 => ?_)
          · first
              | (exfalso; simp at hsp45 <;> omega)
              | (
                refine Z.yes (s := 45) (b := true) rfl hsp45 rfl ?_
                (try simp at hsp45)
                refine Z.tXD 3 [3, 4, 6, 7, 8, 9, 10, 11, 12, 13, 14, 15, 16, 17, 18, 19, 20, 21, 22, 23, 24] (fun _ _ _ _ h => Z.leaves_put (by kernel_rfl) h) rfl rfl rfl (by rfl) (by kernel_rfl) ⟨_, hs, by first | (simp; done) | exact fun e he => List.mem_append_right _ he⟩ (Z.Yd.fieldA (m := 0) rfl (by kernel_rfl)) ?_
                refine Z.tXD 4 [4, 6, 7, 8, 9, 10, 11, 12, 13, 14, 15, 16, 17, 18, 19, 20, 21, 22, 23, 24] (fun _ _ _ _ h => Z.leaves_put (by kernel_rfl) h) rfl rfl rfl (by rfl) (by kernel_rfl) ⟨_, hs, by first | (simp; done) | exact fun e he => List.mem_append_right _ he⟩ (by first | exact Z.Yd.load rfl Try.isAgg3 (fun _ => Z.cellB (by first | ((repeat (first | exact List.mem_cons_self | refine List.mem_cons_of_mem _ ?_ | refine List.mem_append_right _ ?_)); done) | fail) rfl) | exact Z.Yd.load rfl Try.isAgg3 (fun _ => Z.cellO (by assumption) (by simp) (by assumption)) | fail "load 11.4") ?_
                refine Z.yes (s := 45) (b := true) rfl rfl rfl ?_
                refine Z.tnP 5 rfl rfl (by kernel_rfl) rfl (by exact ⟨rfl, trivial⟩) ?_
                refine Z.ZO.quiet rfl (by rfl) (Z.keepS hs) (Z.Yd.loadA _ rfl Try.isAgg45 (fun _ => Z.cellsB (cs := (nkAt l a).cells) (by first | ((repeat (first | exact List.mem_cons_self | refine List.mem_cons_of_mem _ ?_ | refine List.mem_append_right _ ?_)); done) | fail)) (by exact Try.sizeOf45)) ?_
                refine Z.tkP (Dn := fun j => j != 24) (i := 5) (fun _ => ⟨_, hs, by first | (simp; done) | exact fun e he => List.mem_append_right _ he⟩) ?_
                refine Z.tnP 6 rfl rfl (by kernel_rfl) rfl (by exact ⟨rfl, trivial⟩) ?_
                refine Z.ZO.call rfl rfl (by rfl) rfl rfl Try.call33 rfl (alone_any v1 (nkAt l a) _) ?_
                rintro v11_6 w11_6 ⟨rfl, hy⟩
                replace hs := hs.call hy
                clear hy
                try simp only [List.cons_append, List.nil_append, List.append_nil] at hs
                refine Z.tkP (Dn := fun j => j != 24) (i := 6) (fun _ => ⟨_, hs, by first | (simp; done) | exact fun e he => List.mem_append_right _ he⟩) ?_
                refine Z.tnP 7 rfl rfl (by kernel_rfl) rfl trivial ?_
                refine Z.ZO.quiet rfl (by rfl) (Z.keepS hs) (Z.Yd.pickT rfl rfl) ?_
                refine Z.tkP (Dn := fun j => j != 24) (i := 7) (fun _ => ⟨_, hs, by first | (simp; done) | exact fun e he => List.mem_append_right _ he⟩) ?_
                refine Z.tnP 8 rfl rfl (by kernel_rfl) rfl trivial ?_
                refine Z.ZO.quiet rfl (by rfl) (Z.keepS hs) (Z.Yd.pure rfl) ?_
                refine Z.tkP (Dn := fun j => j != 24) (i := 8) (fun _ => ⟨_, hs, by first | (simp; done) | exact fun e he => List.mem_append_right _ he⟩) ?_
                refine Z.split (s := 51) rfl (fun hsp51 => ?_) (fun hsp51 => ?_)
                · first
                    | (exfalso; simp at hsp51 <;> omega)
                    | (
                      refine Z.yes (s := 51) (b := true) rfl hsp51 rfl ?_
                      (try simp at hsp51)
                      refine Z.yes (s := 45) (b := true) rfl rfl rfl ?_
                      refine Z.tnP 9 rfl rfl (by kernel_rfl) rfl (by exact ⟨rfl, trivial⟩) ?_
                      refine Z.ZO.quiet rfl (by rfl) (Z.keepS hs) (Z.Yd.pure rfl) ?_
                      refine Z.tkP (Dn := fun j => j != 24) (i := 9) (fun _ => ⟨_, hs, by first | (simp; done) | exact fun e he => List.mem_append_right _ he⟩) ?_
                      refine Z.tnP 10 rfl rfl (by kernel_rfl) rfl (by exact ⟨rfl, trivial⟩) ?_
                      refine Z.ZO.quiet rfl (by rfl) (Z.keepS hs) (Z.Yd.pure rfl) ?_
                      refine Z.tkP (Dn := fun j => j != 24) (i := 10) (fun _ => ⟨_, hs, by first | (simp; done) | exact fun e he => List.mem_append_right _ he⟩) ?_
                      refine Z.tnP 11 rfl rfl (by kernel_rfl) rfl (by exact ⟨rfl, trivial⟩) ?_
                      refine Z.ZO.quiet rfl (by rfl) (Z.keepS hs) (Z.Yd.pure rfl) ?_
                      refine Z.tkP (Dn := fun j => j != 24) (i := 11) (fun _ => ⟨_, hs, by first | (simp; done) | exact fun e he => List.mem_append_right _ he⟩) ?_
                      refine Z.split (s := 54) rfl (fun hsp54 => ?_) (fun hsp54 => ?_)
                      · first
                          | (exfalso; simp at hsp54 <;> omega)
                          | (
                            refine Z.yes (s := 54) (b := true) rfl hsp54 rfl ?_
                            (try simp at hsp54)
                            refine Z.yes (s := 45) (b := true) rfl rfl rfl ?_
                            refine Z.yes (s := 51) (b := true) rfl rfl rfl ?_
                            refine Z.tXD 12 [12, 13, 21, 22, 23, 24] (fun _ _ _ _ h => Z.leaves_put (by kernel_rfl) h) rfl rfl rfl (by rfl) (by kernel_rfl) ⟨_, hs, by first | (simp; done) | exact fun e he => List.mem_append_right _ he⟩ (Z.Yd.off (v := undef) 54 false rfl (by first | (simp; done) | (simp_all; done)) (by intro c h; cases h)) ?_
                            refine Z.tXD 13 [13, 21, 22, 23, 24] (fun _ _ _ _ h => Z.leaves_put (by kernel_rfl) h) rfl rfl rfl (by rfl) (by kernel_rfl) ⟨_, hs, by first | (simp; done) | exact fun e he => List.mem_append_right _ he⟩ (Z.Yd.off (v := undef) 54 false rfl (by first | (simp; done) | (simp_all; done)) (by intro c h; cases h)) ?_
                            refine Z.tXD 14 [14, 15, 18, 19, 21, 22, 23, 24] (fun _ _ _ _ h => Z.leaves_put (by kernel_rfl) h) rfl rfl rfl (by rfl) (by kernel_rfl) ⟨_, hs, by first | (simp; done) | exact fun e he => List.mem_append_right _ he⟩ (Z.Yd.off (v := undef) 54 false rfl (by first | (simp; done) | (simp_all; done)) (by intro c h; cases h)) ?_
                            refine Z.tXD 15 [15, 18, 19, 21, 22, 23, 24] (fun _ _ _ _ h => Z.leaves_put (by kernel_rfl) h) rfl rfl rfl (by rfl) (by kernel_rfl) ⟨_, hs, by first | (simp; done) | exact fun e he => List.mem_append_right _ he⟩ (Z.Yd.off (v := undef) 54 false rfl (by first | (simp; done) | (simp_all; done)) (by intro c h; cases h)) ?_
                            refine Z.tXD 16 [16, 17, 18, 19, 21, 22, 23, 24] (fun _ _ _ _ h => Z.leaves_put (by kernel_rfl) h) rfl rfl rfl (by rfl) (by kernel_rfl) ⟨_, hs, by first | (simp; done) | exact fun e he => List.mem_append_right _ he⟩ (Z.Yd.off (v := undef) 54 false rfl (by first | (simp; done) | (simp_all; done)) (by intro c h; cases h)) ?_
                            refine Z.tXD 17 [17, 18, 19, 21, 22, 23, 24] (fun _ _ _ _ h => Z.leaves_put (by kernel_rfl) h) rfl rfl rfl (by rfl) (by kernel_rfl) ⟨_, hs, by first | (simp; done) | exact fun e he => List.mem_append_right _ he⟩ (Z.Yd.off (v := undef) 54 false rfl (by first | (simp; done) | (simp_all; done)) (by intro c h; cases h)) ?_
                            refine Z.tXD 18 [18, 19, 21, 22, 23, 24] (fun _ _ _ _ h => Z.leaves_put (by kernel_rfl) h) rfl rfl rfl (by rfl) (by kernel_rfl) ⟨_, hs, by first | (simp; done) | exact fun e he => List.mem_append_right _ he⟩ (Z.Yd.off (v := undef) 54 false rfl (by first | (simp; done) | (simp_all; done)) (by intro c h; cases h)) ?_
                            refine Z.tXD 19 [19, 21, 22, 23, 24] (fun _ _ _ _ h => Z.leaves_put (by kernel_rfl) h) rfl rfl rfl (by rfl) (by kernel_rfl) ⟨_, hs, by first | (simp; done) | exact fun e he => List.mem_append_right _ he⟩ (Z.Yd.off (v := undef) 54 false rfl (by first | (simp; done) | (simp_all; done)) (by intro c h; cases h)) ?_
                            refine Z.yes (s := 45) (b := true) rfl rfl rfl ?_
                            refine Z.yes (s := 51) (b := true) rfl rfl rfl ?_
                            refine Z.yes (s := 54) (b := true) rfl rfl rfl ?_
                            refine Z.tnSPG 54 false 20 rfl rfl (by kernel_rfl) rfl rfl (by simp) rfl (by rfl) (fun _ => ⟨_, hs, by first | (simp; done) | exact fun e he => List.mem_append_right _ he⟩) ?_
                            refine Z.tnSPG 54 false 21 rfl rfl (by kernel_rfl) rfl rfl (by simp) rfl (by rfl) (fun _ => ⟨_, hs, by first | (simp; done) | exact fun e he => List.mem_append_right _ he⟩) ?_
                            refine Z.tnP 22 rfl rfl (by kernel_rfl) rfl (by exact ⟨rfl, trivial⟩) ?_
                            refine Z.ZO.quiet rfl (by rfl) (Z.keepS hs) (Z.Yd.pickT rfl rfl) ?_
                            refine Z.tkP (Dn := fun j => j != 24) (i := 22) (fun _ => ⟨_, hs, by first | (simp; done) | exact fun e he => List.mem_append_right _ he⟩) ?_
                            refine Z.tXD 23 [23, 24] (fun _ _ _ _ h => Z.leaves_put (by kernel_rfl) h) rfl rfl rfl (by rfl) (by kernel_rfl) ⟨_, hs, by first | (simp; done) | exact fun e he => List.mem_append_right _ he⟩ (Z.Yd.pickT rfl rfl) ?_
                            refine Z.tnP 24 rfl rfl (by kernel_rfl) rfl trivial ?_
                            refine Z.ZO.callB rfl rfl (by rfl) rfl rfl Try.call42 rfl (must_any _ 9 _) ?_ ?_
                            · skip
                              rintro v11_24 w11_24 ⟨hb11, rfl, hy⟩
                              replace hs := hs.call hy
                              clear hy
                              try simp only [List.cons_append, List.nil_append, List.append_nil] at hs
                              have h5 : acc.length < 512 := by first | omega | (simp at hb11 <;> omega)
                              have hok : okNext v1 acc (nkAt l a) = true := by
                                first
                                | (exfalso; simp at hb11 <;> omega)
                                | (unfold okNext; simp_all; done)
                              rw [if_pos hok] at hgo
                              refine Z.tkP (Dn := fun j => j != 24) (i := 24) (fun h => absurd h (by decide)) ?_
                              refine Z.tdP (by rfl) (by kernel_rfl) ?_
                              refine Z.only [2, 3, 4, 6, 7] rfl ?_
                              refine Z.nthen ?_
                              refine Z.region ?_
                              refine Z.l rfl rfl (by rfl) (Z.keepS hs) (Z.Yd.fieldA (m := 1) rfl (by kernel_rfl)) ?_
                              refine Z.l rfl rfl (by rfl) (Z.keepS hs) (by first | exact Z.Yd.load rfl Try.isAgg22 (fun _ => Z.cellB (by first | ((repeat (first | exact List.mem_cons_self | refine List.mem_cons_of_mem _ ?_ | refine List.mem_append_right _ ?_)); done) | fail) rfl) | exact Z.Yd.load rfl Try.isAgg22 (fun _ => Z.cellO (by assumption) (by simp) (by assumption)) | fail "load 12.1") ?_
                              refine Z.l rfl rfl (by rfl) (Z.keepS hs) (by first | exact Z.Yd.loadA _ rfl Try.isAgg45 (fun _ => Z.cellsB (by first | ((repeat (first | exact List.mem_cons_self | refine List.mem_cons_of_mem _ ?_ | refine List.mem_append_right _ ?_)); done) | fail)) (by exact Try.sizeOf45) | fail "load 12.2") ?_
                              refine Z.le rfl trivial ?_
                              refine Z.ZO.litL (T' := 45) [(0, 4)] [.int .i64 0, .bool false, .int .i64 0, .int .i64 0] rfl rfl (by rfl) rfl rfl (by intro W; kernel_rfl) hs ?_
                              clear hs; intro g71 w71 hs
                              refine Z.le rfl trivial ?_
                              refine Z.ZO.append (i0 := Try.t45) (size := 4) (bytes := 32) rfl rfl (by rfl) hs Try.underlying22 (by kernel_rfl) rfl rfl rfl rfl (by decide) rfl rfl (by first | exact SX.at0 | exact SX.at1 | exact SX.at2 | exact SX.at3 | exact SX.at4 | exact SX.at5 | exact Z.at6 | exact Z.at7 | exact Z.at8 | exact Z.at9 | exact Z.at10 | exact Z.at11 | exact Z.at12) (by first | exact SX.at0 | exact SX.at1 | exact SX.at2 | exact SX.at3 | exact SX.at4 | exact SX.at5 | exact Z.at6 | exact Z.at7 | exact Z.at8 | exact Z.at9 | exact Z.at10 | exact Z.at11 | exact Z.at12) (by first | rfl | simp) (by simp [Value.oneCell']) (by decide) (by unfold maxLen; omega) (by omega) ?_
                              clear hs; intro g72 cap72 w72 hs
                              simp only [List.set_cons_zero, List.set_cons_succ, List.eraseIdx_cons_zero, List.eraseIdx_cons_succ] at hs
                              refine Z.l rfl rfl (by rfl) (Z.keepS hs) (Z.Yd.fieldA (m := 1) rfl (by kernel_rfl)) ?_
                              refine Z.le rfl trivial ?_
                              first | refine Z.ZO.store rfl rfl hs Try.sizeOf22 rfl rfl rfl (by first | exact SX.at0 | exact SX.at1 | exact SX.at2 | exact SX.at3 | exact SX.at4 | exact SX.at5 | exact Z.at6 | exact Z.at7 | exact Z.at8 | exact Z.at9 | exact Z.at10 | exact Z.at11 | exact Z.at12) (by first | (simp; done) | (simp; omega)) ?_ | refine Z.ZO.storeR rfl rfl hs Try.sizeOf22 rfl rfl rfl (by first | exact SX.at0 | exact SX.at1 | exact SX.at2 | exact SX.at3 | exact SX.at4 | exact SX.at5 | exact Z.at6 | exact Z.at7 | exact Z.at8 | exact Z.at9 | exact Z.at10 | exact Z.at11 | exact Z.at12) (by first | omega | (simp [ints_length]; done) | (simp [ints_length]; omega)) ?_
                              clear hs; intro ws hs
                              simp only [Nat.zero_add, Nat.add_zero, Nat.reduceAdd, Int.reduceToNat, Nat.reduceMul, List.set_cons_zero, List.set_cons_succ, List.setIfInBounds_toArray] at hs
                              refine Z.lnil ?_
                              refine Z.only [2, 3, 4, 6] rfl ?_
                              refine Z.nblock ?_
                              refine Z.nthen ?_
                              have el : (acc ++ [nkAt l a]).length = acc.length + 1 := by simp
                              have hi1 : (if moreAt l a = true then 1 else 0) ≤ 1 := by split <;> omega
                              have ef : (acc ++ [nkAt l a]).flatMap NkV.cells = acc.flatMap NkV.cells ++ (nkAt l a).cells := by simp
                              exact Z.again (nkA l a, acc ++ [nkAt l a], _, moreAt l a) (by refine ⟨?_, ?_, ?_, ?_, trivial⟩ <;> (first | rfl | (refine Z.lookv rfl ?_; simp; done) | (refine Z.lookv rfl ?_; simp; omega))) ⟨⟨by simp only; omega, by simp only; omega, f, by simp only; omega, hgo⟩, by rw [el, ef]; exact hs.sel [0, 1, 3, 4, 5, 6] (by decide)⟩ (by simp only; omega)
                            · skip
                              rintro c11_24 w11_24 ⟨hb11, rfl, hy⟩
                              replace hs := hs.call hy
                              clear hy
                              try simp only [List.cons_append, List.nil_append, List.append_nil] at hs
                              have hok : okNext v1 acc (nkAt l a) = false := by
                                unfold okNext
                                first
                                | (have h5 : ¬ acc.length < 512 := by omega
                                   simp [h5]; done)
                                | (have h5 : acc.length < 512 := by omega
                                   simp_all; done)
                              rw [if_neg (by rw [hok]; decide)] at hgo
                              subst hgo
                              replace hs := hs.sel [5, 6] (by decide)
                              repeat (first | refine Z.pthen ?_ | refine Z.pblock ?_ | refine Z.pscope ?_)
                              -- ret#0
                              refine Z.outDp Try.call38 (dec1_pan g2 g3 _ _ _ _ _ _ _ (hs.lend (L2 := []))) ?_
                              rintro vD wD ⟨rfl, hz⟩
                              replace hs := hs.regain (L2 := []) hz
                              refine ⟨[_, _], (by exact ⟨⟨_, rfl, Z.rvcA hs Try.isAgg24 (by first | ((repeat (first | exact List.mem_cons_self | refine List.mem_cons_of_mem _ ?_ | refine List.mem_append_right _ ?_)); done) | fail) (by exact Try.sizeOf24)⟩, ⟨_, rfl, Z.rvc hs Try.isAgg27 (by first | ((repeat (first | exact List.mem_cons_self | refine List.mem_cons_of_mem _ ?_ | refine List.mem_append_right _ ?_)); done) | fail) rfl⟩, trivial⟩), ?_⟩
                              exact ⟨_, rfl, Dec.zero (hs.sub (List.nil_sublist _))⟩
                            )
                      · first
                          | (exfalso; simp at hsp54 <;> omega)
                          | (
                            refine Z.yes (s := 54) (b := false) rfl hsp54 rfl ?_
                            (try simp at hsp54)
                            have hne : acc.length ≠ 0 := by intro h0; simp_all
                            obtain ⟨p, hp⟩ := last_at hne
                            obtain ⟨ga, ca2, e2, -, -⟩ := row_form (j := 3) hs rfl (Nat.pos_of_ne_zero hne)
                            cases e2
                            have hk1 : ((acc.length : Int) - 1) = ((acc.length - 1 : Nat) : Int) := by omega
                            refine Z.yes (s := 45) (b := true) rfl rfl rfl ?_
                            refine Z.yes (s := 51) (b := true) rfl rfl rfl ?_
                            refine Z.tXD 12 [12, 13, 21, 22, 23, 24] (fun _ _ _ _ h => Z.leaves_put (by kernel_rfl) h) rfl rfl rfl (by rfl) (by kernel_rfl) ⟨_, hs, by first | (simp; done) | exact fun e he => List.mem_append_right _ he⟩ (Z.Yd.fieldA (m := 0) rfl (by kernel_rfl)) ?_
                            refine Z.tXD 13 [13, 21, 22, 23, 24] (fun _ _ _ _ h => Z.leaves_put (by kernel_rfl) h) rfl rfl rfl (by rfl) (by kernel_rfl) ⟨_, hs, by first | (simp; done) | exact fun e he => List.mem_append_right _ he⟩ (by first | exact Z.Yd.load rfl Try.isAgg3 (fun _ => Z.cellB (by first | ((repeat (first | exact List.mem_cons_self | refine List.mem_cons_of_mem _ ?_ | refine List.mem_append_right _ ?_)); done) | fail) rfl) | exact Z.Yd.load rfl Try.isAgg3 (fun _ => Z.cellO (by assumption) (by simp) (by assumption)) | fail "load 11.13") ?_
                            refine Z.tXD 14 [14, 15, 18, 19, 21, 22, 23, 24] (fun _ _ _ _ h => Z.leaves_put (by kernel_rfl) h) rfl rfl rfl (by rfl) (by kernel_rfl) ⟨_, hs, by first | (simp; done) | exact fun e he => List.mem_append_right _ he⟩ (Z.Yd.fieldA (m := 1) rfl (by kernel_rfl)) ?_
                            refine Z.tXD 15 [15, 18, 19, 21, 22, 23, 24] (fun _ _ _ _ h => Z.leaves_put (by kernel_rfl) h) rfl rfl rfl (by rfl) (by kernel_rfl) ⟨_, hs, by first | (simp; done) | exact fun e he => List.mem_append_right _ he⟩ (by first | exact Z.Yd.load rfl Try.isAgg22 (fun _ => Z.cellB (by first | ((repeat (first | exact List.mem_cons_self | refine List.mem_cons_of_mem _ ?_ | refine List.mem_append_right _ ?_)); done) | fail) rfl) | exact Z.Yd.load rfl Try.isAgg22 (fun _ => Z.cellO (by assumption) (by simp) (by assumption)) | fail "load 11.15") ?_
                            refine Z.tXD 16 [16, 17, 18, 19, 21, 22, 23, 24] (fun _ _ _ _ h => Z.leaves_put (by kernel_rfl) h) rfl rfl rfl (by rfl) (by kernel_rfl) ⟨_, hs, by first | (simp; done) | exact fun e he => List.mem_append_right _ he⟩ (Z.Yd.pure rfl) ?_
                            refine Z.tXD 17 [17, 18, 19, 21, 22, 23, 24] (fun _ _ _ _ h => Z.leaves_put (by kernel_rfl) h) rfl rfl rfl (by rfl) (by kernel_rfl) ⟨_, hs, by first | (simp; done) | exact fun e he => List.mem_append_right _ he⟩ (Z.Yd.sub rfl rfl (fun hG => Z.wi64 (by first | omega | (have hG' := Z.gh rfl hG; simp at hG'; omega)))) ?_
                            refine Z.tXD 18 [18, 19, 21, 22, 23, 24] (fun _ _ _ _ h => Z.leaves_put (by kernel_rfl) h) rfl rfl rfl (by rfl) (by kernel_rfl) ⟨_, hs, by first | (simp; done) | exact fun e he => List.mem_append_right _ he⟩ (Z.Yd.elem rfl rfl Try.underlying22 Try.sizeOf45 (fun hG => ⟨(by first | omega | (have hG' := Z.gh rfl hG; simp at hG'; omega)), (by first | omega | (have hG' := Z.gh rfl hG; simp at hG'; omega))⟩)) ?_
                            refine Z.tXD 19 [19, 21, 22, 23, 24] (fun _ _ _ _ h => Z.leaves_put (by kernel_rfl) h) rfl rfl rfl (by rfl) (by kernel_rfl) ⟨_, hs, by first | (simp; done) | exact fun e he => List.mem_append_right _ he⟩ (Z.Yd.loadA _ rfl Try.isAgg45 (fun _ => hk1 ▸ Z.cellsRf (by first | ((repeat (first | exact List.mem_cons_self | refine List.mem_cons_of_mem _ ?_ | refine List.mem_append_right _ ?_)); done) | fail) nk_len hp rfl) (by exact Try.sizeOf45)) ?_
                            refine Z.yes (s := 45) (b := true) rfl rfl rfl ?_
                            refine Z.yes (s := 51) (b := true) rfl rfl rfl ?_
                            refine Z.yes (s := 54) (b := false) rfl rfl rfl ?_
                            refine Z.tnP 20 rfl rfl (by kernel_rfl) rfl (by exact ⟨rfl, trivial⟩) ?_
                            refine Z.ZO.quiet rfl (by rfl) (Z.keepS hs) (Z.Yd.loadA _ rfl Try.isAgg45 (fun _ => Z.cellsB (cs := (nkAt l a).cells) (by first | ((repeat (first | exact List.mem_cons_self | refine List.mem_cons_of_mem _ ?_ | refine List.mem_append_right _ ?_)); done) | fail)) (by exact Try.sizeOf45)) ?_
                            refine Z.tkP (Dn := fun j => j != 24) (i := 20) (fun _ => ⟨_, hs, by first | (simp; done) | exact fun e he => List.mem_append_right _ he⟩) ?_
                            refine Z.tnP 21 rfl rfl (by kernel_rfl) rfl (by exact ⟨rfl, trivial⟩) ?_
                            refine Z.ZO.call rfl rfl (by rfl) rfl rfl Try.call34 rfl (follows_any v1 p (nkAt l a) _) ?_
                            rintro v11_21 w11_21 ⟨rfl, hy⟩
                            replace hs := hs.call hy
                            clear hy
                            try simp only [List.cons_append, List.nil_append, List.append_nil] at hs
                            refine Z.tkP (Dn := fun j => j != 24) (i := 21) (fun _ => ⟨_, hs, by first | (simp; done) | exact fun e he => List.mem_append_right _ he⟩) ?_
                            refine Z.tnP 22 rfl rfl (by kernel_rfl) rfl (by exact ⟨rfl, trivial⟩) ?_
                            refine Z.ZO.quiet rfl (by rfl) (Z.keepS hs) (Z.Yd.pickF rfl rfl) ?_
                            refine Z.tkP (Dn := fun j => j != 24) (i := 22) (fun _ => ⟨_, hs, by first | (simp; done) | exact fun e he => List.mem_append_right _ he⟩) ?_
                            refine Z.tXD 23 [23, 24] (fun _ _ _ _ h => Z.leaves_put (by kernel_rfl) h) rfl rfl rfl (by rfl) (by kernel_rfl) ⟨_, hs, by first | (simp; done) | exact fun e he => List.mem_append_right _ he⟩ (Z.Yd.pickT rfl rfl) ?_
                            refine Z.tnP 24 rfl rfl (by kernel_rfl) rfl trivial ?_
                            refine Z.ZO.callB rfl rfl (by rfl) rfl rfl Try.call42 rfl (must_any _ 9 _) ?_ ?_
                            · skip
                              rintro v11_24 w11_24 ⟨hb11, rfl, hy⟩
                              replace hs := hs.call hy
                              clear hy
                              try simp only [List.cons_append, List.nil_append, List.append_nil] at hs
                              have h5 : acc.length < 512 := by first | omega | (simp at hb11 <;> omega)
                              have hok : okNext v1 acc (nkAt l a) = true := by
                                first
                                | (exfalso; simp at hb11 <;> omega)
                                | (unfold okNext; simp_all; done)
                              rw [if_pos hok] at hgo
                              refine Z.tkP (Dn := fun j => j != 24) (i := 24) (fun h => absurd h (by decide)) ?_
                              refine Z.tdP (by rfl) (by kernel_rfl) ?_
                              refine Z.only [2, 3, 4, 6, 7] rfl ?_
                              refine Z.nthen ?_
                              refine Z.region ?_
                              refine Z.l rfl rfl (by rfl) (Z.keepS hs) (Z.Yd.fieldA (m := 1) rfl (by kernel_rfl)) ?_
                              refine Z.l rfl rfl (by rfl) (Z.keepS hs) (by first | exact Z.Yd.load rfl Try.isAgg22 (fun _ => Z.cellB (by first | ((repeat (first | exact List.mem_cons_self | refine List.mem_cons_of_mem _ ?_ | refine List.mem_append_right _ ?_)); done) | fail) rfl) | exact Z.Yd.load rfl Try.isAgg22 (fun _ => Z.cellO (by assumption) (by simp) (by assumption)) | fail "load 12.1") ?_
                              refine Z.l rfl rfl (by rfl) (Z.keepS hs) (by first | exact Z.Yd.loadA _ rfl Try.isAgg45 (fun _ => Z.cellsB (by first | ((repeat (first | exact List.mem_cons_self | refine List.mem_cons_of_mem _ ?_ | refine List.mem_append_right _ ?_)); done) | fail)) (by exact Try.sizeOf45) | fail "load 12.2") ?_
                              refine Z.le rfl trivial ?_
                              refine Z.ZO.litL (T' := 45) [(0, 4)] [.int .i64 0, .bool false, .int .i64 0, .int .i64 0] rfl rfl (by rfl) rfl rfl (by intro W; kernel_rfl) hs ?_
                              clear hs; intro g71 w71 hs
                              refine Z.le rfl trivial ?_
                              refine Z.ZO.append (i0 := Try.t45) (size := 4) (bytes := 32) rfl rfl (by rfl) hs Try.underlying22 (by kernel_rfl) rfl rfl rfl rfl (by decide) rfl rfl (by first | exact SX.at0 | exact SX.at1 | exact SX.at2 | exact SX.at3 | exact SX.at4 | exact SX.at5 | exact Z.at6 | exact Z.at7 | exact Z.at8 | exact Z.at9 | exact Z.at10 | exact Z.at11 | exact Z.at12) (by first | exact SX.at0 | exact SX.at1 | exact SX.at2 | exact SX.at3 | exact SX.at4 | exact SX.at5 | exact Z.at6 | exact Z.at7 | exact Z.at8 | exact Z.at9 | exact Z.at10 | exact Z.at11 | exact Z.at12) (by first | rfl | simp) (by simp [Value.oneCell']) (by decide) (by unfold maxLen; omega) (by omega) ?_
                              clear hs; intro g72 cap72 w72 hs
                              simp only [List.set_cons_zero, List.set_cons_succ, List.eraseIdx_cons_zero, List.eraseIdx_cons_succ] at hs
                              refine Z.l rfl rfl (by rfl) (Z.keepS hs) (Z.Yd.fieldA (m := 1) rfl (by kernel_rfl)) ?_
                              refine Z.le rfl trivial ?_
                              first | refine Z.ZO.store rfl rfl hs Try.sizeOf22 rfl rfl rfl (by first | exact SX.at0 | exact SX.at1 | exact SX.at2 | exact SX.at3 | exact SX.at4 | exact SX.at5 | exact Z.at6 | exact Z.at7 | exact Z.at8 | exact Z.at9 | exact Z.at10 | exact Z.at11 | exact Z.at12) (by first | (simp; done) | (simp; omega)) ?_ | refine Z.ZO.storeR rfl rfl hs Try.sizeOf22 rfl rfl rfl (by first | exact SX.at0 | exact SX.at1 | exact SX.at2 | exact SX.at3 | exact SX.at4 | exact SX.at5 | exact Z.at6 | exact Z.at7 | exact Z.at8 | exact Z.at9 | exact Z.at10 | exact Z.at11 | exact Z.at12) (by first | omega | (simp [ints_length]; done) | (simp [ints_length]; omega)) ?_
                              clear hs; intro ws hs
                              simp only [Nat.zero_add, Nat.add_zero, Nat.reduceAdd, Int.reduceToNat, Nat.reduceMul, List.set_cons_zero, List.set_cons_succ, List.setIfInBounds_toArray] at hs
                              refine Z.lnil ?_
                              refine Z.only [2, 3, 4, 6] rfl ?_
                              refine Z.nblock ?_
                              refine Z.nthen ?_
                              have el : (acc ++ [nkAt l a]).length = acc.length + 1 := by simp
                              have hi1 : (if moreAt l a = true then 1 else 0) ≤ 1 := by split <;> omega
                              have ef : (acc ++ [nkAt l a]).flatMap NkV.cells = acc.flatMap NkV.cells ++ (nkAt l a).cells := by simp
                              exact Z.again (nkA l a, acc ++ [nkAt l a], _, moreAt l a) (by refine ⟨?_, ?_, ?_, ?_, trivial⟩ <;> (first | rfl | (refine Z.lookv rfl ?_; simp; done) | (refine Z.lookv rfl ?_; simp; omega))) ⟨⟨by simp only; omega, by simp only; omega, f, by simp only; omega, hgo⟩, by rw [el, ef]; exact hs.sel [0, 1, 3, 4, 5, 6] (by decide)⟩ (by simp only; omega)
                            · skip
                              rintro c11_24 w11_24 ⟨hb11, rfl, hy⟩
                              replace hs := hs.call hy
                              clear hy
                              try simp only [List.cons_append, List.nil_append, List.append_nil] at hs
                              have hok : okNext v1 acc (nkAt l a) = false := by
                                unfold okNext
                                first
                                | (have h5 : ¬ acc.length < 512 := by omega
                                   simp [h5]; done)
                                | (have h5 : acc.length < 512 := by omega
                                   simp_all; done)
                              rw [if_neg (by rw [hok]; decide)] at hgo
                              subst hgo
                              replace hs := hs.sel [5, 6] (by decide)
                              repeat (first | refine Z.pthen ?_ | refine Z.pblock ?_ | refine Z.pscope ?_)
                              -- ret#1
                              refine Z.outDp Try.call38 (dec1_pan g2 g3 _ _ _ _ _ _ _ (hs.lend (L2 := []))) ?_
                              rintro vD wD ⟨rfl, hz⟩
                              replace hs := hs.regain (L2 := []) hz
                              refine ⟨[_, _], (by exact ⟨⟨_, rfl, Z.rvcA hs Try.isAgg24 (by first | ((repeat (first | exact List.mem_cons_self | refine List.mem_cons_of_mem _ ?_ | refine List.mem_append_right _ ?_)); done) | fail) (by exact Try.sizeOf24)⟩, ⟨_, rfl, Z.rvc hs Try.isAgg27 (by first | ((repeat (first | exact List.mem_cons_self | refine List.mem_cons_of_mem _ ?_ | refine List.mem_append_right _ ?_)); done) | fail) rfl⟩, trivial⟩), ?_⟩
                              exact ⟨_, rfl, Dec.zero (hs.sub (List.nil_sublist _))⟩
                            )
                      )
                · first
                    | (exfalso; simp at hsp51 <;> omega)
                    | (
                      refine Z.yes (s := 51) (b := false) rfl hsp51 rfl ?_
                      (try simp at hsp51)
                      refine Z.yes (s := 45) (b := true) rfl rfl rfl ?_
                      refine Z.tnSPG 51 true 9 rfl rfl (by kernel_rfl) rfl rfl (by simp) rfl (by rfl) (fun _ => ⟨_, hs, by first | (simp; done) | exact fun e he => List.mem_append_right _ he⟩) ?_
                      refine Z.tnSPG 51 true 10 rfl rfl (by kernel_rfl) rfl rfl (by simp) rfl (by rfl) (fun _ => ⟨_, hs, by first | (simp; done) | exact fun e he => List.mem_append_right _ he⟩) ?_
                      refine Z.tnSPG 51 true 11 rfl rfl (by kernel_rfl) rfl rfl (by simp) rfl (by rfl) (fun _ => ⟨_, hs, by first | (simp; done) | exact fun e he => List.mem_append_right _ he⟩) ?_
                      refine Z.tXD 12 [12, 13, 21, 22, 23, 24] (fun _ _ _ _ h => Z.leaves_put (by kernel_rfl) h) rfl rfl rfl (by rfl) (by kernel_rfl) ⟨_, hs, by first | (simp; done) | exact fun e he => List.mem_append_right _ he⟩ (Z.Yd.off (v := undef) 51 true rfl (by first | (simp; done) | (simp_all; done)) (by intro c h; cases h)) ?_
                      refine Z.tXD 13 [13, 21, 22, 23, 24] (fun _ _ _ _ h => Z.leaves_put (by kernel_rfl) h) rfl rfl rfl (by rfl) (by kernel_rfl) ⟨_, hs, by first | (simp; done) | exact fun e he => List.mem_append_right _ he⟩ (Z.Yd.off (v := undef) 51 true rfl (by first | (simp; done) | (simp_all; done)) (by intro c h; cases h)) ?_
                      refine Z.tXD 14 [14, 15, 18, 19, 21, 22, 23, 24] (fun _ _ _ _ h => Z.leaves_put (by kernel_rfl) h) rfl rfl rfl (by rfl) (by kernel_rfl) ⟨_, hs, by first | (simp; done) | exact fun e he => List.mem_append_right _ he⟩ (Z.Yd.off (v := undef) 51 true rfl (by first | (simp; done) | (simp_all; done)) (by intro c h; cases h)) ?_
                      refine Z.tXD 15 [15, 18, 19, 21, 22, 23, 24] (fun _ _ _ _ h => Z.leaves_put (by kernel_rfl) h) rfl rfl rfl (by rfl) (by kernel_rfl) ⟨_, hs, by first | (simp; done) | exact fun e he => List.mem_append_right _ he⟩ (Z.Yd.off (v := undef) 51 true rfl (by first | (simp; done) | (simp_all; done)) (by intro c h; cases h)) ?_
                      refine Z.tXD 16 [16, 17, 18, 19, 21, 22, 23, 24] (fun _ _ _ _ h => Z.leaves_put (by kernel_rfl) h) rfl rfl rfl (by rfl) (by kernel_rfl) ⟨_, hs, by first | (simp; done) | exact fun e he => List.mem_append_right _ he⟩ (Z.Yd.off (v := undef) 51 true rfl (by first | (simp; done) | (simp_all; done)) (by intro c h; cases h)) ?_
                      refine Z.tXD 17 [17, 18, 19, 21, 22, 23, 24] (fun _ _ _ _ h => Z.leaves_put (by kernel_rfl) h) rfl rfl rfl (by rfl) (by kernel_rfl) ⟨_, hs, by first | (simp; done) | exact fun e he => List.mem_append_right _ he⟩ (Z.Yd.off (v := undef) 51 true rfl (by first | (simp; done) | (simp_all; done)) (by intro c h; cases h)) ?_
                      refine Z.tXD 18 [18, 19, 21, 22, 23, 24] (fun _ _ _ _ h => Z.leaves_put (by kernel_rfl) h) rfl rfl rfl (by rfl) (by kernel_rfl) ⟨_, hs, by first | (simp; done) | exact fun e he => List.mem_append_right _ he⟩ (Z.Yd.off (v := undef) 51 true rfl (by first | (simp; done) | (simp_all; done)) (by intro c h; cases h)) ?_
                      refine Z.tXD 19 [19, 21, 22, 23, 24] (fun _ _ _ _ h => Z.leaves_put (by kernel_rfl) h) rfl rfl rfl (by rfl) (by kernel_rfl) ⟨_, hs, by first | (simp; done) | exact fun e he => List.mem_append_right _ he⟩ (Z.Yd.off (v := undef) 51 true rfl (by first | (simp; done) | (simp_all; done)) (by intro c h; cases h)) ?_
                      refine Z.tnSPG 51 true 20 rfl rfl (by kernel_rfl) rfl rfl (by simp) rfl (by rfl) (fun _ => ⟨_, hs, by first | (simp; done) | exact fun e he => List.mem_append_right _ he⟩) ?_
                      refine Z.tnSPG 51 true 21 rfl rfl (by kernel_rfl) rfl rfl (by simp) rfl (by rfl) (fun _ => ⟨_, hs, by first | (simp; done) | exact fun e he => List.mem_append_right _ he⟩) ?_
                      refine Z.tnSPG 51 true 22 rfl rfl (by kernel_rfl) rfl rfl (by simp) rfl (by rfl) (fun _ => ⟨_, hs, by first | (simp; done) | exact fun e he => List.mem_append_right _ he⟩) ?_
                      refine Z.tXD 23 [23, 24] (fun _ _ _ _ h => Z.leaves_put (by kernel_rfl) h) rfl rfl rfl (by rfl) (by kernel_rfl) ⟨_, hs, by first | (simp; done) | exact fun e he => List.mem_append_right _ he⟩ (Z.Yd.pickF rfl rfl) ?_
                      refine Z.tnP 24 rfl rfl (by kernel_rfl) rfl trivial ?_
                      refine Z.ZO.callB rfl rfl (by rfl) rfl rfl Try.call42 rfl (must_any _ 9 _) ?_ ?_
                      · skip
                        rintro v11_24 w11_24 ⟨hb11, rfl, hy⟩
                        replace hs := hs.call hy
                        clear hy
                        try simp only [List.cons_append, List.nil_append, List.append_nil] at hs
                        have h5 : acc.length < 512 := by first | omega | (simp at hb11 <;> omega)
                        have hok : okNext v1 acc (nkAt l a) = true := by
                          first
                          | (exfalso; simp at hb11 <;> omega)
                          | (unfold okNext; simp_all; done)
                        rw [if_pos hok] at hgo
                        refine Z.tkP (Dn := fun j => j != 24) (i := 24) (fun h => absurd h (by decide)) ?_
                        refine Z.tdP (by rfl) (by kernel_rfl) ?_
                        refine Z.only [2, 3, 4, 6, 7] rfl ?_
                        refine Z.nthen ?_
                        refine Z.region ?_
                        refine Z.l rfl rfl (by rfl) (Z.keepS hs) (Z.Yd.fieldA (m := 1) rfl (by kernel_rfl)) ?_
                        refine Z.l rfl rfl (by rfl) (Z.keepS hs) (by first | exact Z.Yd.load rfl Try.isAgg22 (fun _ => Z.cellB (by first | ((repeat (first | exact List.mem_cons_self | refine List.mem_cons_of_mem _ ?_ | refine List.mem_append_right _ ?_)); done) | fail) rfl) | exact Z.Yd.load rfl Try.isAgg22 (fun _ => Z.cellO (by assumption) (by simp) (by assumption)) | fail "load 12.1") ?_
                        refine Z.l rfl rfl (by rfl) (Z.keepS hs) (by first | exact Z.Yd.loadA _ rfl Try.isAgg45 (fun _ => Z.cellsB (by first | ((repeat (first | exact List.mem_cons_self | refine List.mem_cons_of_mem _ ?_ | refine List.mem_append_right _ ?_)); done) | fail)) (by exact Try.sizeOf45) | fail "load 12.2") ?_
                        refine Z.le rfl trivial ?_
                        refine Z.ZO.litL (T' := 45) [(0, 4)] [.int .i64 0, .bool false, .int .i64 0, .int .i64 0] rfl rfl (by rfl) rfl rfl (by intro W; kernel_rfl) hs ?_
                        clear hs; intro g71 w71 hs
                        refine Z.le rfl trivial ?_
                        refine Z.ZO.append (i0 := Try.t45) (size := 4) (bytes := 32) rfl rfl (by rfl) hs Try.underlying22 (by kernel_rfl) rfl rfl rfl rfl (by decide) rfl rfl (by first | exact SX.at0 | exact SX.at1 | exact SX.at2 | exact SX.at3 | exact SX.at4 | exact SX.at5 | exact Z.at6 | exact Z.at7 | exact Z.at8 | exact Z.at9 | exact Z.at10 | exact Z.at11 | exact Z.at12) (by first | exact SX.at0 | exact SX.at1 | exact SX.at2 | exact SX.at3 | exact SX.at4 | exact SX.at5 | exact Z.at6 | exact Z.at7 | exact Z.at8 | exact Z.at9 | exact Z.at10 | exact Z.at11 | exact Z.at12) (by first | rfl | simp) (by simp [Value.oneCell']) (by decide) (by unfold maxLen; omega) (by omega) ?_
                        clear hs; intro g72 cap72 w72 hs
                        simp only [List.set_cons_zero, List.set_cons_succ, List.eraseIdx_cons_zero, List.eraseIdx_cons_succ] at hs
                        refine Z.l rfl rfl (by rfl) (Z.keepS hs) (Z.Yd.fieldA (m := 1) rfl (by kernel_rfl)) ?_
                        refine Z.le rfl trivial ?_
                        first | refine Z.ZO.store rfl rfl hs Try.sizeOf22 rfl rfl rfl (by first | exact SX.at0 | exact SX.at1 | exact SX.at2 | exact SX.at3 | exact SX.at4 | exact SX.at5 | exact Z.at6 | exact Z.at7 | exact Z.at8 | exact Z.at9 | exact Z.at10 | exact Z.at11 | exact Z.at12) (by first | (simp; done) | (simp; omega)) ?_ | refine Z.ZO.storeR rfl rfl hs Try.sizeOf22 rfl rfl rfl (by first | exact SX.at0 | exact SX.at1 | exact SX.at2 | exact SX.at3 | exact SX.at4 | exact SX.at5 | exact Z.at6 | exact Z.at7 | exact Z.at8 | exact Z.at9 | exact Z.at10 | exact Z.at11 | exact Z.at12) (by first | omega | (simp [ints_length]; done) | (simp [ints_length]; omega)) ?_
                        clear hs; intro ws hs
                        simp only [Nat.zero_add, Nat.add_zero, Nat.reduceAdd, Int.reduceToNat, Nat.reduceMul, List.set_cons_zero, List.set_cons_succ, List.setIfInBounds_toArray] at hs
                        refine Z.lnil ?_
                        refine Z.only [2, 3, 4, 6] rfl ?_
                        refine Z.nblock ?_
                        refine Z.nthen ?_
                        have el : (acc ++ [nkAt l a]).length = acc.length + 1 := by simp
                        have hi1 : (if moreAt l a = true then 1 else 0) ≤ 1 := by split <;> omega
                        have ef : (acc ++ [nkAt l a]).flatMap NkV.cells = acc.flatMap NkV.cells ++ (nkAt l a).cells := by simp
                        exact Z.again (nkA l a, acc ++ [nkAt l a], _, moreAt l a) (by refine ⟨?_, ?_, ?_, ?_, trivial⟩ <;> (first | rfl | (refine Z.lookv rfl ?_; simp; done) | (refine Z.lookv rfl ?_; simp; omega))) ⟨⟨by simp only; omega, by simp only; omega, f, by simp only; omega, hgo⟩, by rw [el, ef]; exact hs.sel [0, 1, 3, 4, 5, 6] (by decide)⟩ (by simp only; omega)
                      · skip
                        rintro c11_24 w11_24 ⟨hb11, rfl, hy⟩
                        replace hs := hs.call hy
                        clear hy
                        try simp only [List.cons_append, List.nil_append, List.append_nil] at hs
                        have hok : okNext v1 acc (nkAt l a) = false := by
                          unfold okNext
                          first
                          | (have h5 : ¬ acc.length < 512 := by omega
                             simp [h5]; done)
                          | (have h5 : acc.length < 512 := by omega
                             simp_all; done)
                        rw [if_neg (by rw [hok]; decide)] at hgo
                        subst hgo
                        replace hs := hs.sel [5, 6] (by decide)
                        repeat (first | refine Z.pthen ?_ | refine Z.pblock ?_ | refine Z.pscope ?_)
                        -- ret#2
                        refine Z.outDp Try.call38 (dec1_pan g2 g3 _ _ _ _ _ _ _ (hs.lend (L2 := []))) ?_
                        rintro vD wD ⟨rfl, hz⟩
                        replace hs := hs.regain (L2 := []) hz
                        refine ⟨[_, _], (by exact ⟨⟨_, rfl, Z.rvcA hs Try.isAgg24 (by first | ((repeat (first | exact List.mem_cons_self | refine List.mem_cons_of_mem _ ?_ | refine List.mem_append_right _ ?_)); done) | fail) (by exact Try.sizeOf24)⟩, ⟨_, rfl, Z.rvc hs Try.isAgg27 (by first | ((repeat (first | exact List.mem_cons_self | refine List.mem_cons_of_mem _ ?_ | refine List.mem_append_right _ ?_)); done) | fail) rfl⟩, trivial⟩), ?_⟩
                        exact ⟨_, rfl, Dec.zero (hs.sub (List.nil_sublist _))⟩
                      )
                )
          · first
              | (exfalso; simp at hsp45 <;> omega)
              | (
                refine Z.yes (s := 45) (b := false) rfl hsp45 rfl ?_
                (try simp at hsp45)
                refine Z.tXD 3 [3, 4, 6, 7, 8, 9, 10, 11, 12, 13, 14, 15, 16, 17, 18, 19, 20, 21, 22, 23, 24] (fun _ _ _ _ h => Z.leaves_put (by kernel_rfl) h) rfl rfl rfl (by rfl) (by kernel_rfl) ⟨_, hs, by first | (simp; done) | exact fun e he => List.mem_append_right _ he⟩ (Z.Yd.off (v := undef) 45 true rfl (by first | (simp; done) | (simp_all; done)) (by intro c h; cases h)) ?_
                refine Z.tXD 4 [4, 6, 7, 8, 9, 10, 11, 12, 13, 14, 15, 16, 17, 18, 19, 20, 21, 22, 23, 24] (fun _ _ _ _ h => Z.leaves_put (by kernel_rfl) h) rfl rfl rfl (by rfl) (by kernel_rfl) ⟨_, hs, by first | (simp; done) | exact fun e he => List.mem_append_right _ he⟩ (Z.Yd.off (v := undef) 45 true rfl (by first | (simp; done) | (simp_all; done)) (by intro c h; cases h)) ?_
                refine Z.yes (s := 45) (b := false) rfl rfl rfl ?_
                refine Z.tnSPG 45 true 5 rfl rfl (by kernel_rfl) rfl rfl (by simp) rfl (by rfl) (fun _ => ⟨_, hs, by first | (simp; done) | exact fun e he => List.mem_append_right _ he⟩) ?_
                refine Z.tnSPG 45 true 6 rfl rfl (by kernel_rfl) rfl rfl (by simp) rfl (by rfl) (fun _ => ⟨_, hs, by first | (simp; done) | exact fun e he => List.mem_append_right _ he⟩) ?_
                refine Z.tnP 7 rfl rfl (by kernel_rfl) rfl trivial ?_
                refine Z.ZO.quiet rfl (by rfl) (Z.keepS hs) (Z.Yd.pickF rfl rfl) ?_
                refine Z.tkP (Dn := fun j => j != 24) (i := 7) (fun _ => ⟨_, hs, by first | (simp; done) | exact fun e he => List.mem_append_right _ he⟩) ?_
                refine Z.tnP 8 rfl rfl (by kernel_rfl) rfl trivial ?_
                refine Z.ZO.quiet rfl (by rfl) (Z.keepS hs) (Z.Yd.pure rfl) ?_
                refine Z.tkP (Dn := fun j => j != 24) (i := 8) (fun _ => ⟨_, hs, by first | (simp; done) | exact fun e he => List.mem_append_right _ he⟩) ?_
                refine Z.split (s := 51) rfl (fun hsp51 => ?_) (fun hsp51 => ?_)
                · first
                    | (exfalso; simp at hsp51 <;> omega)
                    | (
                      refine Z.yes (s := 51) (b := true) rfl hsp51 rfl ?_
                      (try simp at hsp51)
                      refine Z.yes (s := 45) (b := false) rfl rfl rfl ?_
                      refine Z.tnP 9 rfl rfl (by kernel_rfl) rfl (by exact ⟨rfl, trivial⟩) ?_
                      refine Z.ZO.quiet rfl (by rfl) (Z.keepS hs) (Z.Yd.pure rfl) ?_
                      refine Z.tkP (Dn := fun j => j != 24) (i := 9) (fun _ => ⟨_, hs, by first | (simp; done) | exact fun e he => List.mem_append_right _ he⟩) ?_
                      refine Z.tnP 10 rfl rfl (by kernel_rfl) rfl (by exact ⟨rfl, trivial⟩) ?_
                      refine Z.ZO.quiet rfl (by rfl) (Z.keepS hs) (Z.Yd.pure rfl) ?_
                      refine Z.tkP (Dn := fun j => j != 24) (i := 10) (fun _ => ⟨_, hs, by first | (simp; done) | exact fun e he => List.mem_append_right _ he⟩) ?_
                      refine Z.tnP 11 rfl rfl (by kernel_rfl) rfl (by exact ⟨rfl, trivial⟩) ?_
                      refine Z.ZO.quiet rfl (by rfl) (Z.keepS hs) (Z.Yd.pure rfl) ?_
                      refine Z.tkP (Dn := fun j => j != 24) (i := 11) (fun _ => ⟨_, hs, by first | (simp; done) | exact fun e he => List.mem_append_right _ he⟩) ?_
                      refine Z.split (s := 54) rfl (fun hsp54 => ?_) (fun hsp54 => ?_)
                      · first
                          | (exfalso; simp at hsp54 <;> omega)
                          | (
                            refine Z.yes (s := 54) (b := true) rfl hsp54 rfl ?_
                            (try simp at hsp54)
                            refine Z.yes (s := 45) (b := false) rfl rfl rfl ?_
                            refine Z.yes (s := 51) (b := true) rfl rfl rfl ?_
                            refine Z.tXD 12 [12, 13, 21, 22, 23, 24] (fun _ _ _ _ h => Z.leaves_put (by kernel_rfl) h) rfl rfl rfl (by rfl) (by kernel_rfl) ⟨_, hs, by first | (simp; done) | exact fun e he => List.mem_append_right _ he⟩ (Z.Yd.off (v := undef) 54 false rfl (by first | (simp; done) | (simp_all; done)) (by intro c h; cases h)) ?_
                            refine Z.tXD 13 [13, 21, 22, 23, 24] (fun _ _ _ _ h => Z.leaves_put (by kernel_rfl) h) rfl rfl rfl (by rfl) (by kernel_rfl) ⟨_, hs, by first | (simp; done) | exact fun e he => List.mem_append_right _ he⟩ (Z.Yd.off (v := undef) 54 false rfl (by first | (simp; done) | (simp_all; done)) (by intro c h; cases h)) ?_
                            refine Z.tXD 14 [14, 15, 18, 19, 21, 22, 23, 24] (fun _ _ _ _ h => Z.leaves_put (by kernel_rfl) h) rfl rfl rfl (by rfl) (by kernel_rfl) ⟨_, hs, by first | (simp; done) | exact fun e he => List.mem_append_right _ he⟩ (Z.Yd.off (v := undef) 54 false rfl (by first | (simp; done) | (simp_all; done)) (by intro c h; cases h)) ?_
                            refine Z.tXD 15 [15, 18, 19, 21, 22, 23, 24] (fun _ _ _ _ h => Z.leaves_put (by kernel_rfl) h) rfl rfl rfl (by rfl) (by kernel_rfl) ⟨_, hs, by first | (simp; done) | exact fun e he => List.mem_append_right _ he⟩ (Z.Yd.off (v := undef) 54 false rfl (by first | (simp; done) | (simp_all; done)) (by intro c h; cases h)) ?_
                            refine Z.tXD 16 [16, 17, 18, 19, 21, 22, 23, 24] (fun _ _ _ _ h => Z.leaves_put (by kernel_rfl) h) rfl rfl rfl (by rfl) (by kernel_rfl) ⟨_, hs, by first | (simp; done) | exact fun e he => List.mem_append_right _ he⟩ (Z.Yd.off (v := undef) 54 false rfl (by first | (simp; done) | (simp_all; done)) (by intro c h; cases h)) ?_
                            refine Z.tXD 17 [17, 18, 19, 21, 22, 23, 24] (fun _ _ _ _ h => Z.leaves_put (by kernel_rfl) h) rfl rfl rfl (by rfl) (by kernel_rfl) ⟨_, hs, by first | (simp; done) | exact fun e he => List.mem_append_right _ he⟩ (Z.Yd.off (v := undef) 54 false rfl (by first | (simp; done) | (simp_all; done)) (by intro c h; cases h)) ?_
                            refine Z.tXD 18 [18, 19, 21, 22, 23, 24] (fun _ _ _ _ h => Z.leaves_put (by kernel_rfl) h) rfl rfl rfl (by rfl) (by kernel_rfl) ⟨_, hs, by first | (simp; done) | exact fun e he => List.mem_append_right _ he⟩ (Z.Yd.off (v := undef) 54 false rfl (by first | (simp; done) | (simp_all; done)) (by intro c h; cases h)) ?_
                            refine Z.tXD 19 [19, 21, 22, 23, 24] (fun _ _ _ _ h => Z.leaves_put (by kernel_rfl) h) rfl rfl rfl (by rfl) (by kernel_rfl) ⟨_, hs, by first | (simp; done) | exact fun e he => List.mem_append_right _ he⟩ (Z.Yd.off (v := undef) 54 false rfl (by first | (simp; done) | (simp_all; done)) (by intro c h; cases h)) ?_
                            refine Z.yes (s := 45) (b := false) rfl rfl rfl ?_
                            refine Z.yes (s := 51) (b := true) rfl rfl rfl ?_
                            refine Z.yes (s := 54) (b := true) rfl rfl rfl ?_
                            refine Z.tnSPG 54 false 20 rfl rfl (by kernel_rfl) rfl rfl (by simp) rfl (by rfl) (fun _ => ⟨_, hs, by first | (simp; done) | exact fun e he => List.mem_append_right _ he⟩) ?_
                            refine Z.tnSPG 54 false 21 rfl rfl (by kernel_rfl) rfl rfl (by simp) rfl (by rfl) (fun _ => ⟨_, hs, by first | (simp; done) | exact fun e he => List.mem_append_right _ he⟩) ?_
                            refine Z.tnP 22 rfl rfl (by kernel_rfl) rfl (by exact ⟨rfl, trivial⟩) ?_
                            refine Z.ZO.quiet rfl (by rfl) (Z.keepS hs) (Z.Yd.pickT rfl rfl) ?_
                            refine Z.tkP (Dn := fun j => j != 24) (i := 22) (fun _ => ⟨_, hs, by first | (simp; done) | exact fun e he => List.mem_append_right _ he⟩) ?_
                            refine Z.tXD 23 [23, 24] (fun _ _ _ _ h => Z.leaves_put (by kernel_rfl) h) rfl rfl rfl (by rfl) (by kernel_rfl) ⟨_, hs, by first | (simp; done) | exact fun e he => List.mem_append_right _ he⟩ (Z.Yd.pickT rfl rfl) ?_
                            refine Z.tnP 24 rfl rfl (by kernel_rfl) rfl trivial ?_
                            refine Z.ZO.callB rfl rfl (by rfl) rfl rfl Try.call42 rfl (must_any _ 9 _) ?_ ?_
                            · skip
                              rintro v11_24 w11_24 ⟨hb11, rfl, hy⟩
                              replace hs := hs.call hy
                              clear hy
                              try simp only [List.cons_append, List.nil_append, List.append_nil] at hs
                              have h5 : acc.length < 512 := by first | omega | (simp at hb11 <;> omega)
                              have hok : okNext v1 acc (nkAt l a) = true := by
                                first
                                | (exfalso; simp at hb11 <;> omega)
                                | (unfold okNext; simp_all; done)
                              rw [if_pos hok] at hgo
                              refine Z.tkP (Dn := fun j => j != 24) (i := 24) (fun h => absurd h (by decide)) ?_
                              refine Z.tdP (by rfl) (by kernel_rfl) ?_
                              refine Z.only [2, 3, 4, 6, 7] rfl ?_
                              refine Z.nthen ?_
                              refine Z.region ?_
                              refine Z.l rfl rfl (by rfl) (Z.keepS hs) (Z.Yd.fieldA (m := 1) rfl (by kernel_rfl)) ?_
                              refine Z.l rfl rfl (by rfl) (Z.keepS hs) (by first | exact Z.Yd.load rfl Try.isAgg22 (fun _ => Z.cellB (by first | ((repeat (first | exact List.mem_cons_self | refine List.mem_cons_of_mem _ ?_ | refine List.mem_append_right _ ?_)); done) | fail) rfl) | exact Z.Yd.load rfl Try.isAgg22 (fun _ => Z.cellO (by assumption) (by simp) (by assumption)) | fail "load 12.1") ?_
                              refine Z.l rfl rfl (by rfl) (Z.keepS hs) (by first | exact Z.Yd.loadA _ rfl Try.isAgg45 (fun _ => Z.cellsB (by first | ((repeat (first | exact List.mem_cons_self | refine List.mem_cons_of_mem _ ?_ | refine List.mem_append_right _ ?_)); done) | fail)) (by exact Try.sizeOf45) | fail "load 12.2") ?_
                              refine Z.le rfl trivial ?_
                              refine Z.ZO.litL (T' := 45) [(0, 4)] [.int .i64 0, .bool false, .int .i64 0, .int .i64 0] rfl rfl (by rfl) rfl rfl (by intro W; kernel_rfl) hs ?_
                              clear hs; intro g71 w71 hs
                              refine Z.le rfl trivial ?_
                              refine Z.ZO.append (i0 := Try.t45) (size := 4) (bytes := 32) rfl rfl (by rfl) hs Try.underlying22 (by kernel_rfl) rfl rfl rfl rfl (by decide) rfl rfl (by first | exact SX.at0 | exact SX.at1 | exact SX.at2 | exact SX.at3 | exact SX.at4 | exact SX.at5 | exact Z.at6 | exact Z.at7 | exact Z.at8 | exact Z.at9 | exact Z.at10 | exact Z.at11 | exact Z.at12) (by first | exact SX.at0 | exact SX.at1 | exact SX.at2 | exact SX.at3 | exact SX.at4 | exact SX.at5 | exact Z.at6 | exact Z.at7 | exact Z.at8 | exact Z.at9 | exact Z.at10 | exact Z.at11 | exact Z.at12) (by first | rfl | simp) (by simp [Value.oneCell']) (by decide) (by unfold maxLen; omega) (by omega) ?_
                              clear hs; intro g72 cap72 w72 hs
                              simp only [List.set_cons_zero, List.set_cons_succ, List.eraseIdx_cons_zero, List.eraseIdx_cons_succ] at hs
                              refine Z.l rfl rfl (by rfl) (Z.keepS hs) (Z.Yd.fieldA (m := 1) rfl (by kernel_rfl)) ?_
                              refine Z.le rfl trivial ?_
                              first | refine Z.ZO.store rfl rfl hs Try.sizeOf22 rfl rfl rfl (by first | exact SX.at0 | exact SX.at1 | exact SX.at2 | exact SX.at3 | exact SX.at4 | exact SX.at5 | exact Z.at6 | exact Z.at7 | exact Z.at8 | exact Z.at9 | exact Z.at10 | exact Z.at11 | exact Z.at12) (by first | (simp; done) | (simp; omega)) ?_ | refine Z.ZO.storeR rfl rfl hs Try.sizeOf22 rfl rfl rfl (by first | exact SX.at0 | exact SX.at1 | exact SX.at2 | exact SX.at3 | exact SX.at4 | exact SX.at5 | exact Z.at6 | exact Z.at7 | exact Z.at8 | exact Z.at9 | exact Z.at10 | exact Z.at11 | exact Z.at12) (by first | omega | (simp [ints_length]; done) | (simp [ints_length]; omega)) ?_
                              clear hs; intro ws hs
                              simp only [Nat.zero_add, Nat.add_zero, Nat.reduceAdd, Int.reduceToNat, Nat.reduceMul, List.set_cons_zero, List.set_cons_succ, List.setIfInBounds_toArray] at hs
                              refine Z.lnil ?_
                              refine Z.only [2, 3, 4, 6] rfl ?_
                              refine Z.nblock ?_
                              refine Z.nthen ?_
                              have el : (acc ++ [nkAt l a]).length = acc.length + 1 := by simp
                              have hi1 : (if moreAt l a = true then 1 else 0) ≤ 1 := by split <;> omega
                              have ef : (acc ++ [nkAt l a]).flatMap NkV.cells = acc.flatMap NkV.cells ++ (nkAt l a).cells := by simp
                              exact Z.again (nkA l a, acc ++ [nkAt l a], _, moreAt l a) (by refine ⟨?_, ?_, ?_, ?_, trivial⟩ <;> (first | rfl | (refine Z.lookv rfl ?_; simp; done) | (refine Z.lookv rfl ?_; simp; omega))) ⟨⟨by simp only; omega, by simp only; omega, f, by simp only; omega, hgo⟩, by rw [el, ef]; exact hs.sel [0, 1, 3, 4, 5, 6] (by decide)⟩ (by simp only; omega)
                            · skip
                              rintro c11_24 w11_24 ⟨hb11, rfl, hy⟩
                              replace hs := hs.call hy
                              clear hy
                              try simp only [List.cons_append, List.nil_append, List.append_nil] at hs
                              have hok : okNext v1 acc (nkAt l a) = false := by
                                unfold okNext
                                first
                                | (have h5 : ¬ acc.length < 512 := by omega
                                   simp [h5]; done)
                                | (have h5 : acc.length < 512 := by omega
                                   simp_all; done)
                              rw [if_neg (by rw [hok]; decide)] at hgo
                              subst hgo
                              replace hs := hs.sel [5, 6] (by decide)
                              repeat (first | refine Z.pthen ?_ | refine Z.pblock ?_ | refine Z.pscope ?_)
                              -- ret#3
                              refine Z.outDp Try.call38 (dec1_pan g2 g3 _ _ _ _ _ _ _ (hs.lend (L2 := []))) ?_
                              rintro vD wD ⟨rfl, hz⟩
                              replace hs := hs.regain (L2 := []) hz
                              refine ⟨[_, _], (by exact ⟨⟨_, rfl, Z.rvcA hs Try.isAgg24 (by first | ((repeat (first | exact List.mem_cons_self | refine List.mem_cons_of_mem _ ?_ | refine List.mem_append_right _ ?_)); done) | fail) (by exact Try.sizeOf24)⟩, ⟨_, rfl, Z.rvc hs Try.isAgg27 (by first | ((repeat (first | exact List.mem_cons_self | refine List.mem_cons_of_mem _ ?_ | refine List.mem_append_right _ ?_)); done) | fail) rfl⟩, trivial⟩), ?_⟩
                              exact ⟨_, rfl, Dec.zero (hs.sub (List.nil_sublist _))⟩
                            )
                      · first
                          | (exfalso; simp at hsp54 <;> omega)
                          | (
                            refine Z.yes (s := 54) (b := false) rfl hsp54 rfl ?_
                            (try simp at hsp54)
                            have hne : acc.length ≠ 0 := by intro h0; simp_all
                            obtain ⟨p, hp⟩ := last_at hne
                            obtain ⟨ga, ca2, e2, -, -⟩ := row_form (j := 3) hs rfl (Nat.pos_of_ne_zero hne)
                            cases e2
                            have hk1 : ((acc.length : Int) - 1) = ((acc.length - 1 : Nat) : Int) := by omega
                            refine Z.yes (s := 45) (b := false) rfl rfl rfl ?_
                            refine Z.yes (s := 51) (b := true) rfl rfl rfl ?_
                            refine Z.tXD 12 [12, 13, 21, 22, 23, 24] (fun _ _ _ _ h => Z.leaves_put (by kernel_rfl) h) rfl rfl rfl (by rfl) (by kernel_rfl) ⟨_, hs, by first | (simp; done) | exact fun e he => List.mem_append_right _ he⟩ (Z.Yd.fieldA (m := 0) rfl (by kernel_rfl)) ?_
                            refine Z.tXD 13 [13, 21, 22, 23, 24] (fun _ _ _ _ h => Z.leaves_put (by kernel_rfl) h) rfl rfl rfl (by rfl) (by kernel_rfl) ⟨_, hs, by first | (simp; done) | exact fun e he => List.mem_append_right _ he⟩ (by first | exact Z.Yd.load rfl Try.isAgg3 (fun _ => Z.cellB (by first | ((repeat (first | exact List.mem_cons_self | refine List.mem_cons_of_mem _ ?_ | refine List.mem_append_right _ ?_)); done) | fail) rfl) | exact Z.Yd.load rfl Try.isAgg3 (fun _ => Z.cellO (by assumption) (by simp) (by assumption)) | fail "load 11.13") ?_
                            refine Z.tXD 14 [14, 15, 18, 19, 21, 22, 23, 24] (fun _ _ _ _ h => Z.leaves_put (by kernel_rfl) h) rfl rfl rfl (by rfl) (by kernel_rfl) ⟨_, hs, by first | (simp; done) | exact fun e he => List.mem_append_right _ he⟩ (Z.Yd.fieldA (m := 1) rfl (by kernel_rfl)) ?_
                            refine Z.tXD 15 [15, 18, 19, 21, 22, 23, 24] (fun _ _ _ _ h => Z.leaves_put (by kernel_rfl) h) rfl rfl rfl (by rfl) (by kernel_rfl) ⟨_, hs, by first | (simp; done) | exact fun e he => List.mem_append_right _ he⟩ (by first | exact Z.Yd.load rfl Try.isAgg22 (fun _ => Z.cellB (by first | ((repeat (first | exact List.mem_cons_self | refine List.mem_cons_of_mem _ ?_ | refine List.mem_append_right _ ?_)); done) | fail) rfl) | exact Z.Yd.load rfl Try.isAgg22 (fun _ => Z.cellO (by assumption) (by simp) (by assumption)) | fail "load 11.15") ?_
                            refine Z.tXD 16 [16, 17, 18, 19, 21, 22, 23, 24] (fun _ _ _ _ h => Z.leaves_put (by kernel_rfl) h) rfl rfl rfl (by rfl) (by kernel_rfl) ⟨_, hs, by first | (simp; done) | exact fun e he => List.mem_append_right _ he⟩ (Z.Yd.pure rfl) ?_
                            refine Z.tXD 17 [17, 18, 19, 21, 22, 23, 24] (fun _ _ _ _ h => Z.leaves_put (by kernel_rfl) h) rfl rfl rfl (by rfl) (by kernel_rfl) ⟨_, hs, by first | (simp; done) | exact fun e he => List.mem_append_right _ he⟩ (Z.Yd.sub rfl rfl (fun hG => Z.wi64 (by first | omega | (have hG' := Z.gh rfl hG; simp at hG'; omega)))) ?_
                            refine Z.tXD 18 [18, 19, 21, 22, 23, 24] (fun _ _ _ _ h => Z.leaves_put (by kernel_rfl) h) rfl rfl rfl (by rfl) (by kernel_rfl) ⟨_, hs, by first | (simp; done) | exact fun e he => List.mem_append_right _ he⟩ (Z.Yd.elem rfl rfl Try.underlying22 Try.sizeOf45 (fun hG => ⟨(by first | omega | (have hG' := Z.gh rfl hG; simp at hG'; omega)), (by first | omega | (have hG' := Z.gh rfl hG; simp at hG'; omega))⟩)) ?_
                            refine Z.tXD 19 [19, 21, 22, 23, 24] (fun _ _ _ _ h => Z.leaves_put (by kernel_rfl) h) rfl rfl rfl (by rfl) (by kernel_rfl) ⟨_, hs, by first | (simp; done) | exact fun e he => List.mem_append_right _ he⟩ (Z.Yd.loadA _ rfl Try.isAgg45 (fun _ => hk1 ▸ Z.cellsRf (by first | ((repeat (first | exact List.mem_cons_self | refine List.mem_cons_of_mem _ ?_ | refine List.mem_append_right _ ?_)); done) | fail) nk_len hp rfl) (by exact Try.sizeOf45)) ?_
                            refine Z.yes (s := 45) (b := false) rfl rfl rfl ?_
                            refine Z.yes (s := 51) (b := true) rfl rfl rfl ?_
                            refine Z.yes (s := 54) (b := false) rfl rfl rfl ?_
                            refine Z.tnP 20 rfl rfl (by kernel_rfl) rfl (by exact ⟨rfl, trivial⟩) ?_
                            refine Z.ZO.quiet rfl (by rfl) (Z.keepS hs) (Z.Yd.loadA _ rfl Try.isAgg45 (fun _ => Z.cellsB (cs := (nkAt l a).cells) (by first | ((repeat (first | exact List.mem_cons_self | refine List.mem_cons_of_mem _ ?_ | refine List.mem_append_right _ ?_)); done) | fail)) (by exact Try.sizeOf45)) ?_
                            refine Z.tkP (Dn := fun j => j != 24) (i := 20) (fun _ => ⟨_, hs, by first | (simp; done) | exact fun e he => List.mem_append_right _ he⟩) ?_
                            refine Z.tnP 21 rfl rfl (by kernel_rfl) rfl (by exact ⟨rfl, trivial⟩) ?_
                            refine Z.ZO.call rfl rfl (by rfl) rfl rfl Try.call34 rfl (follows_any v1 p (nkAt l a) _) ?_
                            rintro v11_21 w11_21 ⟨rfl, hy⟩
                            replace hs := hs.call hy
                            clear hy
                            try simp only [List.cons_append, List.nil_append, List.append_nil] at hs
                            refine Z.tkP (Dn := fun j => j != 24) (i := 21) (fun _ => ⟨_, hs, by first | (simp; done) | exact fun e he => List.mem_append_right _ he⟩) ?_
                            refine Z.tnP 22 rfl rfl (by kernel_rfl) rfl (by exact ⟨rfl, trivial⟩) ?_
                            refine Z.ZO.quiet rfl (by rfl) (Z.keepS hs) (Z.Yd.pickF rfl rfl) ?_
                            refine Z.tkP (Dn := fun j => j != 24) (i := 22) (fun _ => ⟨_, hs, by first | (simp; done) | exact fun e he => List.mem_append_right _ he⟩) ?_
                            refine Z.tXD 23 [23, 24] (fun _ _ _ _ h => Z.leaves_put (by kernel_rfl) h) rfl rfl rfl (by rfl) (by kernel_rfl) ⟨_, hs, by first | (simp; done) | exact fun e he => List.mem_append_right _ he⟩ (Z.Yd.pickT rfl rfl) ?_
                            refine Z.tnP 24 rfl rfl (by kernel_rfl) rfl trivial ?_
                            refine Z.ZO.callB rfl rfl (by rfl) rfl rfl Try.call42 rfl (must_any _ 9 _) ?_ ?_
                            · skip
                              rintro v11_24 w11_24 ⟨hb11, rfl, hy⟩
                              replace hs := hs.call hy
                              clear hy
                              try simp only [List.cons_append, List.nil_append, List.append_nil] at hs
                              have h5 : acc.length < 512 := by first | omega | (simp at hb11 <;> omega)
                              have hok : okNext v1 acc (nkAt l a) = true := by
                                first
                                | (exfalso; simp at hb11 <;> omega)
                                | (unfold okNext; simp_all; done)
                              rw [if_pos hok] at hgo
                              refine Z.tkP (Dn := fun j => j != 24) (i := 24) (fun h => absurd h (by decide)) ?_
                              refine Z.tdP (by rfl) (by kernel_rfl) ?_
                              refine Z.only [2, 3, 4, 6, 7] rfl ?_
                              refine Z.nthen ?_
                              refine Z.region ?_
                              refine Z.l rfl rfl (by rfl) (Z.keepS hs) (Z.Yd.fieldA (m := 1) rfl (by kernel_rfl)) ?_
                              refine Z.l rfl rfl (by rfl) (Z.keepS hs) (by first | exact Z.Yd.load rfl Try.isAgg22 (fun _ => Z.cellB (by first | ((repeat (first | exact List.mem_cons_self | refine List.mem_cons_of_mem _ ?_ | refine List.mem_append_right _ ?_)); done) | fail) rfl) | exact Z.Yd.load rfl Try.isAgg22 (fun _ => Z.cellO (by assumption) (by simp) (by assumption)) | fail "load 12.1") ?_
                              refine Z.l rfl rfl (by rfl) (Z.keepS hs) (by first | exact Z.Yd.loadA _ rfl Try.isAgg45 (fun _ => Z.cellsB (by first | ((repeat (first | exact List.mem_cons_self | refine List.mem_cons_of_mem _ ?_ | refine List.mem_append_right _ ?_)); done) | fail)) (by exact Try.sizeOf45) | fail "load 12.2") ?_
                              refine Z.le rfl trivial ?_
                              refine Z.ZO.litL (T' := 45) [(0, 4)] [.int .i64 0, .bool false, .int .i64 0, .int .i64 0] rfl rfl (by rfl) rfl rfl (by intro W; kernel_rfl) hs ?_
                              clear hs; intro g71 w71 hs
                              refine Z.le rfl trivial ?_
                              refine Z.ZO.append (i0 := Try.t45) (size := 4) (bytes := 32) rfl rfl (by rfl) hs Try.underlying22 (by kernel_rfl) rfl rfl rfl rfl (by decide) rfl rfl (by first | exact SX.at0 | exact SX.at1 | exact SX.at2 | exact SX.at3 | exact SX.at4 | exact SX.at5 | exact Z.at6 | exact Z.at7 | exact Z.at8 | exact Z.at9 | exact Z.at10 | exact Z.at11 | exact Z.at12) (by first | exact SX.at0 | exact SX.at1 | exact SX.at2 | exact SX.at3 | exact SX.at4 | exact SX.at5 | exact Z.at6 | exact Z.at7 | exact Z.at8 | exact Z.at9 | exact Z.at10 | exact Z.at11 | exact Z.at12) (by first | rfl | simp) (by simp [Value.oneCell']) (by decide) (by unfold maxLen; omega) (by omega) ?_
                              clear hs; intro g72 cap72 w72 hs
                              simp only [List.set_cons_zero, List.set_cons_succ, List.eraseIdx_cons_zero, List.eraseIdx_cons_succ] at hs
                              refine Z.l rfl rfl (by rfl) (Z.keepS hs) (Z.Yd.fieldA (m := 1) rfl (by kernel_rfl)) ?_
                              refine Z.le rfl trivial ?_
                              first | refine Z.ZO.store rfl rfl hs Try.sizeOf22 rfl rfl rfl (by first | exact SX.at0 | exact SX.at1 | exact SX.at2 | exact SX.at3 | exact SX.at4 | exact SX.at5 | exact Z.at6 | exact Z.at7 | exact Z.at8 | exact Z.at9 | exact Z.at10 | exact Z.at11 | exact Z.at12) (by first | (simp; done) | (simp; omega)) ?_ | refine Z.ZO.storeR rfl rfl hs Try.sizeOf22 rfl rfl rfl (by first | exact SX.at0 | exact SX.at1 | exact SX.at2 | exact SX.at3 | exact SX.at4 | exact SX.at5 | exact Z.at6 | exact Z.at7 | exact Z.at8 | exact Z.at9 | exact Z.at10 | exact Z.at11 | exact Z.at12) (by first | omega | (simp [ints_length]; done) | (simp [ints_length]; omega)) ?_
                              clear hs; intro ws hs
                              simp only [Nat.zero_add, Nat.add_zero, Nat.reduceAdd, Int.reduceToNat, Nat.reduceMul, List.set_cons_zero, List.set_cons_succ, List.setIfInBounds_toArray] at hs
                              refine Z.lnil ?_
                              refine Z.only [2, 3, 4, 6] rfl ?_
                              refine Z.nblock ?_
                              refine Z.nthen ?_
                              have el : (acc ++ [nkAt l a]).length = acc.length + 1 := by simp
                              have hi1 : (if moreAt l a = true then 1 else 0) ≤ 1 := by split <;> omega
                              have ef : (acc ++ [nkAt l a]).flatMap NkV.cells = acc.flatMap NkV.cells ++ (nkAt l a).cells := by simp
                              exact Z.again (nkA l a, acc ++ [nkAt l a], _, moreAt l a) (by refine ⟨?_, ?_, ?_, ?_, trivial⟩ <;> (first | rfl | (refine Z.lookv rfl ?_; simp; done) | (refine Z.lookv rfl ?_; simp; omega))) ⟨⟨by simp only; omega, by simp only; omega, f, by simp only; omega, hgo⟩, by rw [el, ef]; exact hs.sel [0, 1, 3, 4, 5, 6] (by decide)⟩ (by simp only; omega)
                            · skip
                              rintro c11_24 w11_24 ⟨hb11, rfl, hy⟩
                              replace hs := hs.call hy
                              clear hy
                              try simp only [List.cons_append, List.nil_append, List.append_nil] at hs
                              have hok : okNext v1 acc (nkAt l a) = false := by
                                unfold okNext
                                first
                                | (have h5 : ¬ acc.length < 512 := by omega
                                   simp [h5]; done)
                                | (have h5 : acc.length < 512 := by omega
                                   simp_all; done)
                              rw [if_neg (by rw [hok]; decide)] at hgo
                              subst hgo
                              replace hs := hs.sel [5, 6] (by decide)
                              repeat (first | refine Z.pthen ?_ | refine Z.pblock ?_ | refine Z.pscope ?_)
                              -- ret#4
                              refine Z.outDp Try.call38 (dec1_pan g2 g3 _ _ _ _ _ _ _ (hs.lend (L2 := []))) ?_
                              rintro vD wD ⟨rfl, hz⟩
                              replace hs := hs.regain (L2 := []) hz
                              refine ⟨[_, _], (by exact ⟨⟨_, rfl, Z.rvcA hs Try.isAgg24 (by first | ((repeat (first | exact List.mem_cons_self | refine List.mem_cons_of_mem _ ?_ | refine List.mem_append_right _ ?_)); done) | fail) (by exact Try.sizeOf24)⟩, ⟨_, rfl, Z.rvc hs Try.isAgg27 (by first | ((repeat (first | exact List.mem_cons_self | refine List.mem_cons_of_mem _ ?_ | refine List.mem_append_right _ ?_)); done) | fail) rfl⟩, trivial⟩), ?_⟩
                              exact ⟨_, rfl, Dec.zero (hs.sub (List.nil_sublist _))⟩
                            )
                      )
                · first
                    | (exfalso; simp at hsp51 <;> omega)
                    | (
                      refine Z.yes (s := 51) (b := false) rfl hsp51 rfl ?_
                      (try simp at hsp51)
                      refine Z.yes (s := 45) (b := false) rfl rfl rfl ?_
                      refine Z.tnSPG 51 true 9 rfl rfl (by kernel_rfl) rfl rfl (by simp) rfl (by rfl) (fun _ => ⟨_, hs, by first | (simp; done) | exact fun e he => List.mem_append_right _ he⟩) ?_
                      refine Z.tnSPG 51 true 10 rfl rfl (by kernel_rfl) rfl rfl (by simp) rfl (by rfl) (fun _ => ⟨_, hs, by first | (simp; done) | exact fun e he => List.mem_append_right _ he⟩) ?_
                      refine Z.tnSPG 51 true 11 rfl rfl (by kernel_rfl) rfl rfl (by simp) rfl (by rfl) (fun _ => ⟨_, hs, by first | (simp; done) | exact fun e he => List.mem_append_right _ he⟩) ?_
                      refine Z.tXD 12 [12, 13, 21, 22, 23, 24] (fun _ _ _ _ h => Z.leaves_put (by kernel_rfl) h) rfl rfl rfl (by rfl) (by kernel_rfl) ⟨_, hs, by first | (simp; done) | exact fun e he => List.mem_append_right _ he⟩ (Z.Yd.off (v := undef) 51 true rfl (by first | (simp; done) | (simp_all; done)) (by intro c h; cases h)) ?_
                      refine Z.tXD 13 [13, 21, 22, 23, 24] (fun _ _ _ _ h => Z.leaves_put (by kernel_rfl) h) rfl rfl rfl (by rfl) (by kernel_rfl) ⟨_, hs, by first | (simp; done) | exact fun e he => List.mem_append_right _ he⟩ (Z.Yd.off (v := undef) 51 true rfl (by first | (simp; done) | (simp_all; done)) (by intro c h; cases h)) ?_
                      refine Z.tXD 14 [14, 15, 18, 19, 21, 22, 23, 24] (fun _ _ _ _ h => Z.leaves_put (by kernel_rfl) h) rfl rfl rfl (by rfl) (by kernel_rfl) ⟨_, hs, by first | (simp; done) | exact fun e he => List.mem_append_right _ he⟩ (Z.Yd.off (v := undef) 51 true rfl (by first | (simp; done) | (simp_all; done)) (by intro c h; cases h)) ?_
                      refine Z.tXD 15 [15, 18, 19, 21, 22, 23, 24] (fun _ _ _ _ h => Z.leaves_put (by kernel_rfl) h) rfl rfl rfl (by rfl) (by kernel_rfl) ⟨_, hs, by first | (simp; done) | exact fun e he => List.mem_append_right _ he⟩ (Z.Yd.off (v := undef) 51 true rfl (by first | (simp; done) | (simp_all; done)) (by intro c h; cases h)) ?_
                      refine Z.tXD 16 [16, 17, 18, 19, 21, 22, 23, 24] (fun _ _ _ _ h => Z.leaves_put (by kernel_rfl) h) rfl rfl rfl (by rfl) (by kernel_rfl) ⟨_, hs, by first | (simp; done) | exact fun e he => List.mem_append_right _ he⟩ (Z.Yd.off (v := undef) 51 true rfl (by first | (simp; done) | (simp_all; done)) (by intro c h; cases h)) ?_
                      refine Z.tXD 17 [17, 18, 19, 21, 22, 23, 24] (fun _ _ _ _ h => Z.leaves_put (by kernel_rfl) h) rfl rfl rfl (by rfl) (by kernel_rfl) ⟨_, hs, by first | (simp; done) | exact fun e he => List.mem_append_right _ he⟩ (Z.Yd.off (v := undef) 51 true rfl (by first | (simp; done) | (simp_all; done)) (by intro c h; cases h)) ?_
                      refine Z.tXD 18 [18, 19, 21, 22, 23, 24] (fun _ _ _ _ h => Z.leaves_put (by kernel_rfl) h) rfl rfl rfl (by rfl) (by kernel_rfl) ⟨_, hs, by first | (simp; done) | exact fun e he => List.mem_append_right _ he⟩ (Z.Yd.off (v := undef) 51 true rfl (by first | (simp; done) | (simp_all; done)) (by intro c h; cases h)) ?_
                      refine Z.tXD 19 [19, 21, 22, 23, 24] (fun _ _ _ _ h => Z.leaves_put (by kernel_rfl) h) rfl rfl rfl (by rfl) (by kernel_rfl) ⟨_, hs, by first | (simp; done) | exact fun e he => List.mem_append_right _ he⟩ (Z.Yd.off (v := undef) 51 true rfl (by first | (simp; done) | (simp_all; done)) (by intro c h; cases h)) ?_
                      refine Z.tnSPG 51 true 20 rfl rfl (by kernel_rfl) rfl rfl (by simp) rfl (by rfl) (fun _ => ⟨_, hs, by first | (simp; done) | exact fun e he => List.mem_append_right _ he⟩) ?_
                      refine Z.tnSPG 51 true 21 rfl rfl (by kernel_rfl) rfl rfl (by simp) rfl (by rfl) (fun _ => ⟨_, hs, by first | (simp; done) | exact fun e he => List.mem_append_right _ he⟩) ?_
                      refine Z.tnSPG 51 true 22 rfl rfl (by kernel_rfl) rfl rfl (by simp) rfl (by rfl) (fun _ => ⟨_, hs, by first | (simp; done) | exact fun e he => List.mem_append_right _ he⟩) ?_
                      refine Z.tXD 23 [23, 24] (fun _ _ _ _ h => Z.leaves_put (by kernel_rfl) h) rfl rfl rfl (by rfl) (by kernel_rfl) ⟨_, hs, by first | (simp; done) | exact fun e he => List.mem_append_right _ he⟩ (Z.Yd.pickF rfl rfl) ?_
                      refine Z.tnP 24 rfl rfl (by kernel_rfl) rfl trivial ?_
                      refine Z.ZO.callB rfl rfl (by rfl) rfl rfl Try.call42 rfl (must_any _ 9 _) ?_ ?_
                      · skip
                        rintro v11_24 w11_24 ⟨hb11, rfl, hy⟩
                        replace hs := hs.call hy
                        clear hy
                        try simp only [List.cons_append, List.nil_append, List.append_nil] at hs
                        have h5 : acc.length < 512 := by first | omega | (simp at hb11 <;> omega)
                        have hok : okNext v1 acc (nkAt l a) = true := by
                          first
                          | (exfalso; simp at hb11 <;> omega)
                          | (unfold okNext; simp_all; done)
                        rw [if_pos hok] at hgo
                        refine Z.tkP (Dn := fun j => j != 24) (i := 24) (fun h => absurd h (by decide)) ?_
                        refine Z.tdP (by rfl) (by kernel_rfl) ?_
                        refine Z.only [2, 3, 4, 6, 7] rfl ?_
                        refine Z.nthen ?_
                        refine Z.region ?_
                        refine Z.l rfl rfl (by rfl) (Z.keepS hs) (Z.Yd.fieldA (m := 1) rfl (by kernel_rfl)) ?_
                        refine Z.l rfl rfl (by rfl) (Z.keepS hs) (by first | exact Z.Yd.load rfl Try.isAgg22 (fun _ => Z.cellB (by first | ((repeat (first | exact List.mem_cons_self | refine List.mem_cons_of_mem _ ?_ | refine List.mem_append_right _ ?_)); done) | fail) rfl) | exact Z.Yd.load rfl Try.isAgg22 (fun _ => Z.cellO (by assumption) (by simp) (by assumption)) | fail "load 12.1") ?_
                        refine Z.l rfl rfl (by rfl) (Z.keepS hs) (by first | exact Z.Yd.loadA _ rfl Try.isAgg45 (fun _ => Z.cellsB (by first | ((repeat (first | exact List.mem_cons_self | refine List.mem_cons_of_mem _ ?_ | refine List.mem_append_right _ ?_)); done) | fail)) (by exact Try.sizeOf45) | fail "load 12.2") ?_
                        refine Z.le rfl trivial ?_
                        refine Z.ZO.litL (T' := 45) [(0, 4)] [.int .i64 0, .bool false, .int .i64 0, .int .i64 0] rfl rfl (by rfl) rfl rfl (by intro W; kernel_rfl) hs ?_
                        clear hs; intro g71 w71 hs
                        refine Z.le rfl trivial ?_
                        refine Z.ZO.append (i0 := Try.t45) (size := 4) (bytes := 32) rfl rfl (by rfl) hs Try.underlying22 (by kernel_rfl) rfl rfl rfl rfl (by decide) rfl rfl (by first | exact SX.at0 | exact SX.at1 | exact SX.at2 | exact SX.at3 | exact SX.at4 | exact SX.at5 | exact Z.at6 | exact Z.at7 | exact Z.at8 | exact Z.at9 | exact Z.at10 | exact Z.at11 | exact Z.at12) (by first | exact SX.at0 | exact SX.at1 | exact SX.at2 | exact SX.at3 | exact SX.at4 | exact SX.at5 | exact Z.at6 | exact Z.at7 | exact Z.at8 | exact Z.at9 | exact Z.at10 | exact Z.at11 | exact Z.at12) (by first | rfl | simp) (by simp [Value.oneCell']) (by decide) (by unfold maxLen; omega) (by omega) ?_
                        clear hs; intro g72 cap72 w72 hs
                        simp only [List.set_cons_zero, List.set_cons_succ, List.eraseIdx_cons_zero, List.eraseIdx_cons_succ] at hs
                        refine Z.l rfl rfl (by rfl) (Z.keepS hs) (Z.Yd.fieldA (m := 1) rfl (by kernel_rfl)) ?_
                        refine Z.le rfl trivial ?_
                        first | refine Z.ZO.store rfl rfl hs Try.sizeOf22 rfl rfl rfl (by first | exact SX.at0 | exact SX.at1 | exact SX.at2 | exact SX.at3 | exact SX.at4 | exact SX.at5 | exact Z.at6 | exact Z.at7 | exact Z.at8 | exact Z.at9 | exact Z.at10 | exact Z.at11 | exact Z.at12) (by first | (simp; done) | (simp; omega)) ?_ | refine Z.ZO.storeR rfl rfl hs Try.sizeOf22 rfl rfl rfl (by first | exact SX.at0 | exact SX.at1 | exact SX.at2 | exact SX.at3 | exact SX.at4 | exact SX.at5 | exact Z.at6 | exact Z.at7 | exact Z.at8 | exact Z.at9 | exact Z.at10 | exact Z.at11 | exact Z.at12) (by first | omega | (simp [ints_length]; done) | (simp [ints_length]; omega)) ?_
                        clear hs; intro ws hs
                        simp only [Nat.zero_add, Nat.add_zero, Nat.reduceAdd, Int.reduceToNat, Nat.reduceMul, List.set_cons_zero, List.set_cons_succ, List.setIfInBounds_toArray] at hs
                        refine Z.lnil ?_
                        refine Z.only [2, 3, 4, 6] rfl ?_
                        refine Z.nblock ?_
                        refine Z.nthen ?_
                        have el : (acc ++ [nkAt l a]).length = acc.length + 1 := by simp
                        have hi1 : (if moreAt l a = true then 1 else 0) ≤ 1 := by split <;> omega
                        have ef : (acc ++ [nkAt l a]).flatMap NkV.cells = acc.flatMap NkV.cells ++ (nkAt l a).cells := by simp
                        exact Z.again (nkA l a, acc ++ [nkAt l a], _, moreAt l a) (by refine ⟨?_, ?_, ?_, ?_, trivial⟩ <;> (first | rfl | (refine Z.lookv rfl ?_; simp; done) | (refine Z.lookv rfl ?_; simp; omega))) ⟨⟨by simp only; omega, by simp only; omega, f, by simp only; omega, hgo⟩, by rw [el, ef]; exact hs.sel [0, 1, 3, 4, 5, 6] (by decide)⟩ (by simp only; omega)
                      · skip
                        rintro c11_24 w11_24 ⟨hb11, rfl, hy⟩
                        replace hs := hs.call hy
                        clear hy
                        try simp only [List.cons_append, List.nil_append, List.append_nil] at hs
                        have hok : okNext v1 acc (nkAt l a) = false := by
                          unfold okNext
                          first
                          | (have h5 : ¬ acc.length < 512 := by omega
                             simp [h5]; done)
                          | (have h5 : acc.length < 512 := by omega
                             simp_all; done)
                        rw [if_neg (by rw [hok]; decide)] at hgo
                        subst hgo
                        replace hs := hs.sel [5, 6] (by decide)
                        repeat (first | refine Z.pthen ?_ | refine Z.pblock ?_ | refine Z.pscope ?_)
                        -- ret#5
                        refine Z.outDp Try.call38 (dec1_pan g2 g3 _ _ _ _ _ _ _ (hs.lend (L2 := []))) ?_
                        rintro vD wD ⟨rfl, hz⟩
                        replace hs := hs.regain (L2 := []) hz
                        refine ⟨[_, _], (by exact ⟨⟨_, rfl, Z.rvcA hs Try.isAgg24 (by first | ((repeat (first | exact List.mem_cons_self | refine List.mem_cons_of_mem _ ?_ | refine List.mem_append_right _ ?_)); done) | fail) (by exact Try.sizeOf24)⟩, ⟨_, rfl, Z.rvc hs Try.isAgg27 (by first | ((repeat (first | exact List.mem_cons_self | refine List.mem_cons_of_mem _ ?_ | refine List.mem_append_right _ ?_)); done) | fail) rfl⟩, trivial⟩), ?_⟩
                        exact ⟨_, rfl, Dec.zero (hs.sub (List.nil_sublist _))⟩
                      )
                )
        · skip
          rintro c9_1 w9_1 ⟨hE, rfl, a', hz⟩
          replace hs := (hs.regain hz).sel [5, 6] (by decide)
          rw [if_neg (by simp_all), if_pos hE] at hgo
          subst hgo
          repeat (first | refine Z.pthen ?_ | refine Z.pblock ?_ | refine Z.pscope ?_)
          -- ret#6
          refine Z.outDp Try.call38 (dec1_pan g2 g3 _ _ _ _ _ _ _ (hs.lend (L2 := []))) ?_
          rintro vD wD ⟨rfl, hz⟩
          replace hs := hs.regain (L2 := []) hz
          refine ⟨[_, _], (by exact ⟨⟨_, rfl, Z.rvcA hs Try.isAgg24 (by first | ((repeat (first | exact List.mem_cons_self | refine List.mem_cons_of_mem _ ?_ | refine List.mem_append_right _ ?_)); done) | fail) (by exact Try.sizeOf24)⟩, ⟨_, rfl, Z.rvc hs Try.isAgg27 (by first | ((repeat (first | exact List.mem_cons_self | refine List.mem_cons_of_mem _ ?_ | refine List.mem_append_right _ ?_)); done) | fail) rfl⟩, trivial⟩), ?_⟩
          exact ⟨_, rfl, Dec.zero (hs.sub (List.nil_sublist _))⟩
        )
  · first
      | (exfalso; simp at hc7 <;> omega)
      | (
        (try simp at hc7)
        refine Z.exit ?_
        refine Z.xthen ?_
        refine Z.xthen ?_
        refine Z.xblock ?_
        refine Z.nthen ?_
        refine Z.seq ?_
        refine Z.region ?_
        refine Z.l rfl rfl (by rfl) (Z.keepS hs) (Z.Yd.fieldA (m := 0) rfl (by kernel_rfl)) ?_
        refine Z.l rfl rfl (by rfl) (Z.keepS hs) (by first | exact Z.Yd.load rfl Try.isAgg74 (fun _ => Z.cellB (by first | ((repeat (first | exact List.mem_cons_self | refine List.mem_cons_of_mem _ ?_ | refine List.mem_append_right _ ?_)); done) | fail) rfl) | exact Z.Yd.load rfl Try.isAgg74 (fun _ => Z.cellO (by assumption) (by simp) (by assumption)) | fail "load 13.1") ?_
        obtain ⟨Aa, ca, rfl, -, -, -⟩ := SX.row_slv hs (j := 2) rfl
        obtain ⟨f, rfl⟩ : ∃ f', f = f' + 1 := ⟨f - 1, by omega⟩
        unfold decGo at hgo
        rw [if_pos (by simp_all)] at hgo
        refine Z.le rfl trivial ?_
        refine Z.ZO.call rfl rfl (by rfl) rfl rfl Try.call44 rfl (rend_any gr _ sv l a _ hs.lend (by omega) ha hb) ?_
        rintro v13_2 w13_2 ⟨rfl, hz⟩
        replace hs := hs.regain hz
        simp only [RdL, List.cons_append, List.nil_append] at hs
        refine Z.lb 1 rfl ?_
        refine Z.le rfl trivial ?_
        refine Z.ZO.callB rfl rfl (by rfl) rfl rfl Try.call42 rfl (must_any _ 9 _) ?_ ?_
        · skip
          rintro v13_4 w13_4 ⟨hb13, rfl, hy⟩
          replace hs := hs.call hy
          clear hy
          try simp only [List.cons_append, List.nil_append, List.append_nil] at hs
          rw [if_pos (by simpa using hb13)] at hgo
          subst hgo
          refine Z.lnil ?_
          refine Z.only [2, 3] rfl ?_
          refine Z.nthen ?_
          refine Z.seq ?_
          refine Z.region ?_
          refine Z.l rfl rfl (by rfl) (Z.keepS hs) (by first | exact Z.Yd.loadA _ rfl Try.isAgg24 (fun _ => Z.cellsB (by first | ((repeat (first | exact List.mem_cons_self | refine List.mem_cons_of_mem _ ?_ | refine List.mem_append_right _ ?_)); done) | fail)) (by exact Try.sizeOf24) | fail "load 14.0") ?_
          refine Z.le rfl trivial ?_
          first | refine Z.ZO.storeA rfl rfl hs rfl rfl (by kernel_rfl) (by first | (simp [Value.oneCell']; done) | (refine Z.all_one ?_; assumption)) (by first | exact SX.at0 | exact SX.at1 | exact SX.at2 | exact SX.at3 | exact SX.at4 | exact SX.at5 | exact Z.at6 | exact Z.at7 | exact Z.at8 | exact Z.at9 | exact Z.at10 | exact Z.at11 | exact Z.at12) (by rfl) ?_ | refine Z.ZO.storeP rfl rfl hs rfl rfl (by kernel_rfl) (by first | (simp [Value.oneCell']; done) | (refine Z.all_one ?_; assumption)) (by first | exact SX.at0 | exact SX.at1 | exact SX.at2 | exact SX.at3 | exact SX.at4 | exact SX.at5 | exact Z.at6 | exact Z.at7 | exact Z.at8 | exact Z.at9 | exact Z.at10 | exact Z.at11 | exact Z.at12) (by first | decide | (simp; done) | (simp; omega)) ?_ | refine Z.ZO.storePR rfl rfl hs rfl rfl (by kernel_rfl) (by first | (simp [Value.oneCell']; done) | (refine Z.all_one ?_; assumption)) (by first | exact SX.at0 | exact SX.at1 | exact SX.at2 | exact SX.at3 | exact SX.at4 | exact SX.at5 | exact Z.at6 | exact Z.at7 | exact Z.at8 | exact Z.at9 | exact Z.at10 | exact Z.at11 | exact Z.at12) (by first | decide | (simp; done) | (simp; omega)) ?_
          clear hs; intro ws hs
          simp only [Nat.zero_add, Nat.add_zero, Nat.reduceAdd, Int.reduceToNat, Nat.reduceMul, List.set_cons_zero, List.set_cons_succ, List.setIfInBounds_toArray] at hs
          try simp only [Z.putL, Nat.zero_add] at hs
          refine Z.le rfl trivial ?_
          first | refine Z.ZO.store rfl rfl hs Try.sizeOf27 rfl rfl rfl (by first | exact SX.at0 | exact SX.at1 | exact SX.at2 | exact SX.at3 | exact SX.at4 | exact SX.at5 | exact Z.at6 | exact Z.at7 | exact Z.at8 | exact Z.at9 | exact Z.at10 | exact Z.at11 | exact Z.at12) (by first | (simp; done) | (simp; omega)) ?_ | refine Z.ZO.storeR rfl rfl hs Try.sizeOf27 rfl rfl rfl (by first | exact SX.at0 | exact SX.at1 | exact SX.at2 | exact SX.at3 | exact SX.at4 | exact SX.at5 | exact Z.at6 | exact Z.at7 | exact Z.at8 | exact Z.at9 | exact Z.at10 | exact Z.at11 | exact Z.at12) (by first | omega | (simp [ints_length]; done) | (simp [ints_length]; omega)) ?_
          clear hs; intro ws hs
          simp only [Nat.zero_add, Nat.add_zero, Nat.reduceAdd, Int.reduceToNat, Nat.reduceMul, List.set_cons_zero, List.set_cons_succ, List.setIfInBounds_toArray] at hs
          refine Z.lnil ?_
          refine Z.only [2, 3] rfl ?_
          refine Z.nthen ?_
          refine Z.ret ?_
          -- ret#7
          refine Z.outDr Try.call38 (dec1_ret g2 g3 _) ?_
          rintro vD wD ⟨rfl, hy⟩
          replace hs := hs.call hy
          refine ⟨[_, _], (by exact ⟨⟨_, rfl, Z.rvcA hs Try.isAgg24 (by first | ((repeat (first | exact List.mem_cons_self | refine List.mem_cons_of_mem _ ?_ | refine List.mem_append_right _ ?_)); done) | fail) (by exact Try.sizeOf24)⟩, ⟨_, rfl, Z.rvc hs Try.isAgg27 (by first | ((repeat (first | exact List.mem_cons_self | refine List.mem_cons_of_mem _ ?_ | refine List.mem_append_right _ ?_)); done) | fail) rfl⟩, trivial⟩), ?_⟩
          exact ⟨_, rfl, Aa, ca, ca, rfl, hs.sel [2] (by decide)⟩
        · skip
          rintro c13_4 w13_4 ⟨hb13, rfl, hy⟩
          replace hs := hs.call hy
          clear hy
          try simp only [List.cons_append, List.nil_append, List.append_nil] at hs
          rw [if_neg (by simpa using hb13)] at hgo
          subst hgo
          replace hs := hs.sel [4, 5] (by decide)
          repeat (first | refine Z.pthen ?_ | refine Z.pblock ?_ | refine Z.pscope ?_)
          -- ret#8
          refine Z.outDp Try.call38 (dec1_pan g2 g3 _ _ _ _ _ _ _ (hs.lend (L2 := []))) ?_
          rintro vD wD ⟨rfl, hz⟩
          replace hs := hs.regain (L2 := []) hz
          refine ⟨[_, _], (by exact ⟨⟨_, rfl, Z.rvcA hs Try.isAgg24 (by first | ((repeat (first | exact List.mem_cons_self | refine List.mem_cons_of_mem _ ?_ | refine List.mem_append_right _ ?_)); done) | fail) (by exact Try.sizeOf24)⟩, ⟨_, rfl, Z.rvc hs Try.isAgg27 (by first | ((repeat (first | exact List.mem_cons_self | refine List.mem_cons_of_mem _ ?_ | refine List.mem_append_right _ ?_)); done) | fail) rfl⟩, trivial⟩), ?_⟩
          exact ⟨_, rfl, Dec.zero (hs.sub (List.nil_sublist _))⟩
        )
end Go.Proofs.Ytcieclifabbkjaa

/- Numbers out of bytes and bits: plain facts. -/
namespace Go.Proofs.Ytcieclifabbkjaa
open Go.RowKit
set_option linter.unusedSimpArgs false
set_option linter.unusedVariables false

theorem snoc_ind {α : Type} {p : List α → Prop} (h0 : p []) (h1 : ∀ l x, p l → p (l ++ [x])) (l : List α) : p l := by
  rw [← List.reverse_reverse l]
  induction l.reverse with
  | nil => exact h0
  | cons x r ih => rw [List.reverse_cons]; exact h1 _ _ ih
theorem val_app (a b : List Bool) : val (a ++ b) = val a * 2 ^ b.length + val b := by
  refine snoc_ind (p := fun b => val (a ++ b) = val a * 2 ^ b.length + val b) ?_ (fun b x ih => ?_) b
  · simp [val]
  · rw [← List.append_assoc, val_snoc, ih, val_snoc, List.length_append, List.length_singleton, Nat.pow_succ, ← Nat.mul_assoc]
    omega
theorem val_mid {bs : List Bool} {a n : Nat} (h : a + n ≤ bs.length) : val ((bs.drop a).take n) = val bs / 2 ^ (bs.length - a - n) % 2 ^ n := by
  have e : bs = bs.take a ++ ((bs.drop a).take n ++ bs.drop (a + n)) := by
    rw [← List.drop_drop, List.take_append_drop, List.take_append_drop]
  have hl : ((bs.drop a).take n).length = n := by simp; omega
  have hl2 : (bs.drop (a + n)).length = bs.length - a - n := by simp; omega
  have h1 := val_lt (bs.drop (a + n))
  have h2 := val_lt ((bs.drop a).take n)
  rw [hl2] at h1
  rw [hl] at h2
  have key : val bs = (val (bs.take a) * 2 ^ n + val ((bs.drop a).take n)) * 2 ^ (bs.length - a - n) + val (bs.drop (a + n)) := by
    conv => lhs; rw [e]
    rw [val_app, val_app, List.length_append, hl, hl2, Nat.pow_add, Nat.add_mul, Nat.mul_assoc]
    omega
  rw [key, Nat.mul_comm _ (2 ^ (bs.length - a - n)), Nat.mul_add_div (Nat.pow_pos (by decide)), Nat.div_eq_of_lt h1, Nat.add_zero, Nat.mul_comm, Nat.mul_add_mod, Nat.mod_eq_of_lt h2]
/-- bytes asz a number -/
def num (l : List Int) : Int := l.foldl (fun v x => 256 * v + x) 0
theorem num_snoc (l : List Int) (x : Int) : num (l ++ [x]) = 256 * num l + x := by simp [num]
theorem unb_app (a b : List Int) : unb (a ++ b) = unb a ++ unb b := by simp [unb]
theorem val_unb {l : List Int} (hb : ∀ x ∈ l, 0 ≤ x ∧ x < 256) : (val (unb l) : Int) = num l := by
  refine snoc_ind (p := fun l => (∀ x ∈ l, 0 ≤ x ∧ x < 256) → (val (unb l) : Int) = num l) ?_ (fun l x ih hb => ?_) l hb
  · intro _; simp [val, unb, num]
  · have h1 := ih fun y hy => hb y (by simp [hy])
    have hx := hb x (by simp)
    rw [unb_app, val_app, num_snoc, ← h1]
    have e : unb [x] = fld x.toNat 8 := by simp [unb]
    rw [e, fld_length, val_fld]
    have : x.toNat % 2 ^ 8 = x.toNat := Nat.mod_eq_of_lt (by omega)
    rw [this]
    omega
theorem num_nonneg {l : List Int} (hb : ∀ x ∈ l, 0 ≤ x ∧ x < 256) : 0 ≤ num l := by rw [← val_unb hb]; omega
/-- what is read -/
theorem getV_num {l : List Int} {a n : Nat} (hb : ∀ x ∈ l, 0 ≤ x ∧ x < 256) (h : a + n ≤ 8 * l.length) (hn : n ≤ 64) : getV l a (n : Int) = num l / 2 ^ (8 * l.length - a - n) % 2 ^ n := by
  have h0 : getE l a (n : Int) = 0 := getE_ok h hn
  unfold getV
  rw [if_pos h0, ← val_unb hb, Int.toNat_natCast]
  unfold bitsAt
  have hl := unb_length l
  rw [val_mid (by omega), hl, show l.length * 8 - a - n = 8 * l.length - a - n from by omega]
  push_cast
  rfl
/-- what is written -/
theorem pk_bytes {bs : List Bool} : ∀ x ∈ pk bs, 0 ≤ x ∧ x < 256 := by
  intro x hx
  simp only [pk, pkn, List.mem_map] at hx
  obtain ⟨j, _, rfl⟩ := hx
  have := byt_lt bs j
  omega
theorem pk_num {bs : List Bool} (h : bs.length % 8 = 0) : num (pk bs) = (val bs : Int) := by
  rw [← val_unb pk_bytes, unb_pk]
  unfold pad
  rw [h]
  simp
theorem flat_val {f : Int × Int} {fs : List (Int × Int)} : val ((f :: fs).flatMap fldF) = (f.1.toNat % 2 ^ f.2.toNat) * 2 ^ (fs.flatMap fldF).length + val (fs.flatMap fldF) := by
  rw [List.flatMap_cons, val_app]
  unfold fldF
  rw [val_fld]
end Go.Proofs.Ytcieclifabbkjaa

/- Status reports: the document's decoder. -/
namespace Go.Proofs.Ytcieclifabbkjaa
open Go.RowKit
set_option linter.unusedSimpArgs false
set_option linter.unusedVariables false
--newlaws

theorem decode_any (A : Option Addr) (m c : Nat) (l : List Int) (w : World) (hx : Sl w A (ints .u8 l)) (hl : l.length = m) (hm : m ≤ 1000000) (hb : ∀ x ∈ l, 0 ≤ x ∧ x < 256) :
    Calls Try.prog 17 #[.slice A m c] w (SX.Ret fun v w' => Dec (decE l) (decA l) (decL l) v w w') := by
  by_cases h15 : 15 ≤ 8 * l.length
  · by_cases h4 : gv l 0 4 = 0
    · have e1 : decE l = (decGo l (gv l 4 10) (8 * l.length + 1) 15 [] (gv l 14 1 == 1)).1 := by unfold decE; rw [if_pos h15, if_pos h4]
      unfold decA decL
      rw [e1]
      exact decode_main A m c l w hx hl hm hb h15 h4 _ rfl
    · have e1 : decE l = 9 := by unfold decE; rw [if_pos h15, if_neg h4]
      unfold decA decL
      rw [e1]
      exact decode_fmt A m c l w hx hl hm hb h15 h4
  · have e1 : decE l = 5 := by unfold decE; rw [if_neg h15]
    unfold decA decL
    rw [e1]
    exact decode_short A m c l w hx hl hm hb h15
theorem gv04 {l : List Int} (hb : ∀ x ∈ l, 0 ≤ x ∧ x < 256) (h : 1 ≤ l.length) : gv l 0 4 = elt l 0 / 16 := by
  obtain ⟨x, r, rfl⟩ : ∃ x r, l = x :: r := by
    cases l with
    | nil => simp at h
    | cons x r => exact ⟨x, r, rfl⟩
  have hx := hb x (by simp)
  have e1 : bitsAt (x :: r) 0 4 = bitsAt [x] 0 4 := by
    have hu : unb (x :: r) = unb [x] ++ unb r := unb_app [x] r
    unfold bitsAt
    rw [hu]
    have : (unb [x]).length = 8 := by rw [unb_length]; rfl
    simp only [List.drop_zero]
    rw [List.take_append_of_le_length (by omega)]
  have hb1 : ∀ y ∈ [x], 0 ≤ y ∧ y < 256 := by intro y hy; obtain rfl : y = x := by simpa using hy
                                              exact hx
  have e2 : getV [x] 0 4 = num [x] / 2 ^ (8 * 1 - 0 - 4) % 2 ^ 4 := getV_num (n := 4) hb1 (by simp) (by decide)
  have e3 : getV [x] 0 4 = gv [x] 0 4 := by
    unfold getV
    rw [if_pos (show getE [x] 0 4 = 0 from getE_ok (l := [x]) (a := 0) (n := 4) (by simp) (by decide))]
    rfl
  have e4 : gv (x :: r) 0 4 = gv [x] 0 4 := by unfold gv; rw [e1]
  rw [e4, ← e3, e2]
  have e5 : num [x] = x := by simp [num]
  have e6 : elt (x :: r) 0 = x := rfl
  rw [e5, e6]
  have : x / 2 ^ (8 * 1 - 0 - 4) % 2 ^ 4 = x / 16 % 16 := rfl
  rw [this]
  omega
end Go.Proofs.Ytcieclifabbkjaa

/- FieldHolds. -/
namespace Go.Proofs.Ytcieclifabbkjaa
open Go.RowKit
set_option linter.unusedSimpArgs false
set_option linter.unusedVariables false

theorem drop_flat {fs : List (Int × Int)} {k : Nat} {f : Int × Int} (h : fs[k]? = some f) : (fs.drop k).flatMap fldF = fldF f ++ (fs.drop (k + 1)).flatMap fldF := by
  have hk : k < fs.length := (List.getElem?_eq_some_iff.1 h).1
  have hx : fs[k] = f := (List.getElem?_eq_some_iff.1 h).2
  rw [List.drop_eq_getElem_cons hk, hx, List.flatMap_cons]

end Go.Proofs.Ytcieclifabbkjaa

/- A nil writer, a nil reader. -/
namespace Go.Proofs.Ytcieclifabbkjaa
open Go.RowKit
set_option linter.unusedSimpArgs false
set_option linter.unusedVariables false

theorem nil_PutAll (A : Option Addr) (n c : Nat) (w : World) : Calls Try.prog 27 #[.pointer none, .slice A n c] w (SX.Ret fun r w' => r = .int .i64 1 ∧ SX.St w [] w' []) := by
  have hs := SX.St.start w
  refine Z.enter Try.func27 rfl Try.ntmps27 rfl rfl ?_
  refine Z.seq ?_
  refine Z.region ?_
  refine Z.lb 1 rfl ?_
  refine Z.lnil ?_
  refine Z.only [0, 1] rfl ?_
  refine Z.nthen ?_
  refine Z.seq ?_
  refine Z.seq ?_
  refine Z.region ?_
  refine Z.lb 1 rfl ?_
  refine Z.l rfl rfl (by rfl) (Z.keepS hs) (Z.Yd.ptrNil rfl rfl Try.underlying99) ?_
  refine Z.lnil ?_
  refine Z.only [0, 1, 11] rfl ?_
  refine Z.nthen ?_
  refine Z.cond rfl (fun hc1 => ?_) (fun h => absurd h (by simp))
  refine Z.seq ?_
  refine Z.region ?_
  refine Z.lb 1 rfl ?_
  refine Z.lnil ?_
  refine Z.only [4] rfl ?_
  refine Z.nthen ?_
  refine Z.ret ?_
  repeat (first | refine Z.rthen ?_ | refine Z.rblock ?_ | refine Z.rscope ?_)
  -- ret#0
  refine Z.out1 (by exact ⟨rfl, trivial⟩) ?_
  first | exact ⟨_, rfl, rfl, hs⟩ | exact ⟨_, rfl, rfl, hs.sub (List.nil_sublist _)⟩
theorem nil_Bytes  (w : World) : Calls Try.prog 29 #[.pointer none] w (SX.Ret fun r w' => r = .slice none 0 0 ∧ SX.St w [] w' []) := by
  have hs := SX.St.start w
  refine Z.enter Try.func29 rfl Try.ntmps29 rfl rfl ?_
  refine Z.seq ?_
  refine Z.region ?_
  refine Z.lb 1 rfl ?_
  refine Z.lnil ?_
  refine Z.only [0] rfl ?_
  refine Z.nthen ?_
  refine Z.seq ?_
  refine Z.seq ?_
  refine Z.region ?_
  refine Z.lb 1 rfl ?_
  refine Z.l rfl rfl (by rfl) (Z.keepS hs) (Z.Yd.ptrNil rfl rfl Try.underlying99) ?_
  refine Z.lnil ?_
  refine Z.only [0, 4] rfl ?_
  refine Z.nthen ?_
  refine Z.cond rfl (fun hc1 => ?_) (fun h => absurd h (by simp))
  refine Z.seq ?_
  refine Z.region ?_
  refine Z.lb 1 rfl ?_
  refine Z.lnil ?_
  refine Z.only [2] rfl ?_
  refine Z.nthen ?_
  refine Z.ret ?_
  repeat (first | refine Z.rthen ?_ | refine Z.rblock ?_ | refine Z.rscope ?_)
  -- ret#0
  refine Z.out1 (by exact ⟨rfl, trivial⟩) ?_
  first | exact ⟨_, rfl, rfl, hs⟩ | exact ⟨_, rfl, rfl, hs.sub (List.nil_sublist _)⟩
theorem nil_Get (n : Int) (w : World) : Calls Try.prog 66 #[.pointer none, .int .i64 n] w (SX.Ret fun r w' => r = .tuple #[.int .u64 0, .int .i64 1] ∧ SX.St w [] w' []) := by
  have hs := SX.St.start w
  refine Z.enter Try.func66 rfl Try.ntmps66 rfl rfl ?_
  refine Z.seq ?_
  refine Z.region ?_
  refine Z.lb 2 rfl ?_
  refine Z.lnil ?_
  refine Z.only [0, 1, 4] rfl ?_
  refine Z.nthen ?_
  refine Z.seq ?_
  refine Z.block ?_
  refine Z.seq ?_
  refine Z.region ?_
  refine Z.lb 1 rfl ?_
  refine Z.l rfl rfl (by rfl) (Z.keepS hs) (Z.Yd.ptrNil rfl rfl Try.underlying74) ?_
  refine Z.lb 1 rfl ?_
  refine Z.lnil ?_
  refine Z.only [0, 1, 4, 6] rfl ?_
  refine Z.nthen ?_
  refine Z.cond rfl (fun hc1 => ?_) (fun h => absurd h (by simp))
  refine Z.seq ?_
  refine Z.region ?_
  refine Z.lb 2 rfl ?_
  refine Z.lnil ?_
  refine Z.only [4, 5] rfl ?_
  refine Z.nthen ?_
  refine Z.ret ?_
  repeat (first | refine Z.rthen ?_ | refine Z.rblock ?_ | refine Z.rscope ?_)
  -- ret#0
  refine Z.out2 (by exact ⟨rfl, rfl, trivial⟩) ?_
  first | exact ⟨_, rfl, rfl, hs⟩ | exact ⟨_, rfl, rfl, hs.sub (List.nil_sublist _)⟩
theorem nil_RAlign  (w : World) : Calls Try.prog 68 #[.pointer none] w (SX.Ret fun r w' => r = .int .i64 1 ∧ SX.St w [] w' []) := by
  have hs := SX.St.start w
  refine Z.enter Try.func68 rfl Try.ntmps68 rfl rfl ?_
  refine Z.seq ?_
  refine Z.region ?_
  refine Z.lb 1 rfl ?_
  refine Z.lnil ?_
  refine Z.only [0] rfl ?_
  refine Z.nthen ?_
  refine Z.seq ?_
  refine Z.seq ?_
  refine Z.region ?_
  refine Z.lb 1 rfl ?_
  refine Z.l rfl rfl (by rfl) (Z.keepS hs) (Z.Yd.ptrNil rfl rfl Try.underlying74) ?_
  refine Z.lnil ?_
  refine Z.only [0, 7] rfl ?_
  refine Z.nthen ?_
  refine Z.cond rfl (fun hc1 => ?_) (fun h => absurd h (by simp))
  refine Z.seq ?_
  refine Z.region ?_
  refine Z.lb 1 rfl ?_
  refine Z.lnil ?_
  refine Z.only [2] rfl ?_
  refine Z.nthen ?_
  refine Z.ret ?_
  repeat (first | refine Z.rthen ?_ | refine Z.rblock ?_ | refine Z.rscope ?_)
  -- ret#0
  refine Z.out1 (by exact ⟨rfl, trivial⟩) ?_
  first | exact ⟨_, rfl, rfl, hs⟩ | exact ⟨_, rfl, rfl, hs.sub (List.nil_sublist _)⟩
theorem nil_Left  (w : World) : Calls Try.prog 67 #[.pointer none] w (SX.Ret fun r w' => r = .int .i64 0 ∧ SX.St w [] w' []) := by
  have hs := SX.St.start w
  refine Z.enter Try.func67 rfl Try.ntmps67 rfl rfl ?_
  refine Z.seq ?_
  refine Z.region ?_
  refine Z.lb 1 rfl ?_
  refine Z.lnil ?_
  refine Z.only [0] rfl ?_
  refine Z.nthen ?_
  refine Z.seq ?_
  refine Z.seq ?_
  refine Z.region ?_
  refine Z.lb 1 rfl ?_
  refine Z.l rfl rfl (by rfl) (Z.keepS hs) (Z.Yd.ptrNil rfl rfl Try.underlying74) ?_
  refine Z.lnil ?_
  refine Z.only [0, 4] rfl ?_
  refine Z.nthen ?_
  refine Z.cond rfl (fun hc1 => ?_) (fun h => absurd h (by simp))
  refine Z.seq ?_
  refine Z.region ?_
  refine Z.lb 1 rfl ?_
  refine Z.lnil ?_
  refine Z.only [2] rfl ?_
  refine Z.nthen ?_
  refine Z.ret ?_
  repeat (first | refine Z.rthen ?_ | refine Z.rblock ?_ | refine Z.rscope ?_)
  -- ret#0
  refine Z.out1 (by exact ⟨rfl, trivial⟩) ?_
  first | exact ⟨_, rfl, rfl, hs⟩ | exact ⟨_, rfl, rfl, hs.sub (List.nil_sublist _)⟩
theorem nil_End  (w : World) : Calls Try.prog 44 #[.pointer none] w (SX.Ret fun r w' => r = .int .i64 1 ∧ SX.St w [] w' []) := by
  have hs := SX.St.start w
  refine Z.enter Try.func44 rfl Try.ntmps44 rfl rfl ?_
  refine Z.seq ?_
  refine Z.region ?_
  refine Z.lb 1 rfl ?_
  refine Z.lnil ?_
  refine Z.only [0] rfl ?_
  refine Z.nthen ?_
  refine Z.seq ?_
  refine Z.seq ?_
  refine Z.region ?_
  refine Z.lb 1 rfl ?_
  refine Z.l rfl rfl (by rfl) (Z.keepS hs) (Z.Yd.ptrNil rfl rfl Try.underlying74) ?_
  refine Z.lnil ?_
  refine Z.only [0, 5] rfl ?_
  refine Z.nthen ?_
  refine Z.cond rfl (fun hc1 => ?_) (fun h => absurd h (by simp))
  refine Z.seq ?_
  refine Z.region ?_
  refine Z.lb 1 rfl ?_
  refine Z.lnil ?_
  refine Z.only [2] rfl ?_
  refine Z.nthen ?_
  refine Z.ret ?_
  repeat (first | refine Z.rthen ?_ | refine Z.rblock ?_ | refine Z.rscope ?_)
  -- ret#0
  refine Z.out1 (by exact ⟨rfl, trivial⟩) ?_
  first | exact ⟨_, rfl, rfl, hs⟩ | exact ⟨_, rfl, rfl, hs.sub (List.nil_sublist _)⟩
theorem nil_each (A : Option Addr) (n c : Nat) (f : Value) (w : World) : Calls Try.prog 65 #[.pointer none, .slice A n c, f] w (SX.Ret fun r w' => r = .tuple #[.slice none 0 0, .int .i64 1] ∧ SX.St w [] w' []) := by
  have hs := SX.St.start w
  refine Z.enterD Try.func65 rfl Try.ntmps65 rfl rfl ?_
  refine Z.seq ?_
  refine Z.region ?_
  refine Z.le rfl trivial ?_
  refine Z.ZO.box rfl rfl (by rfl) rfl rfl hs ?_
  clear hs; intro g3 w3 hs
  refine Z.le rfl trivial ?_
  refine Z.ZO.alloc rfl rfl (by rfl) Try.zeroValue78 rfl hs ?_
  clear hs; intro g6 w6 hs
  refine Z.le rfl trivial ?_
  refine Z.ZO.alloc rfl rfl (by rfl) Try.zeroValue27 rfl hs ?_
  clear hs; intro g7 w7 hs
  refine Z.lnil ?_
  refine Z.only [1, 2, 3, 6, 7] rfl ?_
  refine Z.nthen ?_
  refine Z.seq ?_
  refine Z.seq ?_
  refine Z.region ?_
  refine Z.l rfl rfl (by rfl) (Z.keepS hs) (by first | exact Z.Yd.load rfl Try.isAgg74 (fun _ => Z.cellB (by first | ((repeat (first | exact List.mem_cons_self | refine List.mem_cons_of_mem _ ?_ | refine List.mem_append_right _ ?_)); done) | fail) rfl) | exact Z.Yd.load rfl Try.isAgg74 (fun _ => Z.cellO (by assumption) (by simp) (by assumption)) | fail "load 1.0") ?_
  refine Z.l rfl rfl (by rfl) (Z.keepS hs) (Z.Yd.ptrNil rfl rfl Try.underlying74) ?_
  refine Z.lnil ?_
  refine Z.only [1, 2, 3, 6, 7, 14] rfl ?_
  refine Z.nthen ?_
  refine Z.cond rfl (fun hc1 => ?_) (fun h => absurd h (by simp))
  refine Z.seq ?_
  refine Z.region ?_
  refine Z.le rfl trivial ?_
  first | refine Z.ZO.store rfl rfl hs Try.sizeOf78 rfl rfl rfl (by first | exact SX.at0 | exact SX.at1 | exact SX.at2 | exact SX.at3 | exact SX.at4 | exact SX.at5 | exact Z.at6 | exact Z.at7 | exact Z.at8 | exact Z.at9 | exact Z.at10 | exact Z.at11 | exact Z.at12) (by first | (simp; done) | (simp; omega)) ?_ | refine Z.ZO.storeR rfl rfl hs Try.sizeOf78 rfl rfl rfl (by first | exact SX.at0 | exact SX.at1 | exact SX.at2 | exact SX.at3 | exact SX.at4 | exact SX.at5 | exact Z.at6 | exact Z.at7 | exact Z.at8 | exact Z.at9 | exact Z.at10 | exact Z.at11 | exact Z.at12) (by first | omega | (simp [ints_length]; done) | (simp [ints_length]; omega)) ?_
  clear hs; intro ws hs
  simp only [Nat.zero_add, Nat.add_zero, Nat.reduceAdd, Int.reduceToNat, Nat.reduceMul, List.set_cons_zero, List.set_cons_succ, List.setIfInBounds_toArray] at hs
  refine Z.le rfl trivial ?_
  first | refine Z.ZO.store rfl rfl hs Try.sizeOf27 rfl rfl rfl (by first | exact SX.at0 | exact SX.at1 | exact SX.at2 | exact SX.at3 | exact SX.at4 | exact SX.at5 | exact Z.at6 | exact Z.at7 | exact Z.at8 | exact Z.at9 | exact Z.at10 | exact Z.at11 | exact Z.at12) (by first | (simp; done) | (simp; omega)) ?_ | refine Z.ZO.storeR rfl rfl hs Try.sizeOf27 rfl rfl rfl (by first | exact SX.at0 | exact SX.at1 | exact SX.at2 | exact SX.at3 | exact SX.at4 | exact SX.at5 | exact Z.at6 | exact Z.at7 | exact Z.at8 | exact Z.at9 | exact Z.at10 | exact Z.at11 | exact Z.at12) (by first | omega | (simp [ints_length]; done) | (simp [ints_length]; omega)) ?_
  clear hs; intro ws hs
  simp only [Nat.zero_add, Nat.add_zero, Nat.reduceAdd, Int.reduceToNat, Nat.reduceMul, List.set_cons_zero, List.set_cons_succ, List.setIfInBounds_toArray] at hs
  refine Z.lnil ?_
  refine Z.only [6, 7] rfl ?_
  refine Z.nthen ?_
  refine Z.ret ?_
  repeat (first | refine Z.rthen ?_ | refine Z.rblock ?_ | refine Z.rscope ?_)
  -- ret#0
  refine Z.outD0 (vs := [_, _]) (by exact ⟨⟨_, rfl, Z.rvc hs Try.isAgg78 (by first | ((repeat (first | exact List.mem_cons_self | refine List.mem_cons_of_mem _ ?_ | refine List.mem_append_right _ ?_)); done) | fail) rfl⟩, ⟨_, rfl, Z.rvc hs Try.isAgg27 (by first | ((repeat (first | exact List.mem_cons_self | refine List.mem_cons_of_mem _ ?_ | refine List.mem_append_right _ ?_)); done) | fail) rfl⟩, trivial⟩) ?_
  first | exact ⟨_, rfl, rfl, hs⟩ | exact ⟨_, rfl, rfl, hs.sub (List.nil_sublist _)⟩
theorem nil_GetAll (A : Option Addr) (n c : Nat) (w : World) : Calls Try.prog 41 #[.pointer none, .slice A n c] w (SX.Ret fun r w' => r = .tuple #[.slice none 0 0, .int .i64 1] ∧ SX.St w [] w' []) := by
  have hs := SX.St.start w
  refine Z.enter Try.func41 rfl Try.ntmps41 rfl rfl ?_
  refine Z.seq ?_
  refine Z.region ?_
  refine Z.lb 2 rfl ?_
  refine Z.lnil ?_
  refine Z.only [0, 1] rfl ?_
  refine Z.nthen ?_
  refine Z.seq ?_
  refine Z.region ?_
  refine Z.lb 4 rfl ?_
  refine Z.le rfl trivial ?_
  refine Z.ZO.call rfl rfl (by rfl) rfl rfl Try.call65 rfl (nil_each _ _ _ _ _) ?_
  rintro v1_4 w1_4 ⟨rfl, hy⟩
  replace hs := hs.call hy
  clear hy
  try simp only [List.cons_append, List.nil_append, List.append_nil] at hs
  refine Z.lb 4 rfl ?_
  refine Z.lnil ?_
  refine Z.only [4, 5] rfl ?_
  refine Z.nthen ?_
  refine Z.ret ?_
  -- ret#0
  refine Z.out2 (by exact ⟨rfl, rfl, trivial⟩) ?_
  first | exact ⟨_, rfl, rfl, hs⟩ | exact ⟨_, rfl, rfl, hs.sub (List.nil_sublist _)⟩
end Go.Proofs.Ytcieclifabbkjaa

/- FieldNone. -/
namespace Go.Proofs.Ytcieclifabbkjaa
open Go.RowKit
set_option linter.unusedSimpArgs false
set_option linter.unusedVariables false

structure AskV where
  what : Int
  n : Int
  lA : Option Addr
  lc : Nat
  ll : List Int
def encK (x : AskV) : List Value := [.int .i64 x.what, .int .i64 x.n, .slice x.lA x.ll.length x.lc]
theorem encK_length (x : AskV) : (encK x).length = 3 := rfl
structure GoodK (W : World) (x : AskV) : Prop where
  what : -9223372036854775808 ≤ x.what ∧ x.what ≤ 9223372036854775807
  n : -9223372036854775808 ≤ x.n ∧ x.n ≤ 9223372036854775807
  ls : Sl W x.lA (ints .i64 x.ll)
  l63 : x.ll.length ≤ maxLen

theorem rd_ints {W : World} {A : Option Addr} {n c : Nat} (z : Rd Try.prog W 91 [.slice A n c]) : ∃ l : List Int, l.length = n ∧ n ≤ maxLen ∧ Sl W A (ints .i64 l) := by
  have c1 : Try.prog.cellsOf 3 = 1 := by kernel_rfl
  obtain ⟨xs, h1, h2, h3, h4, h5⟩ := Rd.rows (fun x : Int => [Value.int .i64 x]) (fun _ => True) Try.underlying91 (by rw [c1]; decide)
    (fun r hr => by
      obtain ⟨x, hx, wx⟩ := Rd.int Try.underlying3 hr
      exact ⟨x, hx, trivial⟩) (fun x => c1.symm) z
  rw [flat_ints] at h5
  exact ⟨xs, h1, Nat.le_trans h2 h3, h5⟩
end Go.Proofs.Ytcieclifabbkjaa

/- The document's reader. -/
namespace Go.Proofs.Ytcieclifabbkjaa
open Go.RowKit
set_option linter.unusedSimpArgs false
set_option linter.unusedVariables false

theorem refnew (A : Option Addr) (n c : Nat) (l : List Int) (w : World) (hx : Sl w A (ints .u8 l)) (hl : l.length = n) (hn : n ≤ 1000000) (hb : ∀ x ∈ l, 0 ≤ x ∧ x < 256) :
    Calls Try.prog 45 #[.slice A n c] w (SX.Ret fun r w' => ∃ B m d, r = .agg #[.slice B m d, .int .i64 0] ∧ m = n * 8 ∧ SX.St w [] w' [SX.Ent.row (.slice B m d) 5 1 m (ints .u8 (bits (unb l)))]) := by
  have hs := SX.St.start w
  refine Z.enter Try.func45 rfl Try.ntmps45 rfl rfl ?_
  refine Z.seq ?_
  refine Z.region ?_
  refine Z.le rfl trivial ?_
  refine Z.ZO.alloc rfl rfl (by rfl) Try.zeroValue87 rfl hs ?_
  clear hs; intro g2 w2 hs
  refine Z.lnil ?_
  refine Z.only [0, 2] rfl ?_
  refine Z.nthen ?_
  refine Z.seq ?_
  refine Z.region ?_
  refine Z.lb 2 rfl ?_
  refine Z.l rfl rfl (by rfl) (Z.keepS hs) (Z.Yd.lenS rfl Try.underlying26) ?_
  refine Z.l rfl rfl (by rfl) (Z.keepS hs) (Z.Yd.mul rfl rfl (fun hG => Z.wi64 (by first | omega | (have hG' := Z.gh rfl hG; simp at hG'; omega)))) ?_
  refine Z.le rfl trivial ?_
  refine Z.ZO.call rfl rfl (by rfl) rfl rfl Try.call69 rfl (unpack_any A n c l _ (hx.st (hs.sub (List.nil_sublist _))) hl hn hb) ?_
  rintro v1_4 w1_4 ⟨sv, rfl, hy⟩
  replace hs := hs.call hy
  clear hy
  try simp only [List.cons_append, List.nil_append, List.append_nil] at hs
  obtain ⟨B, d, rfl, -, -, -⟩ := SX.row_slv hs (j := 0) rfl
  refine Z.lb 5 rfl ?_
  refine Z.lnil ?_
  refine Z.only [2, 3] rfl ?_
  refine Z.nthen ?_
  refine Z.seq ?_
  refine Z.region ?_
  refine Z.lb 1 rfl ?_
  refine Z.l rfl rfl (by rfl) (Z.keepS hs) (Z.Yd.build rfl (by intro w; go_simp; try rfl)) ?_
  refine Z.le rfl trivial ?_
  refine Z.ZO.storeA rfl rfl hs rfl rfl (by kernel_rfl) (by first | (simp [Value.oneCell']; done) | (refine Z.all_one ?_; assumption)) (by first | exact SX.at0 | exact SX.at1 | exact SX.at2 | exact SX.at3 | exact SX.at4 | exact SX.at5 | exact Z.at6 | exact Z.at7 | exact Z.at8 | exact Z.at9 | exact Z.at10 | exact Z.at11 | exact Z.at12) (by rfl) ?_
  clear hs; intro ws hs
  simp only [Nat.zero_add, Nat.add_zero, Nat.reduceAdd, Int.reduceToNat, Nat.reduceMul, List.set_cons_zero, List.set_cons_succ, List.setIfInBounds_toArray] at hs
  refine Z.lnil ?_
  refine Z.only [2] rfl ?_
  refine Z.nthen ?_
  refine Z.ret ?_
  -- ret#0
  refine Z.out1 (by exact ⟨⟨_, rfl, Z.rvcA hs Try.isAgg87 (by first | ((repeat (first | exact List.mem_cons_self | refine List.mem_cons_of_mem _ ?_ | refine List.mem_append_right _ ?_)); done) | fail) (by exact Try.sizeOf87)⟩, trivial⟩) ?_
  exact ⟨_, rfl, B, _, d, rfl, rfl, hs.sel [0] (by decide)⟩

theorem uint01 (A : Option Addr) (n c : Nat) (bs : List Bool) (w : World) (hx : Sl w A (ints .u8 (bits bs))) (hl : bs.length = n) (hn : n ≤ 64) :
    Calls Try.prog 80 #[.slice A n c] w (SX.Ret fun r w' => r = .tuple #[.int .u64 (val bs : Int), .int .i64 0] ∧ SX.St w [] w' []) := by
  have hs := SX.St.start w
  have hlb := bits_length bs
  refine Z.enter Try.func80 rfl Try.ntmps80 rfl rfl ?_
  refine Z.seq ?_
  refine Z.region ?_
  refine Z.lb 2 rfl ?_
  refine Z.lnil ?_
  refine Z.only [0] rfl ?_
  refine Z.nthen ?_
  refine Z.seq ?_
  refine Z.seq ?_
  refine Z.region ?_
  refine Z.lb 1 rfl ?_
  refine Z.le rfl trivial ?_
  refine Z.ZO.call rfl rfl (by rfl) rfl rfl Try.call76 rfl (valid01 A n c bs _ (hx.st hs) hl (by omega)) ?_
  rintro v1_1 w1_1 ⟨rfl, hy⟩
  replace hs := hs.call hy
  clear hy
  try simp only [List.cons_append, List.nil_append, List.append_nil] at hs
  refine Z.lb 1 rfl ?_
  refine Z.lnil ?_
  refine Z.only [0, 8] rfl ?_
  refine Z.nthen ?_
  refine Z.cond rfl (fun h => absurd h (by simp)) (fun hc1 => ?_)
  refine Z.skip ?_
  refine Z.nthen ?_
  refine Z.seq ?_
  refine Z.seq ?_
  refine Z.region ?_
  refine Z.lb 1 rfl ?_
  refine Z.l rfl rfl (by rfl) (Z.keepS hs) (Z.Yd.lenS rfl Try.underlying26) ?_
  refine Z.lb 1 rfl ?_
  refine Z.lnil ?_
  refine Z.only [0, 11] rfl ?_
  refine Z.nthen ?_
  refine Z.cond rfl (fun hc3 => ?_) (fun hc3 => ?_)
  · first
      | (exfalso; simp at hc3 <;> omega)
      | (
        (try simp at hc3)
        refine Z.seq ?_
        refine Z.region ?_
        refine Z.lb 2 rfl ?_
        refine Z.lnil ?_
        refine Z.only [2, 3] rfl ?_
        refine Z.nthen ?_
        refine Z.ret ?_
        repeat (first | refine Z.rthen ?_ | refine Z.rblock ?_ | refine Z.rscope ?_)
        -- ret#0
        refine Z.out2 (by exact ⟨rfl, rfl, trivial⟩) ?_
        rw [List.take_of_length_le (by omega)]
        exact ⟨_, rfl, rfl, hs⟩
        )
  · first
      | (exfalso; simp at hc3 <;> omega)
      | (
        (try simp at hc3)
        refine Z.skip ?_
        refine Z.nthen ?_
        refine Z.seq ?_
        refine Z.region ?_
        refine Z.lb 1 rfl ?_
        refine Z.lnil ?_
        refine Z.only [0, 4] rfl ?_
        refine Z.nthen ?_
        refine Z.seq ?_
        refine Z.seq ?_
        refine Z.region ?_
        refine Z.lb 1 rfl ?_
        refine Z.lnil ?_
        refine Z.only [0, 4, 5] rfl ?_
        refine Z.nthen ?_
        refine Z.block ?_
        refine Z.loopk (ι := Nat) [0] rfl (fun k => [(4, [], .int .u64 (val (bs.take k) : Int)), (5, [], .int .i64 (k : Int))]) (fun k wr => k ≤ n ∧ SX.St w [] wr []) (fun k => n - k) 0 (by refine ⟨?_, ?_, trivial⟩ <;> (first | rfl | (refine Z.lookv rfl ?_; simp; done) | (refine Z.lookv rfl ?_; simp; omega))) ⟨by omega, hs⟩ ?_
        clear hs
        rintro k w1 ⟨hkn, hs⟩
        refine Z.only [0, 4, 5] rfl ?_
        refine Z.seq ?_
        refine Z.seq ?_
        refine Z.region ?_
        refine Z.lb 2 rfl ?_
        refine Z.l rfl rfl (by rfl) (Z.keepS hs) (Z.Yd.lenS rfl Try.underlying26) ?_
        refine Z.lb 1 rfl ?_
        refine Z.lnil ?_
        refine Z.only [0, 4, 5, 15] rfl ?_
        refine Z.nthen ?_
        refine Z.cond rfl (fun hc7 => ?_) (fun hc7 => ?_)
        · first
            | (exfalso; simp at hc7 <;> omega)
            | (
              (try simp at hc7)
              obtain ⟨b, off, rfl, hb, hx⟩ := Z.Sl.some hx (by simp [ints]; omega)
              have he := elt_bits (bs := bs) (i := k) (by omega)
              have hbb := bi_bd (bt bs k)
              have hv := val_bd63 (bs := bs.take k) (by simp; omega)
              have hbn := bi_nat (bt bs k)
              have hvs : val (bs.take (k + 1)) = 2 * val (bs.take k) + (bt bs k).toNat := by rw [take_bt (by omega), val_snoc]
              refine Z.skip ?_
              refine Z.nthen ?_
              refine Z.seq ?_
              refine Z.block ?_
              refine Z.region ?_
              refine Z.lb 1 rfl ?_
              refine Z.l rfl rfl (by rfl) (Z.keepS hs) (Z.Yd.mul rfl rfl (fun hG => Z.wu64 (by first | omega | (have hG' := Z.gh rfl hG; simp at hG'; omega)))) ?_
              refine Z.lb 2 rfl ?_
              refine Z.l rfl rfl (by rfl) (Z.keepS hs) (Z.Yd.elem rfl rfl Try.underlying26 Try.sizeOf5 (fun hG => ⟨(by first | omega | (have hG' := Z.gh rfl hG; simp at hG'; omega)), (by first | omega | (have hG' := Z.gh rfl hG; simp at hG'; omega))⟩)) ?_
              refine Z.l rfl rfl (by rfl) (Z.keepS hs) (Z.Yd.load rfl Try.isAgg5 (fun _ => he ▸ Z.cellS hx rfl (by first | omega | (have hG' := Z.gh rfl hG; simp at hG'; omega)) (by first | omega | (have hG' := Z.gh rfl hG; simp at hG'; omega)))) ?_
              refine Z.l rfl rfl (by rfl) (Z.keepS hs) (Z.Yd.convI rfl ⟨_, Try.underlying5⟩ Try.underlying62 (fun hG => Z.wu64 (by first | omega | (have hG' := Z.gh rfl hG; simp at hG'; omega)))) ?_
              refine Z.l rfl rfl (by rfl) (Z.keepS hs) (Z.Yd.add rfl rfl (fun hG => Z.wu64 (by first | omega | (have hG' := Z.gh rfl hG; simp at hG'; omega)))) ?_
              refine Z.lb 1 rfl ?_
              refine Z.lnil ?_
              refine Z.only [0, 4, 5] rfl ?_
              refine Z.nblock ?_
              refine Z.nthen ?_
              refine Z.region ?_
              refine Z.lb 1 rfl ?_
              refine Z.l rfl rfl (by rfl) (Z.keepS hs) (Z.Yd.add rfl rfl (fun hG => Z.wi64 (by first | omega | (have hG' := Z.gh rfl hG; simp at hG'; omega)))) ?_
              refine Z.lb 1 rfl ?_
              refine Z.lnil ?_
              refine Z.only [0, 4, 5] rfl ?_
              refine Z.nthen ?_
              refine Z.again (k + 1) ?_ ⟨by omega, hs⟩ (by omega)
              rw [hvs, show ((2 * val (bs.take k) + (bt bs k).toNat : Nat) : Int) = 2 * (val (bs.take k) : Int) + bi (bt bs k) from by rw [hbn]; push_cast; rfl]
              exact (by refine ⟨?_, ?_, ?_, trivial⟩ <;> (first | rfl | (refine Z.lookv rfl ?_; simp; done) | (refine Z.lookv rfl ?_; simp; omega)))
              )
        · first
            | (exfalso; simp at hc7 <;> omega)
            | (
              (try simp at hc7)
              refine Z.exit ?_
              refine Z.xthen ?_
              refine Z.xthen ?_
              refine Z.xblock ?_
              refine Z.nthen ?_
              refine Z.seq ?_
              refine Z.region ?_
              refine Z.lb 3 rfl ?_
              refine Z.lnil ?_
              refine Z.only [2, 3] rfl ?_
              refine Z.nthen ?_
              refine Z.ret ?_
              -- ret#1
              refine Z.out2 (by exact ⟨rfl, rfl, trivial⟩) ?_
              rw [List.take_of_length_le (by omega)]
              exact ⟨_, rfl, rfl, hs⟩
              )
        )

theorem weight01 (A : Option Addr) (n c : Nat) (bs : List Bool) (w : World) (hx : Sl w A (ints .u8 (bits bs))) (hl : bs.length = n) (hn : n ≤ 100000000) :
    Calls Try.prog 71 #[.slice A n c] w (SX.Ret fun r w' => r = .int .i64 (bs.countP id : Int) ∧ SX.St w [] w' []) := by
  have hs := SX.St.start w
  have hlb := bits_length bs
  refine Z.enter Try.func71 rfl Try.ntmps71 rfl rfl ?_
  refine Z.seq ?_
  refine Z.region ?_
  refine Z.lb 1 rfl ?_
  refine Z.lnil ?_
  refine Z.only [0] rfl ?_
  refine Z.nthen ?_
  refine Z.seq ?_
  refine Z.region ?_
  refine Z.lb 1 rfl ?_
  refine Z.lnil ?_
  refine Z.only [0, 3] rfl ?_
  refine Z.nthen ?_
  refine Z.seq ?_
  refine Z.seq ?_
  refine Z.region ?_
  refine Z.lb 1 rfl ?_
  refine Z.lnil ?_
  refine Z.only [0, 3, 4] rfl ?_
  refine Z.nthen ?_
  refine Z.block ?_
  refine Z.loopk (ι := Nat) [0] rfl (fun k => [(3, [], .int .i64 ((bs.take k).countP id : Int)), (4, [], .int .i64 (k : Int))]) (fun k wr => k ≤ n ∧ SX.St w [] wr []) (fun k => n - k) 0 (by refine ⟨?_, ?_, trivial⟩ <;> (first | rfl | (refine Z.lookv rfl ?_; simp; done) | (refine Z.lookv rfl ?_; simp; omega))) ⟨by omega, hs⟩ ?_
  clear hs
  rintro k w1 ⟨hkn, hs⟩
  refine Z.only [0, 3, 4] rfl ?_
  refine Z.seq ?_
  refine Z.seq ?_
  refine Z.region ?_
  refine Z.lb 2 rfl ?_
  refine Z.l rfl rfl (by rfl) (Z.keepS hs) (Z.Yd.lenS rfl Try.underlying26) ?_
  refine Z.lb 1 rfl ?_
  refine Z.lnil ?_
  refine Z.only [0, 3, 4, 8] rfl ?_
  refine Z.nthen ?_
  refine Z.cond rfl (fun hc3 => ?_) (fun hc3 => ?_)
  · first
      | (exfalso; simp at hc3 <;> omega)
      | (
        (try simp at hc3)
        obtain ⟨b, off, rfl, hb, hx⟩ := Z.Sl.some hx (by simp [ints]; omega)
        have he := elt_bits (bs := bs) (i := k) (by omega)
        have hcl : (bs.take k).countP id ≤ n := Nat.le_trans List.countP_le_length (by simp; omega)
        have hvs : (bs.take (k + 1)).countP id = (bs.take k).countP id + (bt bs k).toNat := by rw [take_bt (by omega), List.countP_append]; cases bt bs k <;> rfl
        refine Z.skip ?_
        refine Z.nthen ?_
        refine Z.seq ?_
        refine Z.block ?_
        refine Z.seq ?_
        refine Z.region ?_
        refine Z.lb 2 rfl ?_
        refine Z.l rfl rfl (by rfl) (Z.keepS hs) (Z.Yd.elem rfl rfl Try.underlying26 Try.sizeOf5 (fun hG => ⟨(by first | omega | (have hG' := Z.gh rfl hG; simp at hG'; omega)), (by first | omega | (have hG' := Z.gh rfl hG; simp at hG'; omega))⟩)) ?_
        refine Z.l rfl rfl (by rfl) (Z.keepS hs) (Z.Yd.load rfl Try.isAgg5 (fun _ => he ▸ Z.cellS hx rfl (by first | omega | (have hG' := Z.gh rfl hG; simp at hG'; omega)) (by first | omega | (have hG' := Z.gh rfl hG; simp at hG'; omega)))) ?_
        refine Z.lb 1 rfl ?_
        refine Z.lnil ?_
        refine Z.only [0, 3, 4, 15] rfl ?_
        refine Z.nthen ?_
        refine Z.cond rfl (fun hc5 => ?_) (fun hc5 => ?_)
        · first
            | (exfalso; simp at hc5 <;> omega)
            | (
              (try simp at hc5)
              refine Z.region ?_
              refine Z.lb 1 rfl ?_
              refine Z.l rfl rfl (by rfl) (Z.keepS hs) (Z.Yd.add rfl rfl (fun hG => Z.wi64 (by first | omega | (have hG' := Z.gh rfl hG; simp at hG'; omega)))) ?_
              refine Z.lb 1 rfl ?_
              refine Z.lnil ?_
              refine Z.only [0, 3, 4] rfl ?_
              refine Z.nblock ?_
              refine Z.nthen ?_
              refine Z.region ?_
              refine Z.lb 1 rfl ?_
              refine Z.l rfl rfl (by rfl) (Z.keepS hs) (Z.Yd.add rfl rfl (fun hG => Z.wi64 (by first | omega | (have hG' := Z.gh rfl hG; simp at hG'; omega)))) ?_
              refine Z.lb 1 rfl ?_
              refine Z.lnil ?_
              refine Z.only [0, 3, 4] rfl ?_
              refine Z.nthen ?_
              first
              | (have hb1 : bt bs k = true := by cases h : bt bs k with
                   | true => rfl
                   | false => rw [h] at hc5; simp [bi] at hc5
                 refine Z.again (k + 1) ?_ ⟨by omega, hs⟩ (by omega)
                 rw [hvs, hb1]
                 exact (by refine ⟨?_, ?_, ?_, trivial⟩ <;> (first | rfl | (refine Z.lookv rfl ?_; simp; done) | (refine Z.lookv rfl ?_; simp; omega))))
              | (have hb0 : bt bs k = false := by cases h : bt bs k with
                   | false => rfl
                   | true => rw [h] at hc5; simp [bi] at hc5
                 refine Z.again (k + 1) ?_ ⟨by omega, hs⟩ (by omega)
                 rw [hvs, hb0]
                 exact (by refine ⟨?_, ?_, ?_, trivial⟩ <;> (first | rfl | (refine Z.lookv rfl ?_; simp; done) | (refine Z.lookv rfl ?_; simp; omega))))
              )
        · first
            | (exfalso; simp at hc5 <;> omega)
            | (
              (try simp at hc5)
              refine Z.skip ?_
              refine Z.nblock ?_
              refine Z.nthen ?_
              refine Z.region ?_
              refine Z.lb 1 rfl ?_
              refine Z.l rfl rfl (by rfl) (Z.keepS hs) (Z.Yd.add rfl rfl (fun hG => Z.wi64 (by first | omega | (have hG' := Z.gh rfl hG; simp at hG'; omega)))) ?_
              refine Z.lb 1 rfl ?_
              refine Z.lnil ?_
              refine Z.only [0, 3, 4] rfl ?_
              refine Z.nthen ?_
              first
              | (have hb1 : bt bs k = true := by cases h : bt bs k with
                   | true => rfl
                   | false => rw [h] at hc5; simp [bi] at hc5
                 refine Z.again (k + 1) ?_ ⟨by omega, hs⟩ (by omega)
                 rw [hvs, hb1]
                 exact (by refine ⟨?_, ?_, ?_, trivial⟩ <;> (first | rfl | (refine Z.lookv rfl ?_; simp; done) | (refine Z.lookv rfl ?_; simp; omega))))
              | (have hb0 : bt bs k = false := by cases h : bt bs k with
                   | false => rfl
                   | true => rw [h] at hc5; simp [bi] at hc5
                 refine Z.again (k + 1) ?_ ⟨by omega, hs⟩ (by omega)
                 rw [hvs, hb0]
                 exact (by refine ⟨?_, ?_, ?_, trivial⟩ <;> (first | rfl | (refine Z.lookv rfl ?_; simp; done) | (refine Z.lookv rfl ?_; simp; omega))))
              )
        )
  · first
      | (exfalso; simp at hc3 <;> omega)
      | (
        (try simp at hc3)
        refine Z.exit ?_
        refine Z.xthen ?_
        refine Z.xthen ?_
        refine Z.xblock ?_
        refine Z.nthen ?_
        refine Z.seq ?_
        refine Z.region ?_
        refine Z.lb 2 rfl ?_
        refine Z.lnil ?_
        refine Z.only [2] rfl ?_
        refine Z.nthen ?_
        refine Z.ret ?_
        -- ret#0
        refine Z.out1 (by exact ⟨rfl, trivial⟩) ?_
        rw [List.take_of_length_le (by omega)]
        exact ⟨_, rfl, rfl, hs⟩
        )

end Go.Proofs.Ytcieclifabbkjaa

/- The document's reader: Get, GetBytes, Align, End. -/
namespace Go.Proofs.Ytcieclifabbkjaa
open Go.RowKit
set_option linter.unusedSimpArgs false
set_option linter.unusedVariables false

theorem bits_cut {l : List Int} {a n : Nat} (h : a + n ≤ l.length * 8) : ints .u8 (bits (bitsAt l a n)) <+: (ints .u8 (bits (unb l))).drop (a * 1) := by
  rw [Nat.mul_one]
  have e : (ints .u8 (bits (unb l))).drop a = ints .u8 (bits ((unb l).drop a)) := by simp [ints, bits]
  rw [e]
  unfold bitsAt
  have e2 : ints .u8 (bits (((unb l).drop a).take n)) = (ints .u8 (bits ((unb l).drop a))).take n := by simp [ints, bits]
  rw [e2]
  exact List.take_prefix _ _

set_option maxRecDepth 100000 in
theorem refget (A : Option Addr) (n c : Nat) (l : List Int) (a : Nat) (wd : Int) (w : World) (hx : Sl w A (ints .u8 (bits (unb l)))) (hn : n = l.length * 8) (hc : n ≤ c) (hll : l.length ≤ 1000000) (ha : a ≤ 8 * l.length) :
    Calls Try.prog 70 #[.agg #[.slice A n c, .int .i64 (a : Int)], .int .i64 wd] w (SX.Ret fun r w' => r = .tuple #[.agg #[.slice A n c, .int .i64 (getA l a wd : Int)], .int .u64 (getV l a wd), .int .i64 (getE l a wd)] ∧ SX.St w [] w' []) := by
  have hs := SX.St.start w
  refine Z.enter Try.func70 rfl Try.ntmps70 rfl rfl ?_
  refine Z.seq ?_
  refine Z.region ?_
  refine Z.le rfl trivial ?_
  refine Z.ZO.box rfl rfl (by rfl) rfl rfl hs ?_
  clear hs; intro g2 w2 hs
  refine Z.le rfl trivial ?_
  refine Z.ZO.alloc rfl rfl (by rfl) Try.zeroValue87 rfl hs ?_
  clear hs; intro g4 w4 hs
  refine Z.lb 2 rfl ?_
  refine Z.lnil ?_
  refine Z.only [1, 2, 4] rfl ?_
  refine Z.nthen ?_
  refine Z.seq ?_
  refine Z.seq ?_
  refine Z.region ?_
  refine Z.lb 6 rfl ?_
  refine Z.lnil ?_
  refine Z.only [1, 2, 4, 14] rfl ?_
  refine Z.nthen ?_
  refine Z.cond rfl (fun hc1 => ?_) (fun hc1 => ?_)
  · first
      | (exfalso; simp at hc1 <;> omega)
      | (
        (try simp at hc1)
        refine Z.seq ?_
        refine Z.region ?_
        refine Z.l rfl rfl (by rfl) (Z.keepS hs) (by first | exact Z.Yd.loadA _ rfl Try.isAgg87 (fun _ => Z.cellsB (by first | ((repeat (first | exact List.mem_cons_self | refine List.mem_cons_of_mem _ ?_ | refine List.mem_append_right _ ?_)); done) | fail)) (by exact Try.sizeOf87) | fail "load 2.0") ?_
        refine Z.le rfl trivial ?_
        refine Z.ZO.storeA rfl rfl hs rfl rfl (by kernel_rfl) (by first | (simp [Value.oneCell']; done) | (refine Z.all_one ?_; assumption)) (by first | exact SX.at0 | exact SX.at1 | exact SX.at2 | exact SX.at3 | exact SX.at4 | exact SX.at5 | exact Z.at6 | exact Z.at7 | exact Z.at8 | exact Z.at9 | exact Z.at10 | exact Z.at11 | exact Z.at12) (by rfl) ?_
        clear hs; intro ws hs
        simp only [Nat.zero_add, Nat.add_zero, Nat.reduceAdd, Int.reduceToNat, Nat.reduceMul, List.set_cons_zero, List.set_cons_succ, List.setIfInBounds_toArray] at hs
        refine Z.lb 2 rfl ?_
        refine Z.lnil ?_
        refine Z.only [4, 5, 6] rfl ?_
        refine Z.nthen ?_
        refine Z.ret ?_
        repeat (first | refine Z.rthen ?_ | refine Z.rblock ?_ | refine Z.rscope ?_)
        -- ret#0
        refine Z.out3 (by exact ⟨⟨_, rfl, Z.rvcA hs Try.isAgg87 (by first | ((repeat (first | exact List.mem_cons_self | refine List.mem_cons_of_mem _ ?_ | refine List.mem_append_right _ ?_)); done) | fail) (by exact Try.sizeOf87)⟩, rfl, rfl, trivial⟩) ?_
        have e : getE l a wd = 2 := by unfold getE; rw [if_pos (by omega)]
        refine ⟨_, rfl, ?_, hs.sub (List.nil_sublist _)⟩
        unfold getA getV
        rw [e]
        rfl
        )
  · first
      | (exfalso; simp at hc1 <;> omega)
      | (
        (try simp at hc1)
        refine Z.skip ?_
        refine Z.nthen ?_
        refine Z.seq ?_
        refine Z.seq ?_
        refine Z.region ?_
        refine Z.lb 1 rfl ?_
        refine Z.l rfl rfl (by rfl) (Z.keepS hs) (Z.Yd.fieldA (m := 0) rfl (by kernel_rfl)) ?_
        refine Z.l rfl rfl (by rfl) (Z.keepS hs) (by first | exact Z.Yd.load rfl Try.isAgg26 (fun _ => Z.cellB (by first | ((repeat (first | exact List.mem_cons_self | refine List.mem_cons_of_mem _ ?_ | refine List.mem_append_right _ ?_)); done) | fail) rfl) | exact Z.Yd.load rfl Try.isAgg26 (fun _ => Z.cellO (by assumption) (by simp) (by assumption)) | fail "load 3.2") ?_
        refine Z.l rfl rfl (by rfl) (Z.keepS hs) (Z.Yd.lenS rfl Try.underlying26) ?_
        refine Z.l rfl rfl (by rfl) (Z.keepS hs) (Z.Yd.fieldA (m := 1) rfl (by kernel_rfl)) ?_
        refine Z.l rfl rfl (by rfl) (Z.keepS hs) (by first | exact Z.Yd.load rfl Try.isAgg3 (fun _ => Z.cellB (by first | ((repeat (first | exact List.mem_cons_self | refine List.mem_cons_of_mem _ ?_ | refine List.mem_append_right _ ?_)); done) | fail) rfl) | exact Z.Yd.load rfl Try.isAgg3 (fun _ => Z.cellO (by assumption) (by simp) (by assumption)) | fail "load 3.5") ?_
        refine Z.l rfl rfl (by rfl) (Z.keepS hs) (Z.Yd.sub rfl rfl (fun hG => Z.wi64 (by first | omega | (have hG' := Z.gh rfl hG; simp at hG'; omega)))) ?_
        refine Z.lb 1 rfl ?_
        refine Z.lnil ?_
        refine Z.only [1, 2, 4, 23] rfl ?_
        refine Z.nthen ?_
        refine Z.cond rfl (fun hc3 => ?_) (fun hc3 => ?_)
        · first
            | (exfalso; simp at hc3 <;> omega)
            | (
              (try simp at hc3)
              refine Z.seq ?_
              refine Z.region ?_
              refine Z.l rfl rfl (by rfl) (Z.keepS hs) (by first | exact Z.Yd.loadA _ rfl Try.isAgg87 (fun _ => Z.cellsB (by first | ((repeat (first | exact List.mem_cons_self | refine List.mem_cons_of_mem _ ?_ | refine List.mem_append_right _ ?_)); done) | fail)) (by exact Try.sizeOf87) | fail "load 4.0") ?_
              refine Z.le rfl trivial ?_
              refine Z.ZO.storeA rfl rfl hs rfl rfl (by kernel_rfl) (by first | (simp [Value.oneCell']; done) | (refine Z.all_one ?_; assumption)) (by first | exact SX.at0 | exact SX.at1 | exact SX.at2 | exact SX.at3 | exact SX.at4 | exact SX.at5 | exact Z.at6 | exact Z.at7 | exact Z.at8 | exact Z.at9 | exact Z.at10 | exact Z.at11 | exact Z.at12) (by rfl) ?_
              clear hs; intro ws hs
              simp only [Nat.zero_add, Nat.add_zero, Nat.reduceAdd, Int.reduceToNat, Nat.reduceMul, List.set_cons_zero, List.set_cons_succ, List.setIfInBounds_toArray] at hs
              refine Z.lb 2 rfl ?_
              refine Z.lnil ?_
              refine Z.only [4, 5, 6] rfl ?_
              refine Z.nthen ?_
              refine Z.ret ?_
              repeat (first | refine Z.rthen ?_ | refine Z.rblock ?_ | refine Z.rscope ?_)
              -- ret#1
              refine Z.out3 (by exact ⟨⟨_, rfl, Z.rvcA hs Try.isAgg87 (by first | ((repeat (first | exact List.mem_cons_self | refine List.mem_cons_of_mem _ ?_ | refine List.mem_append_right _ ?_)); done) | fail) (by exact Try.sizeOf87)⟩, rfl, rfl, trivial⟩) ?_
              have e : getE l a wd = 5 := by unfold getE; rw [if_neg (by omega), if_pos (by omega)]
              refine ⟨_, rfl, ?_, hs.sub (List.nil_sublist _)⟩
              unfold getA getV
              rw [e]
              rfl
              )
        · first
            | (exfalso; simp at hc3 <;> omega)
            | (
              (try simp at hc3)
              refine Z.skip ?_
              refine Z.nthen ?_
              refine Z.seq ?_
              refine Z.region ?_
              have e : getE l a wd = 0 := by unfold getE; rw [if_neg (by omega), if_neg (by omega)]
              obtain ⟨wd, rfl⟩ := Int.eq_ofNat_of_zero_le (show 0 ≤ wd by omega)
              have hbl := bitsAt_length (l := l) (a := a) (n := wd) (by omega)
              have hbl2 := unb_length l
              have hcc : c = a → ints .u8 (bits (bitsAt l a wd)) = [] := fun e0 => by
                obtain rfl : wd = 0 := by omega
                rfl
              refine Z.l rfl rfl (by rfl) (Z.keepS hs) (Z.Yd.fieldA (m := 0) rfl (by kernel_rfl)) ?_
              refine Z.l rfl rfl (by rfl) (Z.keepS hs) (by first | exact Z.Yd.load rfl Try.isAgg26 (fun _ => Z.cellB (by first | ((repeat (first | exact List.mem_cons_self | refine List.mem_cons_of_mem _ ?_ | refine List.mem_append_right _ ?_)); done) | fail) rfl) | exact Z.Yd.load rfl Try.isAgg26 (fun _ => Z.cellO (by assumption) (by simp) (by assumption)) | fail "load 5.1") ?_
              refine Z.l rfl rfl (by rfl) (Z.keepS hs) (Z.Yd.fieldA (m := 1) rfl (by kernel_rfl)) ?_
              refine Z.l rfl rfl (by rfl) (Z.keepS hs) (by first | exact Z.Yd.load rfl Try.isAgg3 (fun _ => Z.cellB (by first | ((repeat (first | exact List.mem_cons_self | refine List.mem_cons_of_mem _ ?_ | refine List.mem_append_right _ ?_)); done) | fail) rfl) | exact Z.Yd.load rfl Try.isAgg3 (fun _ => Z.cellO (by assumption) (by simp) (by assumption)) | fail "load 5.3") ?_
              refine Z.l rfl rfl (by rfl) (Z.keepS hs) (Z.Yd.fieldA (m := 1) rfl (by kernel_rfl)) ?_
              refine Z.l rfl rfl (by rfl) (Z.keepS hs) (by first | exact Z.Yd.load rfl Try.isAgg3 (fun _ => Z.cellB (by first | ((repeat (first | exact List.mem_cons_self | refine List.mem_cons_of_mem _ ?_ | refine List.mem_append_right _ ?_)); done) | fail) rfl) | exact Z.Yd.load rfl Try.isAgg3 (fun _ => Z.cellO (by assumption) (by simp) (by assumption)) | fail "load 5.5") ?_
              refine Z.lb 1 rfl ?_
              refine Z.l rfl rfl (by rfl) (Z.keepS hs) (Z.Yd.add rfl rfl (fun hG => Z.wi64 (by first | omega | (have hG' := Z.gh rfl hG; simp at hG'; omega)))) ?_
              refine Z.l rfl rfl (by rfl) (Z.keepS hs) (Z.Yd.cut a (a + wd) rfl (Z.lvl_some rfl (by intro hG; first | rfl | exact (by first | omega | (have hG' := Z.gh rfl hG; simp at hG'; omega)))) (Z.lvl_some rfl (by intro hG; first | rfl | exact (by first | omega | (have hG' := Z.gh rfl hG; simp at hG'; omega)))) Try.underlying26 Try.sizeOf5 (fun hG => ⟨(by first | omega | (have hG' := Z.gh rfl hG; simp at hG'; omega)), (by first | omega | (have hG' := Z.gh rfl hG; simp at hG'; omega))⟩)) ?_
              refine Z.le rfl trivial ?_
              refine Z.ZO.call rfl rfl (by rfl) rfl rfl Try.call80 rfl (uint01 (slA A c a 1) _ (c - a) (bitsAt l a wd) _ ((hx.cut (bits_cut (by omega)) hcc).st (hs.sub (List.nil_sublist _))) (by rw [hbl]; omega) (by omega)) ?_
              rintro v5_9 w5_9 ⟨rfl, hy⟩
              replace hs := hs.call hy
              clear hy
              try simp only [List.cons_append, List.nil_append, List.append_nil] at hs
              refine Z.lb 5 rfl ?_
              refine Z.lnil ?_
              refine Z.only [1, 2, 4, 7] rfl ?_
              refine Z.nthen ?_
              refine Z.seq ?_
              refine Z.region ?_
              refine Z.l rfl rfl (by rfl) (Z.keepS hs) (Z.Yd.fieldA (m := 1) rfl (by kernel_rfl)) ?_
              refine Z.l rfl rfl (by rfl) (Z.keepS hs) (by first | exact Z.Yd.load rfl Try.isAgg3 (fun _ => Z.cellB (by first | ((repeat (first | exact List.mem_cons_self | refine List.mem_cons_of_mem _ ?_ | refine List.mem_append_right _ ?_)); done) | fail) rfl) | exact Z.Yd.load rfl Try.isAgg3 (fun _ => Z.cellO (by assumption) (by simp) (by assumption)) | fail "load 6.1") ?_
              refine Z.lb 1 rfl ?_
              refine Z.l rfl rfl (by rfl) (Z.keepS hs) (Z.Yd.add rfl rfl (fun hG => Z.wi64 (by first | omega | (have hG' := Z.gh rfl hG; simp at hG'; omega)))) ?_
              refine Z.l rfl rfl (by rfl) (Z.keepS hs) (Z.Yd.fieldA (m := 1) rfl (by kernel_rfl)) ?_
              refine Z.le rfl trivial ?_
              first | refine Z.ZO.store rfl rfl hs Try.sizeOf3 rfl rfl rfl (by first | exact SX.at0 | exact SX.at1 | exact SX.at2 | exact SX.at3 | exact SX.at4 | exact SX.at5 | exact Z.at6 | exact Z.at7 | exact Z.at8 | exact Z.at9 | exact Z.at10 | exact Z.at11 | exact Z.at12) (by first | (simp; done) | (simp; omega)) ?_ | refine Z.ZO.storeR rfl rfl hs Try.sizeOf3 rfl rfl rfl (by first | exact SX.at0 | exact SX.at1 | exact SX.at2 | exact SX.at3 | exact SX.at4 | exact SX.at5 | exact Z.at6 | exact Z.at7 | exact Z.at8 | exact Z.at9 | exact Z.at10 | exact Z.at11 | exact Z.at12) (by first | omega | (simp [ints_length]; done) | (simp [ints_length]; omega)) ?_
              clear hs; intro ws hs
              simp only [Nat.zero_add, Nat.add_zero, Nat.reduceAdd, Int.reduceToNat, Nat.reduceMul, List.set_cons_zero, List.set_cons_succ, List.setIfInBounds_toArray] at hs
              refine Z.lnil ?_
              refine Z.only [2, 4, 7] rfl ?_
              refine Z.nthen ?_
              refine Z.seq ?_
              refine Z.region ?_
              refine Z.l rfl rfl (by rfl) (Z.keepS hs) (by first | exact Z.Yd.loadA _ rfl Try.isAgg87 (fun _ => Z.cellsB (by first | ((repeat (first | exact List.mem_cons_self | refine List.mem_cons_of_mem _ ?_ | refine List.mem_append_right _ ?_)); done) | fail)) (by exact Try.sizeOf87) | fail "load 7.0") ?_
              refine Z.lb 1 rfl ?_
              refine Z.le rfl trivial ?_
              refine Z.ZO.storeA rfl rfl hs rfl rfl (by kernel_rfl) (by first | (simp [Value.oneCell']; done) | (refine Z.all_one ?_; assumption)) (by first | exact SX.at0 | exact SX.at1 | exact SX.at2 | exact SX.at3 | exact SX.at4 | exact SX.at5 | exact Z.at6 | exact Z.at7 | exact Z.at8 | exact Z.at9 | exact Z.at10 | exact Z.at11 | exact Z.at12) (by rfl) ?_
              clear hs; intro ws hs
              simp only [Nat.zero_add, Nat.add_zero, Nat.reduceAdd, Int.reduceToNat, Nat.reduceMul, List.set_cons_zero, List.set_cons_succ, List.setIfInBounds_toArray] at hs
              refine Z.lb 2 rfl ?_
              refine Z.lnil ?_
              refine Z.only [4, 5, 6] rfl ?_
              refine Z.nthen ?_
              refine Z.ret ?_
              -- ret#2
              refine Z.out3 (by exact ⟨⟨_, rfl, Z.rvcA hs Try.isAgg87 (by first | ((repeat (first | exact List.mem_cons_self | refine List.mem_cons_of_mem _ ?_ | refine List.mem_append_right _ ?_)); done) | fail) (by exact Try.sizeOf87)⟩, rfl, rfl, trivial⟩) ?_
              refine ⟨_, rfl, ?_, hs.sub (List.nil_sublist _)⟩
              unfold getA getV
              rw [e]
              simp
              )
        )

theorem bt_drop (bs : List Bool) (m i : Nat) : bt (bs.drop m) i = bt bs (m + i) := by simp [bt, List.getD_eq_getElem?_getD]
theorem bt_take {bs : List Bool} {m i : Nat} (h : i < m) : bt (bs.take m) i = bt bs i := by simp [bt, List.getD_eq_getElem?_getD, h]
theorem val8 (bs : List Bool) (h : bs.length = 8) : val bs = byt bs 0 := by
  match bs, h with
  | [b0, b1, b2, b3, b4, b5, b6, b7], _ =>
    simp only [val, List.foldl_cons, List.foldl_nil, byt, bn, bt]
    simp
    omega
theorem byt_drop (bs : List Bool) (j : Nat) : byt ((bs.drop (8 * j)).take 8) 0 = byt bs j := by
  unfold byt bn
  simp only [Nat.mul_zero, Nat.zero_add]
  rw [bt_take (by omega), bt_take (by omega), bt_take (by omega), bt_take (by omega), bt_take (by omega), bt_take (by omega), bt_take (by omega), bt_take (by omega)]
  simp only [bt_drop, Nat.add_zero]
theorem gsV_get {l : List Int} : ∀ (n j : Nat) {a : Nat}, j < n → a + 8 * n ≤ 8 * l.length → (gsV l a (List.replicate n 8))[j]? = some ((val (bitsAt l (a + 8 * j) 8) : Nat) : Int)
  | 0, j, a, h, _ => by omega
  | n + 1, j, a, h, h2 => by
    have h1 : getE l a 8 = 0 := getE_ok (l := l) (a := a) (n := 8) (by omega) (by decide)
    have h3 : getA l a 8 = a + 8 := by unfold getA; rw [if_pos h1]; rfl
    have h4 : getV l a 8 = ((val (bitsAt l a 8) : Nat) : Int) := by unfold getV; rw [if_pos h1]; rfl
    rw [List.replicate_succ]
    simp only [gsV]
    cases j with
    | zero => rw [h4]; rfl
    | succ j =>
      rw [List.getElem?_cons_succ, h3, gsV_get n j (by omega) (by omega)]
      rw [show a + 8 + 8 * j = a + 8 * (j + 1) from by omega]
theorem pk_bitsAt {l : List Int} {a n : Nat} (h : a + 8 * n ≤ 8 * l.length) : pk (bitsAt l a (8 * n)) = gsV l a (List.replicate n 8) := by
  apply List.ext_getElem?
  intro j
  have hbl := bitsAt_length (l := l) (a := a) (n := 8 * n) (by omega)
  by_cases hj : j < n
  · rw [gsV_get n j hj h]
    unfold pk pkn
    rw [List.getElem?_map, List.getElem?_range (by omega)]
    simp only [Option.map_some]
    have e : bitsAt l (a + 8 * j) 8 = ((bitsAt l a (8 * n)).drop (8 * j)).take 8 := by
      unfold bitsAt
      rw [List.drop_take, List.drop_drop, List.take_take, Nat.min_eq_left (by omega)]
    rw [e, val8 _ (by rw [List.length_take, List.length_drop, hbl]; omega), byt_drop]
  · have h1 := pk_length (bitsAt l a (8 * n))
    have h2 := gsV_length l (List.replicate n 8) a
    rw [List.length_replicate] at h2
    rw [List.getElem?_eq_none (by omega), List.getElem?_eq_none (by omega)]

theorem val_eq_zero : ∀ {bs : List Bool}, val bs = 0 ↔ bs.countP id = 0 := by
  have h : ∀ n (bs : List Bool), bs.length = n → (val bs = 0 ↔ bs.countP id = 0) := by
    intro n
    induction n with
    | zero =>
      intro bs h
      obtain rfl := List.eq_nil_of_length_eq_zero h
      simp [val]
    | succ n ih =>
      intro bs h
      have hne : bs ≠ [] := by intro e; subst e; simp at h
      have e := List.dropLast_concat_getLast hne
      have := ih bs.dropLast (by simp; omega)
      rw [← e, val_snoc, List.countP_append]
      cases bs.getLast hne
      · have e2 : ([false] : List Bool).countP id = 0 := rfl
        have e3 : false.toNat = 0 := rfl
        rw [e2, e3]
        omega
      · have e2 : ([true] : List Bool).countP id = 1 := rfl
        have e3 : true.toNat = 1 := rfl
        rw [e2, e3]
        omega
  exact fun {bs} => h _ bs rfl

set_option maxRecDepth 100000 in
theorem refend (A : Option Addr) (n c : Nat) (l : List Int) (a : Nat) (w : World) (hx : Sl w A (ints .u8 (bits (unb l)))) (hn : n = l.length * 8) (hc : n ≤ c) (hll : l.length ≤ 1000000) (ha : a ≤ 8 * l.length) :
    Calls Try.prog 47 #[.agg #[.slice A n c, .int .i64 (a : Int)]] w (SX.Ret fun r w' => r = .int .i64 (endE l a) ∧ SX.St w [] w' []) := by
  have hs := SX.St.start w
  have hbl2 := unb_length l
  have hbl := bitsAt_length (l := l) (a := a) (n := 8 * l.length - a) (by omega)
  have hcc : c = a → ints .u8 (bits (bitsAt l a (8 * l.length - a))) = [] := fun e0 => by
    rw [show 8 * l.length - a = 0 from by omega]
    rfl
  have hz := @val_eq_zero (bitsAt l a (8 * l.length - a))
  have hcl : (bitsAt l a (8 * l.length - a)).countP id ≤ 8 * l.length - a := Nat.le_trans List.countP_le_length (by omega)
  obtain ⟨cn, hcn⟩ : ∃ cn, cn = (bitsAt l a (8 * l.length - a)).countP id := ⟨_, rfl⟩
  rw [← hcn] at hz hcl
  refine Z.enter Try.func47 rfl Try.ntmps47 rfl rfl ?_
  refine Z.seq ?_
  refine Z.region ?_
  refine Z.le rfl trivial ?_
  refine Z.ZO.box rfl rfl (by rfl) rfl rfl hs ?_
  clear hs; intro g1 w1 hs
  refine Z.lb 1 rfl ?_
  refine Z.lnil ?_
  refine Z.only [1] rfl ?_
  refine Z.nthen ?_
  refine Z.seq ?_
  refine Z.seq ?_
  refine Z.region ?_
  refine Z.l rfl rfl (by rfl) (Z.keepS hs) (Z.Yd.fieldA (m := 0) rfl (by kernel_rfl)) ?_
  refine Z.l rfl rfl (by rfl) (Z.keepS hs) (by first | exact Z.Yd.load rfl Try.isAgg26 (fun _ => Z.cellB (by first | ((repeat (first | exact List.mem_cons_self | refine List.mem_cons_of_mem _ ?_ | refine List.mem_append_right _ ?_)); done) | fail) rfl) | exact Z.Yd.load rfl Try.isAgg26 (fun _ => Z.cellO (by assumption) (by simp) (by assumption)) | fail "load 1.1") ?_
  refine Z.l rfl rfl (by rfl) (Z.keepS hs) (Z.Yd.lenS rfl Try.underlying26) ?_
  refine Z.l rfl rfl (by rfl) (Z.keepS hs) (Z.Yd.fieldA (m := 1) rfl (by kernel_rfl)) ?_
  refine Z.l rfl rfl (by rfl) (Z.keepS hs) (by first | exact Z.Yd.load rfl Try.isAgg3 (fun _ => Z.cellB (by first | ((repeat (first | exact List.mem_cons_self | refine List.mem_cons_of_mem _ ?_ | refine List.mem_append_right _ ?_)); done) | fail) rfl) | exact Z.Yd.load rfl Try.isAgg3 (fun _ => Z.cellO (by assumption) (by simp) (by assumption)) | fail "load 1.4") ?_
  refine Z.l rfl rfl (by rfl) (Z.keepS hs) (Z.Yd.sub rfl rfl (fun hG => Z.wi64 (by first | omega | (have hG' := Z.gh rfl hG; simp at hG'; omega)))) ?_
  refine Z.lb 2 rfl ?_
  refine Z.split (s := 10) rfl (fun hsp10 => ?_) (fun hsp10 => ?_)
  · first
      | (exfalso; simp at hsp10 <;> omega)
      | (
        refine Z.yes (s := 10) (b := true) rfl hsp10 rfl ?_
        (try simp at hsp10)
        refine Z.ls rfl rfl rfl (by rfl) ?_
        refine Z.ls rfl rfl rfl (by rfl) ?_
        refine Z.ls rfl rfl rfl (by rfl) ?_
        refine Z.ls rfl rfl rfl (by rfl) ?_
        refine Z.ls rfl rfl rfl (by rfl) ?_
        refine Z.ls rfl rfl rfl (by rfl) ?_
        refine Z.ls rfl rfl rfl (by rfl) ?_
        refine Z.l rfl rfl (by rfl) (Z.keepS hs) (Z.Yd.pickT rfl rfl) ?_
        refine Z.lnil ?_
        refine Z.only [18] rfl ?_
        refine Z.nthen ?_
        refine Z.cond rfl (fun hc1 => ?_) (fun hc1 => ?_)
        · first
            | (exfalso; simp at hc1 <;> omega)
            | (
              (try simp at hc1)
              refine Z.seq ?_
              refine Z.region ?_
              refine Z.lb 1 rfl ?_
              refine Z.lnil ?_
              refine Z.only [2] rfl ?_
              refine Z.nthen ?_
              refine Z.ret ?_
              repeat (first | refine Z.rthen ?_ | refine Z.rblock ?_ | refine Z.rscope ?_)
              -- ret#0
              refine Z.out1 (by exact ⟨rfl, trivial⟩) ?_
              refine ⟨_, rfl, ?_, hs.sub (List.nil_sublist _)⟩
              unfold endE
              rw [if_pos (by omega)]
              )
        · first
            | (exfalso; simp at hc1 <;> omega)
            | (
              (try simp at hc1)
              refine Z.skip ?_
              refine Z.nthen ?_
              refine Z.seq ?_
              refine Z.region ?_
              refine Z.lb 1 rfl ?_
              refine Z.lnil ?_
              refine Z.only [2] rfl ?_
              refine Z.nthen ?_
              refine Z.ret ?_
              -- ret#1
              refine Z.out1 (by exact ⟨rfl, trivial⟩) ?_
              first | exact ⟨_, rfl, rfl, hs⟩ | exact ⟨_, rfl, rfl, hs.sub (List.nil_sublist _)⟩
              )
        )
  · first
      | (exfalso; simp at hsp10 <;> omega)
      | (
        refine Z.yes (s := 10) (b := false) rfl hsp10 rfl ?_
        (try simp at hsp10)
        refine Z.l rfl rfl (by rfl) (Z.keepS hs) (Z.Yd.fieldA (m := 0) rfl (by kernel_rfl)) ?_
        refine Z.l rfl rfl (by rfl) (Z.keepS hs) (by first | exact Z.Yd.load rfl Try.isAgg26 (fun _ => Z.cellB (by first | ((repeat (first | exact List.mem_cons_self | refine List.mem_cons_of_mem _ ?_ | refine List.mem_append_right _ ?_)); done) | fail) rfl) | exact Z.Yd.load rfl Try.isAgg26 (fun _ => Z.cellO (by assumption) (by simp) (by assumption)) | fail "load 1.9") ?_
        refine Z.l rfl rfl (by rfl) (Z.keepS hs) (Z.Yd.fieldA (m := 1) rfl (by kernel_rfl)) ?_
        refine Z.l rfl rfl (by rfl) (Z.keepS hs) (by first | exact Z.Yd.load rfl Try.isAgg3 (fun _ => Z.cellB (by first | ((repeat (first | exact List.mem_cons_self | refine List.mem_cons_of_mem _ ?_ | refine List.mem_append_right _ ?_)); done) | fail) rfl) | exact Z.Yd.load rfl Try.isAgg3 (fun _ => Z.cellO (by assumption) (by simp) (by assumption)) | fail "load 1.11") ?_
        refine Z.l rfl rfl (by rfl) (Z.keepS hs) (Z.Yd.cut a n rfl (Z.lvl_some rfl (by intro hG; first | rfl | exact (by first | omega | (have hG' := Z.gh rfl hG; simp at hG'; omega)))) rfl Try.underlying26 Try.sizeOf5 (fun hG => ⟨(by first | omega | (have hG' := Z.gh rfl hG; simp at hG'; omega)), (by first | omega | (have hG' := Z.gh rfl hG; simp at hG'; omega))⟩)) ?_
        refine Z.yes (s := 10) (b := false) rfl rfl rfl ?_
        refine Z.le rfl (by exact ⟨rfl, trivial⟩) ?_
        refine Z.ZO.call rfl rfl (by rfl) rfl rfl Try.call71 rfl (weight01 (slA A c a 1) _ (c - a) (bitsAt l a (8 * l.length - a)) _ ((hx.cut (bits_cut (by omega)) hcc).st (hs.sub (List.nil_sublist _))) (by rw [hbl]; omega) (by omega)) ?_
        rintro v1_13 w1_13 ⟨rfl, hy⟩
        replace hs := hs.call hy
        clear hy
        try simp only [List.cons_append, List.nil_append, List.append_nil] at hs
        rw [← hcn]
        refine Z.lb 1 rfl ?_
        refine Z.yes (s := 10) (b := false) rfl rfl rfl ?_
        refine Z.l rfl rfl (by rfl) (Z.keepS hs) (Z.Yd.pickF rfl rfl) ?_
        refine Z.lnil ?_
        refine Z.only [18] rfl ?_
        refine Z.nthen ?_
        refine Z.cond rfl (fun hc1 => ?_) (fun hc1 => ?_)
        · first
            | (exfalso; simp at hc1 <;> omega)
            | (
              (try simp at hc1)
              refine Z.seq ?_
              refine Z.region ?_
              refine Z.lb 1 rfl ?_
              refine Z.lnil ?_
              refine Z.only [2] rfl ?_
              refine Z.nthen ?_
              refine Z.ret ?_
              repeat (first | refine Z.rthen ?_ | refine Z.rblock ?_ | refine Z.rscope ?_)
              -- ret#2
              refine Z.out1 (by exact ⟨rfl, trivial⟩) ?_
              refine ⟨_, rfl, ?_, hs.sub (List.nil_sublist _)⟩
              have htb : toByte a = 8 * l.length - a := by unfold toByte; omega
              unfold endE alE
              rw [if_neg (by omega), htb, if_neg (by omega)]
              )
        · first
            | (exfalso; simp at hc1 <;> omega)
            | (
              (try simp at hc1)
              refine Z.skip ?_
              refine Z.nthen ?_
              refine Z.seq ?_
              refine Z.region ?_
              refine Z.lb 1 rfl ?_
              refine Z.lnil ?_
              refine Z.only [2] rfl ?_
              refine Z.nthen ?_
              refine Z.ret ?_
              -- ret#3
              refine Z.out1 (by exact ⟨rfl, trivial⟩) ?_
              refine ⟨_, rfl, ?_, hs.sub (List.nil_sublist _)⟩
              have htb : toByte a = 8 * l.length - a := by unfold toByte; omega
              unfold endE alE
              rw [if_neg (by omega), htb, if_pos (by omega)]
              )
        )
end Go.Proofs.Ytcieclifabbkjaa

/- The document's reader: Align, GetAll. -/
namespace Go.Proofs.Ytcieclifabbkjaa
open Go.RowKit
set_option linter.unusedSimpArgs false
set_option linter.unusedVariables false

theorem val_one {bs : List Bool} {k : Nat} (h : k < bs.length) (hb : bt bs k = true) : val bs ≠ 0 := by
  intro h0
  have h1 := val_eq_zero.1 h0
  have h2 : 0 < bs.countP id := by
    rw [List.countP_pos_iff]
    refine ⟨bs[k], List.getElem_mem h, ?_⟩
    have : bt bs k = bs[k] := by simp [bt, h]
    rw [← this, hb]
    rfl
  omega

set_option maxRecDepth 100000 in
theorem refgetall (A : Option Addr) (n c : Nat) (l : List Int) (a : Nat) (B : Option Addr) (m d : Nat) (ds : List Int) (w : World) (hx : Sl w A (ints .u8 (bits (unb l)))) (hn : n = l.length * 8) (hc : n ≤ c) (hll : l.length ≤ 1000000) (ha : a ≤ 8 * l.length)
    (hy : Sl w B (ints .i64 ds)) (hm : ds.length = m) (hm2 : m ≤ 1000000) :
    Calls Try.prog 46 #[.agg #[.slice A n c, .int .i64 (a : Int)], .slice B m d] w (SX.Ret fun r w' => ∃ so, r = .tuple #[.agg #[.slice A n c, .int .i64 ((if gsE l a ds = 0 then gsA l a ds else a : Nat) : Int)], so, .int .i64 (gsE l a ds)] ∧
      SX.St w [] w' [SX.Ent.row so 62 1 (if gsE l a ds = 0 then m else 0) (ints .u64 (if gsE l a ds = 0 then gsV l a ds else []))]) := by
  have hs := SX.St.start w
  refine Z.enter Try.func46 rfl Try.ntmps46 rfl rfl ?_
  refine Z.seq ?_
  refine Z.region ?_
  refine Z.le rfl trivial ?_
  refine Z.ZO.box rfl rfl (by rfl) rfl rfl hs ?_
  clear hs; intro g2 w2 hs
  refine Z.le rfl trivial ?_
  refine Z.ZO.alloc rfl rfl (by rfl) Try.zeroValue87 rfl hs ?_
  clear hs; intro g4 w4 hs
  refine Z.lb 2 rfl ?_
  refine Z.lnil ?_
  refine Z.only [1, 2, 4] rfl ?_
  refine Z.nthen ?_
  refine Z.seq ?_
  refine Z.region ?_
  refine Z.l rfl rfl (by rfl) (Z.keepS hs) (by first | exact Z.Yd.loadA _ rfl Try.isAgg87 (fun _ => Z.cellsB (by first | ((repeat (first | exact List.mem_cons_self | refine List.mem_cons_of_mem _ ?_ | refine List.mem_append_right _ ?_)); done) | fail)) (by exact Try.sizeOf87) | fail "load 1.0") ?_
  refine Z.le rfl trivial ?_
  refine Z.ZO.alloc rfl rfl (by rfl) Try.zeroValue87 rfl hs ?_
  clear hs; intro g7 w7 hs
  refine Z.le rfl trivial ?_
  refine Z.ZO.storeA rfl rfl hs rfl rfl (by kernel_rfl) (by first | (simp [Value.oneCell']; done) | (refine Z.all_one ?_; assumption)) (by first | exact SX.at0 | exact SX.at1 | exact SX.at2 | exact SX.at3 | exact SX.at4 | exact SX.at5 | exact Z.at6 | exact Z.at7 | exact Z.at8 | exact Z.at9 | exact Z.at10 | exact Z.at11 | exact Z.at12) (by rfl) ?_
  clear hs; intro ws hs
  simp only [Nat.zero_add, Nat.add_zero, Nat.reduceAdd, Int.reduceToNat, Nat.reduceMul, List.set_cons_zero, List.set_cons_succ, List.setIfInBounds_toArray] at hs
  refine Z.lnil ?_
  refine Z.only [1, 2, 4, 7] rfl ?_
  refine Z.nthen ?_
  refine Z.seq ?_
  refine Z.region ?_
  refine Z.lb 1 rfl ?_
  refine Z.lnil ?_
  refine Z.only [1, 2, 4, 7, 8] rfl ?_
  replace hs := hs.nil 62 1
  refine Z.nthen ?_
  refine Z.seq ?_
  refine Z.seq ?_
  refine Z.region ?_
  refine Z.lb 1 rfl ?_
  refine Z.lnil ?_
  refine Z.only [1, 2, 4, 7, 8, 9] rfl ?_
  refine Z.nthen ?_
  refine Z.block ?_
  refine Z.loopk (ι := Nat × Value) [1, 2, 4, 7] rfl (fun k => [(8, [], k.2), (9, [], .int .i64 (k.1 : Int))]) (fun k wr => k.1 ≤ m ∧ gsE l a (ds.take k.1) = 0 ∧ SX.St w [] wr [SX.Ent.row k.2 62 1 k.1 (ints .u64 (gsV l a (ds.take k.1))), SX.Ent.blk g7 87 #[.slice A n c, .int .i64 (a : Int)], SX.Ent.blk g4 87 #[.slice none 0 0, .int .i64 0], SX.Ent.blk g2 87 #[.slice A n c, .int .i64 ((gsA l a (ds.take k.1) : Nat) : Int)]]) (fun k => m - k.1) (0, .slice none 0 0) (by refine ⟨?_, ?_, trivial⟩ <;> (first | rfl | (refine Z.lookv rfl ?_; simp; done) | (refine Z.lookv rfl ?_; simp; omega))) ⟨by omega, rfl, hs⟩ ?_
  clear hs
  rintro ⟨k, so⟩ w1 ⟨hkm, hz, hs⟩
  refine Z.only [1, 2, 4, 7, 8, 9] rfl ?_
  (try dsimp only at hs)
  dsimp only at hkm hz
  refine Z.seq ?_
  refine Z.seq ?_
  refine Z.region ?_
  refine Z.lb 2 rfl ?_
  refine Z.l rfl rfl (by rfl) (Z.keepS hs) (Z.Yd.lenS rfl Try.underlying91) ?_
  refine Z.lb 1 rfl ?_
  refine Z.lnil ?_
  refine Z.only [1, 2, 4, 7, 8, 9, 17] rfl ?_
  refine Z.nthen ?_
  refine Z.cond rfl (fun hc4 => ?_) (fun hc4 => ?_)
  · first
      | (exfalso; simp at hc4 <;> omega)
      | (
        (try simp at hc4)
        obtain ⟨b, off, rfl, hb, hy⟩ := Z.Sl.some hy (by simp [ints]; omega)
        have hwk : ds[k]? = some (elt ds (k : Int)) := by
          rw [List.getElem?_eq_getElem (by omega)]
          simp [elt, show k < ds.length by omega]
        have hga := gsA_le (l := l) (ws := ds.take k) ha
        refine Z.skip ?_
        refine Z.nthen ?_
        refine Z.seq ?_
        refine Z.block ?_
        refine Z.seq ?_
        refine Z.drawK (fun _ => true) mixed hs ?_
        clear hs; intro wd6 hs
        refine Z.t 0 rfl rfl rfl (by rfl) (by kernel_rfl) ⟨_, hs, by first | (simp; done) | exact fun e he => List.mem_append_right _ he⟩ (by first | exact Z.Yd.loadA _ rfl Try.isAgg87 (fun _ => Z.cellsB (by first | ((repeat (first | exact List.mem_cons_self | refine List.mem_cons_of_mem _ ?_ | refine List.mem_append_right _ ?_)); done) | fail)) (by exact Try.sizeOf87) | fail "load 6.0") ?_
        refine Z.tb [1, 2] (by kernel_rfl) rfl ⟨_, hs, by first | (simp; done) | exact fun e he => List.mem_append_right _ he⟩ rfl ?_
        refine Z.t 3 rfl rfl rfl (by rfl) (by kernel_rfl) ⟨_, hs, by first | (simp; done) | exact fun e he => List.mem_append_right _ he⟩ (Z.Yd.elem rfl rfl Try.underlying91 Try.sizeOf3 (fun hG => ⟨(by first | omega | (have hG' := Z.gh rfl hG; simp at hG'; omega)), (by first | omega | (have hG' := Z.gh rfl hG; simp at hG'; omega))⟩)) ?_
        refine Z.t 4 rfl rfl rfl (by rfl) (by kernel_rfl) ⟨_, hs, by first | (simp; done) | exact fun e he => List.mem_append_right _ he⟩ (Z.Yd.load rfl Try.isAgg3 (fun _ => Z.cellS hy rfl (by first | omega | (have hG' := Z.gh rfl hG; simp at hG'; omega)) (by first | omega | (have hG' := Z.gh rfl hG; simp at hG'; omega)))) ?_
        refine Z.fork2 5 10 rfl rfl rfl (by kernel_rfl) rfl rfl trivial trivial ?_ ?_
        · skip
          refine Z.ZO.call rfl rfl (by rfl) rfl rfl Try.call70 rfl (refget A n c l _ (elt ds (k : Int)) _ (hx.st (hs.sub (List.nil_sublist _))) hn hc hll hga) ?_
          rintro v6_5 w6_5 ⟨rfl, hy1⟩
          replace hs := hs.call hy1
          try simp only [List.nil_append] at hs
          refine Z.tk (Dn := fun _ => true) (i := 5) (fun _ => ⟨_, hs, by first | (simp; done) | exact fun e he => List.mem_append_right _ he⟩) ?_
          refine Z.tb [6, 7, 8, 9] (by kernel_rfl) rfl ⟨_, hs, by first | (simp; done) | exact fun e he => List.mem_append_right _ he⟩ rfl ?_
          refine Z.tn 10 rfl rfl (by kernel_rfl) rfl trivial ?_
          refine Z.ZO.alloc rfl rfl (by rfl) Try.zeroValue87 rfl hs ?_
          clear hs; intro g10 w10 hs
          refine Z.tk (Dn := fun _ => true) (i := 10) (fun _ => ⟨_, hs, by first | (simp; done) | exact fun e he => List.mem_append_right _ he⟩) ?_
          refine Z.tn 11 rfl rfl (by kernel_rfl) rfl trivial ?_
          refine Z.ZO.storeA rfl rfl hs rfl rfl (by kernel_rfl) (by first | (simp [Value.oneCell']; done) | (refine Z.all_one ?_; assumption)) (by first | exact SX.at0 | exact SX.at1 | exact SX.at2 | exact SX.at3 | exact SX.at4 | exact SX.at5 | exact Z.at6 | exact Z.at7 | exact Z.at8 | exact Z.at9 | exact Z.at10 | exact Z.at11 | exact Z.at12) (by rfl) ?_
          clear hs; intro ws hs
          simp only [Nat.zero_add, Nat.add_zero, Nat.reduceAdd, Int.reduceToNat, Nat.reduceMul, List.set_cons_zero, List.set_cons_succ, List.setIfInBounds_toArray] at hs
          refine Z.tk (Dn := fun _ => true) (i := 11) (fun _ => ⟨_, hs, by first | (simp; done) | exact fun e he => List.mem_append_right _ he⟩) ?_
          refine Z.tb [12, 13] (by kernel_rfl) rfl ⟨_, hs, by first | (simp; done) | exact fun e he => List.mem_append_right _ he⟩ rfl ?_
          refine Z.td (by rfl) (by kernel_rfl) ?_
          refine Z.only [1, 2, 4, 7, 8, 9, 10, 11, 12] rfl ?_
          refine Z.nthen ?_
          refine Z.seq ?_
          refine Z.seq ?_
          refine Z.region ?_
          refine Z.lb 2 rfl ?_
          refine Z.lnil ?_
          refine Z.only [1, 2, 4, 7, 8, 9, 10, 11, 12, 31] rfl ?_
          refine Z.nthen ?_
          refine Z.cond rfl (fun hc7 => ?_) (fun hc7 => ?_)
          · first
              | (exfalso; simp at hc7 <;> omega)
              | (
                (try simp at hc7)
                refine Z.seq ?_
                refine Z.region ?_
                refine Z.l rfl rfl (by rfl) (Z.keepS hs) (by first | exact Z.Yd.loadA _ rfl Try.isAgg87 (fun _ => Z.cellsB (by first | ((repeat (first | exact List.mem_cons_self | refine List.mem_cons_of_mem _ ?_ | refine List.mem_append_right _ ?_)); done) | fail)) (by exact Try.sizeOf87) | fail "load 8.0") ?_
                refine Z.lb 1 rfl ?_
                refine Z.le rfl trivial ?_
                refine Z.ZO.storeA rfl rfl hs rfl rfl (by kernel_rfl) (by first | (simp [Value.oneCell']; done) | (refine Z.all_one ?_; assumption)) (by first | exact SX.at0 | exact SX.at1 | exact SX.at2 | exact SX.at3 | exact SX.at4 | exact SX.at5 | exact Z.at6 | exact Z.at7 | exact Z.at8 | exact Z.at9 | exact Z.at10 | exact Z.at11 | exact Z.at12) (by rfl) ?_
                clear hs; intro ws hs
                simp only [Nat.zero_add, Nat.add_zero, Nat.reduceAdd, Int.reduceToNat, Nat.reduceMul, List.set_cons_zero, List.set_cons_succ, List.setIfInBounds_toArray] at hs
                refine Z.lb 2 rfl ?_
                refine Z.lnil ?_
                refine Z.only [4, 5, 6] rfl ?_
                refine Z.nthen ?_
                refine Z.ret ?_
                repeat (first | refine Z.rthen ?_ | refine Z.rblock ?_ | refine Z.rscope ?_)
                -- ret#0
                refine Z.out3 (by exact ⟨⟨_, rfl, Z.rvcA hs Try.isAgg87 (by first | ((repeat (first | exact List.mem_cons_self | refine List.mem_cons_of_mem _ ?_ | refine List.mem_append_right _ ?_)); done) | fail) (by exact Try.sizeOf87)⟩, rfl, rfl, trivial⟩) ?_
                have e := gsE_at hwk hz hc7
                refine ⟨_, rfl, .slice none 0 0, ?_, ?_⟩
                · rw [if_neg (by rw [e]; exact hc7), e]
                · rw [if_neg (by rw [e]; exact hc7), if_neg (by rw [e]; exact hc7)]
                  exact (hs.nil 62 1).sub (List.cons_sublist_cons.2 (List.nil_sublist _))
                )
          · first
              | (exfalso; simp at hc7 <;> omega)
              | (
                (try simp at hc7)
                refine Z.skip ?_
                refine Z.nthen ?_
                refine Z.seq ?_
                refine Z.region ?_
                refine Z.l rfl rfl (by rfl) (Z.keepS hs) (by first | exact Z.Yd.loadA _ rfl Try.isAgg87 (fun _ => Z.cellsB (by first | ((repeat (first | exact List.mem_cons_self | refine List.mem_cons_of_mem _ ?_ | refine List.mem_append_right _ ?_)); done) | fail)) (by exact Try.sizeOf87) | fail "load 9.0") ?_
                refine Z.le rfl trivial ?_
                refine Z.ZO.storeA rfl rfl hs rfl rfl (by kernel_rfl) (by first | (simp [Value.oneCell']; done) | (refine Z.all_one ?_; assumption)) (by first | exact SX.at0 | exact SX.at1 | exact SX.at2 | exact SX.at3 | exact SX.at4 | exact SX.at5 | exact Z.at6 | exact Z.at7 | exact Z.at8 | exact Z.at9 | exact Z.at10 | exact Z.at11 | exact Z.at12) (by rfl) ?_
                clear hs; intro ws hs
                simp only [Nat.zero_add, Nat.add_zero, Nat.reduceAdd, Int.reduceToNat, Nat.reduceMul, List.set_cons_zero, List.set_cons_succ, List.setIfInBounds_toArray] at hs
                refine Z.lnil ?_
                refine Z.only [1, 2, 4, 7, 8, 9, 11] rfl ?_
                refine Z.nthen ?_
                refine Z.region ?_
                refine Z.lb 2 rfl ?_
                refine Z.le rfl trivial ?_
                refine Z.ZO.lit rfl rfl (by rfl) rfl (by intro W; go_simp; exact rfl) hs ?_
                clear hs; intro g37 w37 hs
                refine Z.le rfl trivial ?_
                refine Z.ZO.append (i0 := Try.t62) (size := 1) (bytes := 8) rfl rfl (by rfl) hs Try.underlying78 (by kernel_rfl) rfl rfl rfl rfl (by decide) rfl rfl (by first | exact SX.at0 | exact SX.at1 | exact SX.at2 | exact SX.at3 | exact SX.at4 | exact SX.at5 | exact Z.at6 | exact Z.at7 | exact Z.at8 | exact Z.at9 | exact Z.at10 | exact Z.at11 | exact Z.at12) (by first | exact SX.at0 | exact SX.at1 | exact SX.at2 | exact SX.at3 | exact SX.at4 | exact SX.at5 | exact Z.at6 | exact Z.at7 | exact Z.at8 | exact Z.at9 | exact Z.at10 | exact Z.at11 | exact Z.at12) (by first | rfl | simp) (by simp [Value.oneCell']) (by decide) (by unfold maxLen; omega) (by omega) ?_
                clear hs; intro g38 cap38 w38 hs
                simp only [List.set_cons_zero, List.set_cons_succ, List.eraseIdx_cons_zero, List.eraseIdx_cons_succ] at hs
                refine Z.lb 1 rfl ?_
                refine Z.lnil ?_
                refine Z.only [1, 2, 4, 7, 8, 9] rfl ?_
                refine Z.nblock ?_
                refine Z.nthen ?_
                refine Z.region ?_
                refine Z.lb 1 rfl ?_
                refine Z.l rfl rfl (by rfl) (Z.keepS hs) (Z.Yd.add rfl rfl (fun hG => Z.wi64 (by first | omega | (have hG' := Z.gh rfl hG; simp at hG'; omega)))) ?_
                refine Z.lb 1 rfl ?_
                refine Z.lnil ?_
                refine Z.only [1, 2, 4, 7, 8, 9] rfl ?_
                refine Z.nthen ?_
                obtain ⟨e1, e2, e3⟩ := gs_snoc hwk hz hc7
                have e4 : ints .u64 (gsV l a (ds.take k)) ++ [.int .u64 (getV l (gsA l a (ds.take k)) (elt ds (k : Int)))] = ints .u64 (gsV l a (ds.take (k + 1))) := by rw [e3]; simp [ints]
                rw [e4, ← e2] at hs
                exact Z.again (k + 1, _) (by refine ⟨?_, ?_, ?_, ?_, ?_, ?_, trivial⟩ <;> (first | rfl | (refine Z.lookv rfl ?_; simp; done) | (refine Z.lookv rfl ?_; simp; omega))) ⟨by simp only; omega, e1, hs.tl⟩ (by simp only; omega)
                )
        · skip
          refine Z.ZO.alloc rfl rfl (by rfl) Try.zeroValue87 rfl hs ?_
          clear hs; intro g10 w10 hs
          refine Z.tk (Dn := fun _ => true) (i := 10) (fun _ => ⟨_, hs, by first | (simp; done) | exact fun e he => List.mem_append_right _ he⟩) ?_
          refine Z.tn 5 rfl rfl (by kernel_rfl) rfl trivial ?_
          refine Z.ZO.call rfl rfl (by rfl) rfl rfl Try.call70 rfl (refget A n c l _ (elt ds (k : Int)) _ (hx.st (hs.sub (List.nil_sublist _))) hn hc hll hga) ?_
          rintro v6_5 w6_5 ⟨rfl, hy1⟩
          replace hs := hs.call hy1
          try simp only [List.nil_append] at hs
          refine Z.tk (Dn := fun _ => true) (i := 5) (fun _ => ⟨_, hs, by first | (simp; done) | exact fun e he => List.mem_append_right _ he⟩) ?_
          refine Z.tb [6, 7, 8, 9] (by kernel_rfl) rfl ⟨_, hs, by first | (simp; done) | exact fun e he => List.mem_append_right _ he⟩ rfl ?_
          refine Z.tn 11 rfl rfl (by kernel_rfl) rfl trivial ?_
          refine Z.ZO.storeA rfl rfl hs rfl rfl (by kernel_rfl) (by first | (simp [Value.oneCell']; done) | (refine Z.all_one ?_; assumption)) (by first | exact SX.at0 | exact SX.at1 | exact SX.at2 | exact SX.at3 | exact SX.at4 | exact SX.at5 | exact Z.at6 | exact Z.at7 | exact Z.at8 | exact Z.at9 | exact Z.at10 | exact Z.at11 | exact Z.at12) (by rfl) ?_
          clear hs; intro ws hs
          simp only [Nat.zero_add, Nat.add_zero, Nat.reduceAdd, Int.reduceToNat, Nat.reduceMul, List.set_cons_zero, List.set_cons_succ, List.setIfInBounds_toArray] at hs
          refine Z.tk (Dn := fun _ => true) (i := 11) (fun _ => ⟨_, hs, by first | (simp; done) | exact fun e he => List.mem_append_right _ he⟩) ?_
          refine Z.tb [12, 13] (by kernel_rfl) rfl ⟨_, hs, by first | (simp; done) | exact fun e he => List.mem_append_right _ he⟩ rfl ?_
          refine Z.td (by rfl) (by kernel_rfl) ?_
          refine Z.only [1, 2, 4, 7, 8, 9, 10, 11, 12] rfl ?_
          refine Z.nthen ?_
          refine Z.seq ?_
          refine Z.seq ?_
          refine Z.region ?_
          refine Z.lb 2 rfl ?_
          refine Z.lnil ?_
          refine Z.only [1, 2, 4, 7, 8, 9, 10, 11, 12, 31] rfl ?_
          refine Z.nthen ?_
          refine Z.cond rfl (fun hc7 => ?_) (fun hc7 => ?_)
          · first
              | (exfalso; simp at hc7 <;> omega)
              | (
                (try simp at hc7)
                refine Z.seq ?_
                refine Z.region ?_
                refine Z.l rfl rfl (by rfl) (Z.keepS hs) (by first | exact Z.Yd.loadA _ rfl Try.isAgg87 (fun _ => Z.cellsB (by first | ((repeat (first | exact List.mem_cons_self | refine List.mem_cons_of_mem _ ?_ | refine List.mem_append_right _ ?_)); done) | fail)) (by exact Try.sizeOf87) | fail "load 8.0") ?_
                refine Z.lb 1 rfl ?_
                refine Z.le rfl trivial ?_
                refine Z.ZO.storeA rfl rfl hs rfl rfl (by kernel_rfl) (by first | (simp [Value.oneCell']; done) | (refine Z.all_one ?_; assumption)) (by first | exact SX.at0 | exact SX.at1 | exact SX.at2 | exact SX.at3 | exact SX.at4 | exact SX.at5 | exact Z.at6 | exact Z.at7 | exact Z.at8 | exact Z.at9 | exact Z.at10 | exact Z.at11 | exact Z.at12) (by rfl) ?_
                clear hs; intro ws hs
                simp only [Nat.zero_add, Nat.add_zero, Nat.reduceAdd, Int.reduceToNat, Nat.reduceMul, List.set_cons_zero, List.set_cons_succ, List.setIfInBounds_toArray] at hs
                refine Z.lb 2 rfl ?_
                refine Z.lnil ?_
                refine Z.only [4, 5, 6] rfl ?_
                refine Z.nthen ?_
                refine Z.ret ?_
                repeat (first | refine Z.rthen ?_ | refine Z.rblock ?_ | refine Z.rscope ?_)
                -- ret#1
                refine Z.out3 (by exact ⟨⟨_, rfl, Z.rvcA hs Try.isAgg87 (by first | ((repeat (first | exact List.mem_cons_self | refine List.mem_cons_of_mem _ ?_ | refine List.mem_append_right _ ?_)); done) | fail) (by exact Try.sizeOf87)⟩, rfl, rfl, trivial⟩) ?_
                have e := gsE_at hwk hz hc7
                refine ⟨_, rfl, .slice none 0 0, ?_, ?_⟩
                · rw [if_neg (by rw [e]; exact hc7), e]
                · rw [if_neg (by rw [e]; exact hc7), if_neg (by rw [e]; exact hc7)]
                  exact (hs.nil 62 1).sub (List.cons_sublist_cons.2 (List.nil_sublist _))
                )
          · first
              | (exfalso; simp at hc7 <;> omega)
              | (
                (try simp at hc7)
                refine Z.skip ?_
                refine Z.nthen ?_
                refine Z.seq ?_
                refine Z.region ?_
                refine Z.l rfl rfl (by rfl) (Z.keepS hs) (by first | exact Z.Yd.loadA _ rfl Try.isAgg87 (fun _ => Z.cellsB (by first | ((repeat (first | exact List.mem_cons_self | refine List.mem_cons_of_mem _ ?_ | refine List.mem_append_right _ ?_)); done) | fail)) (by exact Try.sizeOf87) | fail "load 9.0") ?_
                refine Z.le rfl trivial ?_
                refine Z.ZO.storeA rfl rfl hs rfl rfl (by kernel_rfl) (by first | (simp [Value.oneCell']; done) | (refine Z.all_one ?_; assumption)) (by first | exact SX.at0 | exact SX.at1 | exact SX.at2 | exact SX.at3 | exact SX.at4 | exact SX.at5 | exact Z.at6 | exact Z.at7 | exact Z.at8 | exact Z.at9 | exact Z.at10 | exact Z.at11 | exact Z.at12) (by rfl) ?_
                clear hs; intro ws hs
                simp only [Nat.zero_add, Nat.add_zero, Nat.reduceAdd, Int.reduceToNat, Nat.reduceMul, List.set_cons_zero, List.set_cons_succ, List.setIfInBounds_toArray] at hs
                refine Z.lnil ?_
                refine Z.only [1, 2, 4, 7, 8, 9, 11] rfl ?_
                refine Z.nthen ?_
                refine Z.region ?_
                refine Z.lb 2 rfl ?_
                refine Z.le rfl trivial ?_
                refine Z.ZO.lit rfl rfl (by rfl) rfl (by intro W; go_simp; exact rfl) hs ?_
                clear hs; intro g37 w37 hs
                refine Z.le rfl trivial ?_
                refine Z.ZO.append (i0 := Try.t62) (size := 1) (bytes := 8) rfl rfl (by rfl) hs Try.underlying78 (by kernel_rfl) rfl rfl rfl rfl (by decide) rfl rfl (by first | exact SX.at0 | exact SX.at1 | exact SX.at2 | exact SX.at3 | exact SX.at4 | exact SX.at5 | exact Z.at6 | exact Z.at7 | exact Z.at8 | exact Z.at9 | exact Z.at10 | exact Z.at11 | exact Z.at12) (by first | exact SX.at0 | exact SX.at1 | exact SX.at2 | exact SX.at3 | exact SX.at4 | exact SX.at5 | exact Z.at6 | exact Z.at7 | exact Z.at8 | exact Z.at9 | exact Z.at10 | exact Z.at11 | exact Z.at12) (by first | rfl | simp) (by simp [Value.oneCell']) (by decide) (by unfold maxLen; omega) (by omega) ?_
                clear hs; intro g38 cap38 w38 hs
                simp only [List.set_cons_zero, List.set_cons_succ, List.eraseIdx_cons_zero, List.eraseIdx_cons_succ] at hs
                refine Z.lb 1 rfl ?_
                refine Z.lnil ?_
                refine Z.only [1, 2, 4, 7, 8, 9] rfl ?_
                refine Z.nblock ?_
                refine Z.nthen ?_
                refine Z.region ?_
                refine Z.lb 1 rfl ?_
                refine Z.l rfl rfl (by rfl) (Z.keepS hs) (Z.Yd.add rfl rfl (fun hG => Z.wi64 (by first | omega | (have hG' := Z.gh rfl hG; simp at hG'; omega)))) ?_
                refine Z.lb 1 rfl ?_
                refine Z.lnil ?_
                refine Z.only [1, 2, 4, 7, 8, 9] rfl ?_
                refine Z.nthen ?_
                obtain ⟨e1, e2, e3⟩ := gs_snoc hwk hz hc7
                have e4 : ints .u64 (gsV l a (ds.take k)) ++ [.int .u64 (getV l (gsA l a (ds.take k)) (elt ds (k : Int)))] = ints .u64 (gsV l a (ds.take (k + 1))) := by rw [e3]; simp [ints]
                rw [e4, ← e2] at hs
                exact Z.again (k + 1, _) (by refine ⟨?_, ?_, ?_, ?_, ?_, ?_, trivial⟩ <;> (first | rfl | (refine Z.lookv rfl ?_; simp; done) | (refine Z.lookv rfl ?_; simp; omega))) ⟨by simp only; omega, e1, hs.tl⟩ (by simp only; omega)
                )
        )
  · first
      | (exfalso; simp at hc4 <;> omega)
      | (
        (try simp at hc4)
        refine Z.exit ?_
        refine Z.xthen ?_
        refine Z.xthen ?_
        refine Z.xblock ?_
        refine Z.nthen ?_
        refine Z.seq ?_
        refine Z.region ?_
        refine Z.l rfl rfl (by rfl) (Z.keepS hs) (by first | exact Z.Yd.loadA _ rfl Try.isAgg87 (fun _ => Z.cellsB (by first | ((repeat (first | exact List.mem_cons_self | refine List.mem_cons_of_mem _ ?_ | refine List.mem_append_right _ ?_)); done) | fail)) (by exact Try.sizeOf87) | fail "load 11.0") ?_
        refine Z.lb 1 rfl ?_
        refine Z.le rfl trivial ?_
        refine Z.ZO.storeA rfl rfl hs rfl rfl (by kernel_rfl) (by first | (simp [Value.oneCell']; done) | (refine Z.all_one ?_; assumption)) (by first | exact SX.at0 | exact SX.at1 | exact SX.at2 | exact SX.at3 | exact SX.at4 | exact SX.at5 | exact Z.at6 | exact Z.at7 | exact Z.at8 | exact Z.at9 | exact Z.at10 | exact Z.at11 | exact Z.at12) (by rfl) ?_
        clear hs; intro ws hs
        simp only [Nat.zero_add, Nat.add_zero, Nat.reduceAdd, Int.reduceToNat, Nat.reduceMul, List.set_cons_zero, List.set_cons_succ, List.setIfInBounds_toArray] at hs
        refine Z.lb 2 rfl ?_
        refine Z.lnil ?_
        refine Z.only [4, 5, 6] rfl ?_
        refine Z.nthen ?_
        refine Z.ret ?_
        -- ret#2
        refine Z.out3 (by exact ⟨⟨_, rfl, Z.rvcA hs Try.isAgg87 (by first | ((repeat (first | exact List.mem_cons_self | refine List.mem_cons_of_mem _ ?_ | refine List.mem_append_right _ ?_)); done) | fail) (by exact Try.sizeOf87)⟩, rfl, rfl, trivial⟩) ?_
        obtain rfl : k = m := by omega
        rw [List.take_of_length_le (by omega)] at hz hs
        refine ⟨_, rfl, so, ?_, ?_⟩
        · rw [List.take_of_length_le (by omega), if_pos hz, hz]
        · rw [if_pos hz, if_pos hz]
          exact hs.sub (List.cons_sublist_cons.2 (List.nil_sublist _))
        )
end Go.Proofs.Ytcieclifabbkjaa
