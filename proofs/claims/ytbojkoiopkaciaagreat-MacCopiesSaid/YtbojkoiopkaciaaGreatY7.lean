/- Part 7 of the proofs that lead to the statement. -/
import Derived.Test.YtbojkoiopkaciaaGreatY6
namespace Go.Proofs.YtbojkoiopkaciaaGreat
open Go.RowKit Go.Proofs.Tryz SX
set_option linter.unusedSimpArgs false
set_option linter.unusedVariables false
set_option maxRecDepth 100000
set_option maxHeartbeats 8000000
open Z (keepS again meet loopk wi64 cellsB cellB cutt drawL drawK cellXf cellS cellsBo fork2 cellsX)
section
variable {p q : Prop}
theorem J1000 (z : p := by rw [hml]; exact Z.row_lentv hs (j := 2) rfl) : p := z
theorem V1000 (h : q) (f : Hid q → p := by intro yq; refine V607 ?_; refine V30 ?_; refine V3 ?_; refine V55 ?_; refine V50 ?_; refine Z.yes (s := 23) (b := false) rfl (J45) rfl ?_; refine V160 ?_; refine Z.ZO.call rfl rfl (by rfl) rfl rfl call9 rfl (few29 Q k dq 8 l _ (hq.st (Jn hs)) hk hkn (fun x hx ↦ (hg x hx).st (Jn hs))) ?_; exact yq.o) : p := f ⟨h⟩
theorem V1001 (h : q) (f : Hid q → p := by intro yq; refine V859 ?_; refine Z.yes (s := 23) (b := false) rfl rfl rfl ?_; refine V14 ?_; refine V11 ?_; refine Z.yes (s := 28) (b := false) rfl ((by simp [hf0])) rfl ?_; refine V160 ?_; refine Z.ZO.call rfl rfl (by rfl) rfl rfl call9 rfl (few29 O ko do1 4 one _ (hq1.st (Jn hs)) hk1 hkn1 (fun x hx ↦ (hg1 x hx).st (Jn hs))) ?_; exact yq.o) : p := f ⟨h⟩
theorem V1002 (h : q) (f : Hid q → p := by intro yq; refine V859 ?_; refine Z.yes (s := 28) (b := false) rfl rfl rfl ?_; refine V14 ?_; refine V11 ?_; refine Z.yes (s := 33) (b := false) rfl ((by simp [hf1])) rfl ?_; refine V160 ?_; refine Z.ZO.call rfl rfl (by rfl) rfl rfl call9 rfl (few29 T kt dt 4 two _ (hq2.st (Jn hs)) hk2 hkn2 (fun x hx ↦ (hg2 x hx).st (Jn hs))) ?_; exact yq.o) : p := f ⟨h⟩
theorem V1003 (h : q) (f : Hid q → p := by intro yq; refine Z.tX 2 [2, 4, 5, 6, 7, 8, 9, 10, 11, 12, 13] rfl rfl rfl (by rfl) J3 (Jk hs) (Z.Yd.pure rfl) ?_; refine Z.tX 3 [3, 4, 5, 6, 7, 8, 9, 10, 11, 12, 13] rfl rfl rfl (by rfl) J3 (Jk hs) (Z.Yd.pure rfl) ?_; refine Z.tX 4 [4, 5, 6, 7, 8, 9, 10, 11, 12, 13] rfl rfl rfl (by rfl) J3 (Jk hs) (Z.Yd.elem rfl rfl underlying27 sizeOf50 (fun hG => ⟨J2, J2⟩)) ?_; refine Z.tX 5 [5, 6, 7, 8, 9, 10, 11, 12, 13] rfl rfl rfl (by rfl) J3 (Jk hs) (Z.Yd.loadA _ rfl isAgg50 (fun _ => cellsX y.cells hxx ac9_len hyk rfl) (by exact sizeOf50)) ?_; exact yq.o) : p := f ⟨h⟩
theorem V1004 (h : q) (f : Hid q → p := by intro yq; refine Z.tk (Dn := fun j => !([8, 9, 10, 11, 12, 13].contains j)) (i := 6) (fun _ => (Jk hs)) ?_; refine Z.tX 7 [7, 8, 9, 10, 11, 12, 13] rfl rfl rfl (by rfl) J3 (Jk hs) (Z.Yd.pure rfl) ?_; refine Z.tY 8 [8, 11, 12, 13] rfl rfl rfl (by rfl) J3 (Z.Yd.pure rfl) ?_; refine Z.tY 9 [9, 12, 13] rfl rfl rfl (by rfl) J3 (Z.Yd.pure rfl) ?_; refine Z.tY 10 [10, 13] rfl rfl rfl (by rfl) J3 (Z.Yd.pure rfl) ?_; refine Z.tY 11 [11, 12, 13] rfl rfl rfl (by rfl) J3 (Z.Yd.pure rfl) ?_; refine Z.tn 12 rfl rfl J3 rfl trivial ?_; refine V7 ?_; exact yq.o) : p := f ⟨h⟩
theorem V1005 (h : q) (f : Hid q → p := by intro yq; refine V859 ?_; refine Z.yes (s := 33) (b := false) rfl rfl rfl ?_; refine V14 ?_; refine V857 ?_; refine Z.only [1, 2, 3, 4, 37] rfl ?_; refine V6 ?_; exact yq.o) : p := f ⟨h⟩
theorem V1006 (h : q) (f : Hid q → p := by intro yq; refine Z.tk (Dn := fun j => !([8, 9, 10, 11, 12, 13].contains j)) (i := 12) (fun h => absurd h J12) ?_; refine Z.tY 13 [13] rfl rfl rfl (by rfl) J3 (Z.Yd.pure rfl) ?_; refine V40 ?_; refine Z.only [2, 3, 9, 11, 14, 15, 16, 17, 18] rfl ?_; refine V6 ?_; exact yq.o) : p := f ⟨h⟩
theorem V1007 (h : q) (f : Hid q → p := by intro yq; refine Z.enter func7 rfl ntmps7 rfl rfl ?_; refine V91 ?_; exact yq.o) : p := f ⟨h⟩
theorem V1008 (h : q) (f : Hid q → p := by intro yq; refine V299 ?_; refine V20 ?_; refine V11 ?_; refine Z.yes (s := 33) (b := true) rfl (J16) rfl ?_; refine V299 ?_; refine V20 ?_; refine V857 ?_; refine Z.only [1, 2, 3, 4, 37] rfl ?_; refine V6 ?_; exact yq.o) : p := f ⟨h⟩
theorem V1009 (h : q) (f : Hid q → p := by intro yq; refine V1 ?_; refine Z.only [8] rfl ?_; refine V90 ?_; exact yq.o) : p := f ⟨h⟩
theorem V1010 (h : q) (f : Hid q → p := by intro yq; refine Z.ZO.call rfl rfl (by rfl) rfl rfl call21 rfl (mx_copy gi gbi gri C kc m0 _ (cp_of (sv := svi) (so := soi) hs (fun e he ↦ by simp [he])) hmo0) ?_; exact yq.o) : p := f ⟨h⟩
theorem V1011 (h : q) (f : Hid q → p := by intro yq; refine V1 ?_; refine Z.only [1, 2, 3, 9, 11, 12] rfl ?_; refine V84 ?_; refine Z.only [1, 2, 3, 9, 11, 50] rfl ?_; refine V6 ?_; exact yq.o) : p := f ⟨h⟩
theorem V1012 (h : q) (f : Hid q → p := by intro yq; refine V31 ?_; refine Z.only [10, 11, 12] rfl ?_; refine V90 ?_; exact yq.o) : p := f ⟨h⟩
theorem V1013 (h : q) (f : Hid q → p := by intro yq; refine Z.tk (Dn := fun _ => true) (i := 1) (fun _ => (Jk hs)) ?_; exact yq.o) : p := f ⟨h⟩
end
namespace SX
section
variable {F : Fence} {n : Nat} {P : Program} {ops : Array Oper} {Q : Exit → Act → World → Prop} {md : Region.Mode} {S : World → Prop} {D : Nat → Bool}
theorem wpAnyS_firstP {i : Nat} {oi : Oper} {v : Value} (T : Nat → Bool) (hTi : T i = true) (hF : ∀ f, F.fn f) (hi : ops[i]? = some oi) (hsel : ∀ (j : Nat) (o : Oper) cs b, ops[j]? = some o → o.op ≠ .select cs b)
    (hdef : ∀ (j : Nat) (o : Oper) c, ops[j]? = some o → o.op ≠ .defer c)
    (hT : ∀ (j : Nat) (oj : Oper), ops[j]? = some oj → T j = true → j ≠ i → ∃ e ∈ oj.after, Region.binds md e = true ∧ T e.on = true)
    (hDi : D i = false)
    (hQ : ∀ c a w, Q (.panic c) (a.put oi.dst v) w → Q (.panic c) a w) :
    ∀ (fuel : Nat) (listed : Array Bool) (a : Act) (w : World),
      (∀ j, T j = true → listed[j]? = some false) →
      (∀ j oj, ops[j]? = some oj → T j = false → listed.getD j true = false → oi.apart ops oj = true) →
      i ∈ Region.ready md ops listed → YieldsS P ops (fun _ => True) oi v a →
      wpAnyS F n P md ops Q S D fuel (listed.setIfInBounds i true) (a.put oi.dst v) w → wpAnyS F n P md ops Q S D (fuel + 1) listed a w := by
  intro fuel
  induction fuel with
  | zero =>
    intro listed a w _ _ hr hy H; refine ⟨fun h => (by rw [h] at hr; cases hr), fun j hj => ?_⟩
    by_cases hji : j = i
    · subst hji; exact hy.wpOpIn hF hi (fun c => hdef _ _ c hi) trivial ⟨fun h => (by rw [hDi] at h; cases h), H⟩
    · have := ready_mono hj hji
      rw [H.1] at this
      cases this
  | succ fuel ih =>
    intro listed a w hun hfree hr hy H; refine ⟨fun h => (by rw [h] at hr; cases hr), fun j hj => ?_⟩
    by_cases hji : j = i
    · subst hji; exact hy.wpOpIn hF hi (fun c => hdef _ _ c hi) trivial ⟨fun h => (by rw [hDi] at h; cases h), H⟩
    · have h1 := H.2 j (ready_mono hj hji)
      obtain ⟨hjun, oj, hoj, hall⟩ := mem_ready.1 hj; have hTj : T j = false := by
        cases hb : T j with
        | false => rfl
        | true =>
          obtain ⟨e, he, hbd, hTe⟩ := hT j oj hoj hb hji; have h2 := hall e he hbd; have h3 := hun _ hTe; rw [Array.getD_eq_getD_getElem?, h3] at h2
          cases h2
      have h2 := wpOpIn_putS hF hoj (hfree j oj hoj hTj hjun) (fun cs b => hsel i oi cs b hi) (fun cs b => hsel j oj cs b hoj) (fun c => hdef j oj c hoj) hQ hy h1; have hun' : ∀ k, T k = true → (listed.setIfInBounds j true)[k]? = some false := fun k hk => by
        rw [Array.getElem?_setIfInBounds_ne (fun e => by rw [e, hk] at hTj; cases hTj)]; exact hun k hk
      have hfree' : ∀ k ok, ops[k]? = some ok → T k = false → (listed.setIfInBounds j true).getD k true = false → oi.apart ops ok = true := fun k ok hk hki hun => by
        refine hfree k ok hk hki ?_
        by_cases hjk : j = k
        · subst hjk; exact hjun
        · rw [getD_set_ne true hjk] at hun; exact hun
      refine wpOpIn_mono (fun a' w' h3 => ⟨h3.2.1, ih (listed.setIfInBounds j true) a' w' hun' hfree' (ready_mono hr (Ne.symm hji)) h3.1 ?_⟩) h2; rw [Array.setIfInBounds_comm _ _ hji]; exact h3.2.2
def mayTakeP (md : Region.Mode) (ops : Array Oper) (D : Nat → Bool) (listed : Array Bool) (i : Nat) (T : List Nat) : Bool :=
  Region.noSelect ops && noDefer ops && T.contains i && (T.all fun j => j == i || match ops[j]? with | some o => o.after.toList.any (fun e => Region.binds md e && T.contains e.on) | none => false) &&
    (T.all fun j => match listed[j]? with | some b => !b | none => false) && !D i &&
    ((List.range ops.size).all fun j => T.contains j || listed.getD j true || match ops[i]?, ops[j]? with | some oi, some oj => oi.apart ops oj | _, _ => false) && (Region.ready md ops listed).contains i
theorem mayTakeP_spec {listed : Array Bool} {i : Nat} {oi : Oper} {T : List Nat} (h : mayTakeP md ops D listed i T = true) (hi : ops[i]? = some oi) :
    (∀ (j : Nat) (oj : Oper), ops[j]? = some oj → (T.contains j) = true → j ≠ i → ∃ e ∈ oj.after, Region.binds md e = true ∧ T.contains e.on = true) ∧ D i = false ∧
    (∀ j, T.contains j = true → listed[j]? = some false) ∧ (∀ j oj, ops[j]? = some oj → T.contains j = false → listed.getD j true = false → oi.apart ops oj = true) := by
  simp only [mayTakeP, Bool.and_eq_true] at h; obtain ⟨⟨⟨⟨⟨⟨⟨h1, h2⟩, h3⟩, h4⟩, h5⟩, h6⟩, h7⟩, h8⟩ := h; refine ⟨fun j oj hj hTj hji => ?_, by simpa using h6, fun j hTj => ?_, fun j oj hj hTj hun => ?_⟩
  · have := List.all_eq_true.1 h4 j (by simpa using hTj)
    simp only [hj, Bool.or_eq_true, beq_iff_eq, hji, false_or] at this; obtain ⟨e, he, h9⟩ := List.any_eq_true.1 this; simp only [Bool.and_eq_true] at h9; exact ⟨e, by simpa using he, h9⟩
  · have := List.all_eq_true.1 h5 j (by simpa using hTj)
    revert this
    cases listed[j]? with
    | none => simp
    | some b => cases b <;> simp
  · have := List.all_eq_true.1 h7 j (List.mem_range.2 (Array.getElem?_eq_some_iff.1 hj).1)
    rw [hTj, hun, hi, hj] at this
    simpa using this
end
end SX
namespace Z
section
variable {N : Nat} {E E' : Env} {D : List Deferred} {a : Act} {G : Guards} {F : Fence} {n : Nat} {P : Program} {S : World → Prop} {ops : Array Oper} {o : Oper} {v : Value}
variable {K : Act → World → Prop} {Q : Exit → Act → World → Prop} {w w' w0 : World} {rest : List Oper} {M : List Nat} {L L1 L2 : List SX.Ent} {x : Operand} {d : Nat}
theorem tY [Wide F] {done : List Nat} {Dn : Nat → Bool} (i : Nat) (T : List Nat) (hi : ops[i]? = some o) (hG : effG ops E o = some G) (hd : o.dst = some d) (hc : chk N d E G = true) (hm : (left ops done && SX.mayTakeP .any ops Dn (flags ops.size done) i T) = true)
    (y : Yd P N D (fun _ => True) E G o.op v) (h : Z N ((d, G, v) :: E) D (wpD F n P ops Q S Dn (i :: done)) w) : Z N E D (wpD F n P ops Q S Dn done) w := by
  classical
  simp only [Bool.and_eq_true] at hm; intro a ha; obtain ⟨h1, h2, h3⟩ := chk_spec hc; have hw := wanted_of (ops := ops) (o := o) ha hG; unfold wpD; rw [fuel_eq (i := i) hm.1]; have hmt := hm.2; obtain ⟨q1, q2, q3, q4⟩ := SX.mayTakeP_spec hmt hi; have hmt' := hmt; simp only [SX.mayTakeP, Bool.and_eq_true] at hmt'; obtain ⟨⟨⟨⟨⟨⟨⟨k1, k2⟩, k3⟩, -⟩, -⟩, -⟩, -⟩, k8⟩ := hmt'; have hQ : ∀ u : Value, ∀ c a w, SX.NP Q (.panic c) (a.put o.dst u) w → SX.NP Q (.panic c) a w := fun u c a w h => h.elim
  by_cases hg : gholds a G
  · exact SX.wpAnyS_firstP (fun j => T.contains j) k3 (fun f => Wide.fn f) hi (Region.noSelect_spec k1) (SX.noDefer_spec k2) q1 q2 (hQ v) _ _ a w q3 q4 (by simpa using k8) (.inl ⟨hw.2 hg, fun w hS => y.2 a ha hg o rfl w hS⟩) (by
      rw [hd]
      exact h _ (ha.put h1 h2 h3 (by rw [if_pos hg])))
  · exact SX.wpAnyS_firstP (fun j => T.contains j) k3 (fun f => Wide.fn f) hi (Region.noSelect_spec k1) (SX.noDefer_spec k2) q1 q2 (hQ undef) _ _ a w q3 q4 (by simpa using k8) (.inr ⟨(by
      cases hb : Region.wanted o (yielded ops a.tmps) with
      | false => rfl
      | true => exact absurd (hw.1 hb) hg), rfl⟩) (by
      rw [hd]
      exact h _ (ha.put h1 h2 h3 (by rw [if_neg hg])))
end
end Z
def meC (A : Option Addr) (c : Nat) (B : Option Addr) (d : Nat) (m : MaV) : List Value := [.slice A m.b.l.length c, .slice B m.b.l.length d, .int .i64 m.b.now, .bool m.up, .int .i64 m.r.c0, .int .i64 m.r.c1, .int .i64 m.r.c2, .int .i64 m.r.c3, .int .i64 m.r.now, .int .i64 m.r.b0, .int .i64 m.r.b1, .int .i64 m.r.b2, .int .i64 m.r.b3, .int .i64 m.r.head, .bool m.r.reg, .bool m.r.per, .bool m.r.pow, .bool m.r.fst, .int .i64 m.r.last, .int .i64 m.r.lastP, .int .i64 m.r.told, .int .i64 m.last]
def zeroE : List Value := [.slice none 0 0, .slice none 0 0, .int .i64 0, .bool false, .int .i64 0, .int .i64 0, .int .i64 0, .int .i64 0, .int .i64 0, .int .i64 0, .int .i64 0, .int .i64 0, .int .i64 0, .int .i64 0, .bool false, .bool false, .bool false, .bool false, .int .i64 0, .int .i64 0, .int .i64 0, .int .i64 0]
theorem rv_newA (A : Option Addr) (n c : Nat) (l : List LgV) (w : World) (hx : Sl w A (l.flatMap LgV.cells)) (hl : l.length = n) :
    Calls Tryz.prog 32 #[.slice A n c] w (Ret fun v w' => ∃ Ra Rb k ca cb e Ln, v = .tuple #[.agg #[.slice Ra k ca, .slice Rb k cb, .int .i64 0], .int .i64 e] ∧ e = (if okSet l then 0 else 2) ∧ St w [] w' Ln ∧ (okSet l → k = n ∧ Ln = [Ent.row (.slice Ra n ca) 75 5 n (l.flatMap LgV.cells), Ent.row (.slice Rb n cb) 3 1 n (ints .i64 (newB l).b)])) := by
  refine (rv_new A n c l w hx hl).mono ?_; rintro e w' ⟨v, h1, h2⟩; refine ⟨v, h1, ?_⟩
  by_cases h : okSet l
  · rw [if_pos h] at h2
    obtain ⟨Ra, Rb, ca, cb, rfl, h3⟩ := h2; exact ⟨Ra, Rb, n, ca, cb, 0, _, rfl, by rw [if_pos h], h3, fun _ => ⟨rfl, rfl⟩⟩
  rw [if_neg h] at h2; obtain ⟨rfl, h3⟩ := h2; exact ⟨none, none, 0, 0, 0, 2, _, rfl, by rw [if_neg h], h3, fun k => absurd k h⟩
theorem rx_new (A : Option Addr) (n k : Nat) (ls : List LgV) (a b c d : Int) (up : Bool) (w : World) (hx : Sl w A (ls.flatMap LgV.cells)) (hl : ls.length = n) :
    Calls Tryz.prog 12 #[cfgV A n k a b c d up] w (Ret fun v w' => ∃ cs e Ln, v = .tuple #[.agg cs, .int .i64 e] ∧ e = (if okN9 ls a b c d then 0 else 2) ∧ St w [] w' Ln ∧ (okN9 ls a b c d → ∃ Ra ca Rb cb, cs = (meC Ra ca Rb cb (newM ls a b c d up)).toArray ∧ Ln = [Ent.row (.slice Ra n ca) 75 5 n (ls.flatMap LgV.cells), Ent.row (.slice Rb n cb) 3 1 n (ints .i64 (newB ls).b)]) ∧ (¬ okN9 ls a b c d → cs = (zeroE).toArray)) := by
  have hs := St.start w; unfold cfgV; refine Z.enter func12 rfl ntmps12 rfl rfl ?_; refine V91 ?_; clear hs; intro g1 w1 hs; refine V2 ?_; refine V144 ?_; clear hs; intro g2 w2 hs; refine V453 ?_; refine V247 ?_; refine V2 ?_; refine Z.ZO.call rfl rfl (by rfl) rfl rfl call32 rfl (rv_newA A n k ls _ (hx.st (Jn hs)) hl) ?_; rintro v1_2 w1_2 ⟨Ra, Rb, kk, ca, cb, e1, Ln, rfl, he1, hy, hok1⟩; replace hs := U0 (hs.call hy); clear hy; replace hs := St.rot (L1 := Ln) hs; obtain ⟨rr, hrr⟩ : ∃ rr, (if okC a b c d then newR a b c d else zeroR) = rr := ⟨_, rfl⟩; refine V625 ?_; refine V351 ?_; clear hs; intro g4 w4 hs; refine V860 ?_; clear hs; intro ws hs; replace hs := U1 hs; replace hs := U2 hs; refine V1 ?_; refine Z.only [1, 2, 4, 5] rfl ?_; refine V858 ?_; refine V253 ?_; refine V2 ?_; refine Z.ZO.call rfl rfl (by rfl) rfl rfl call33 rfl (rpr_new a b c d _) ?_; rintro v2_2 w2_2 ⟨rfl, hy⟩; replace hs := U0 (hs.call hy); clear hy; rw [hrr]; obtain ⟨e2, he2⟩ : ∃ e2 : Int, (if okC a b c d then 0 else 2) = e2 := ⟨_, rfl⟩; rw [he2]; refine V625 ?_; refine V239 ?_; clear hs; intro g6 w6 hs; simp only [RpV.ref]; refine V860 ?_; clear hs; intro ws hs; replace hs := U1 hs; replace hs := U2 hs; refine V1 ?_; refine Z.only [1, 2, 4, 5, 6, 7] rfl ?_; refine V30 ?_; refine V476 ?_; refine V857 ?_; refine Z.only [1, 2, 4, 6, 25] rfl ?_; refine V6 ?_; refine Z.cond rfl (fun hc3 => ?_) (fun hc3 => ?_)
  · (try simp at hc3)
    refine V0 ?_; refine V173 ?_; clear hs; intro ws hs; replace hs := U1 hs; replace hs := U2 hs; refine V484 ?_
    repeat (first | refine Z.rthen ?_ | refine Z.rblock ?_ | refine Z.rscope ?_)
    refine Z.out2 J134 ?_; have hno : ¬ okN9 ls a b c d := fun h => by
      rw [if_pos h.1] at he1; rw [if_pos h.2] at he2
      omega
    exact ⟨_, rfl, _, 2, [], rfl, by rw [if_neg hno], Jn hs, fun h => absurd h hno, fun _ => rfl⟩
  (try simp at hc3)
  refine V862 ?_; refine V318 ?_; refine V78 ?_; refine V107 ?_; refine V319 ?_; refine V173 ?_; clear hs; intro ws hs; replace hs := U1 hs; replace hs := U2 hs; refine V484 ?_; refine Z.out2 J134 ?_; have hok : okN9 ls a b c d := by
    by_cases h1 : okSet ls
    · by_cases h2 : okC a b c d
      · exact ⟨h1, h2⟩
      rw [if_neg h2] at he2; omega
    rw [if_neg h1] at he1; omega
  obtain ⟨rfl, hLn⟩ := hok1 hok.1; rw [if_pos hok.2] at hrr; subst hrr; exact ⟨_, rfl, _, 0, Ln, rfl, by rw [if_pos hok], hs.sub (by repeat (first | exact List.Sublist.refl _ | refine List.Sublist.cons _ ?_)), fun _ => ⟨Ra, ca, Rb, cb, by rw [← hl]; rfl, hLn⟩, fun h => absurd hok h⟩
theorem rx_known (A : Option Addr) (c : Nat) (B : Option Addr) (d : Nat) (m : MaV) (id : Int) (w : World) (hA : Sl w A (m.b.l.flatMap LgV.cells)) (hB : Sl w B (ints .i64 m.b.b)) (hm : m.ok) :
    Calls Tryz.prog 62 #[.agg (meC A c B d m).toArray, .int .i64 id] w (Ret fun v w' => v = .bool (knowB m id) ∧ St w [] w' []) := by
  have hs := St.start w; unfold meC; refine Z.enter func62 rfl ntmps62 rfl rfl ?_; refine V91 ?_; clear hs; intro g2 w2 hs; refine V453 ?_; refine V3 ?_; refine Z.l rfl rfl (by rfl) (keepS hs) (Z.Yd.loadA _ rfl isAgg36 (fun _ => cellsBo (cs := [.slice A m.b.l.length c, .slice B m.b.l.length d, .int .i64 m.b.now, .bool m.up, .int .i64 m.r.c0, .int .i64 m.r.c1, .int .i64 m.r.c2, .int .i64 m.r.c3, .int .i64 m.r.now, .int .i64 m.r.b0, .int .i64 m.r.b1, .int .i64 m.r.b2, .int .i64 m.r.b3, .int .i64 m.r.head, .bool m.r.reg, .bool m.r.per, .bool m.r.pow, .bool m.r.fst, .int .i64 m.r.last, .int .i64 m.r.lastP, .int .i64 m.r.told, .int .i64 m.last]) [.slice A m.b.l.length c, .slice B m.b.l.length d, .int .i64 m.b.now] J0 ⟨_, rfl⟩) (by exact sizeOf36)) ?_; refine V62 ?_; refine Z.ZO.call rfl rfl (by rfl) rfl rfl call118 rfl (rv_level A B c d m.b id _ (hA.st (Jn hs)) (hB.st (Jn hs)) hm.b) ?_; rintro v1_3 w1_3 ⟨rfl, hy⟩; replace hs := U0 (hs.call hy); clear hy; refine V126 ?_; refine Z.only [6] rfl ?_; refine V423 ?_; refine V240 ?_; exact ⟨_, rfl, rfl, Jn hs⟩
theorem recS_pw {m : MaV} {x : CtV} {p : Prt} (h : p.1 = 26) : recS m x p = (powE p.1 p.2, { x with pw := x.pw ++ [powV p.1 p.2] }) := by unfold recS; rw [if_pos h, h]
theorem recS_id {m : MaV} {x : CtV} {p : Prt} (h : p.1 = 27 ∨ p.1 = 28) : recS m x p = (idE p.1 p.2, { x with id := x.id ++ [idV p.1 p.2] }) := by unfold recS; rw [if_neg J5, if_pos h]
theorem recS_rp {m : MaV} {x : CtV} {p : Prt} (h : p.1 = 29 ∨ p.1 = 30) : recS m x p = (repE p.1 p.2, { x with rp := x.rp ++ [repV p.1 p.2] }) := by unfold recS; rw [if_neg J5, if_neg J5, if_pos h]
theorem id_good {p : Prt} (h : parG p) (h2 : p.1 = 27 ∨ p.1 = 28) : idE p.1 p.2 = 0 := by
  have hc : ctlN p.1 ≠ 0 := by unfold ctlN; rcases h2 with e | e <;> rw [e] <;> decide
  have hl := h.2 hc; unfold idE; rw [if_pos (show isId p.1 from h2)]; unfold opE wid; unfold ctlN at hl; rw [if_neg J16]
  rcases h2 with e | e <;> rw [e] at hl ⊢ <;> simp at hl ⊢ <;> omega
theorem rep_good {p : Prt} (h : parG p) (h2 : p.1 = 29 ∨ p.1 = 30) : repE p.1 p.2 = 0 := by
  have hc : ctlN p.1 ≠ 0 := by unfold ctlN; rcases h2 with e | e <;> rw [e] <;> decide
  have hl := h.2 hc; unfold repE opE; unfold ctlN at hl
  rcases h2 with e | e <;> rw [e] at hl ⊢ <;> simp at hl ⊢ <;> omega
def RdR (R : Int × CtV) (A : Option Addr) (l : List Int) (w : World) (v : Value) (w' : World) : Prop := ∃ (s0 s1 s2 s3 : Value) (xs : List MpV), v = .tuple #[.agg #[s0, s1, s2, s3], .int .i64 R.1] ∧ xs.map MpV.plain = R.2.sd ∧ (∀ q ∈ xs, ∀ W, Sl W A (ints .u8 l) → Sl W q.B (ints .u8 q.l)) ∧ St w [] w' [Ent.row s0 77 2 xs.length (xs.flatMap MpV.cells), Ent.row s1 86 6 R.2.rp.length (R.2.rp.flatMap RepV.cells), Ent.row s2 3 1 R.2.pw.length (ints .i64 R.2.pw), Ent.row s3 123 1 R.2.id.length (ints .u64 R.2.id)]
theorem RdR.fail {e : Int} {A : Option Addr} {l : List Int} {w w' : World} (hs : St w [] w' []) : RdR (e, CtV.nil) A l w (.tuple #[.agg #[.slice none 0 0, .slice none 0 0, .slice none 0 0, .slice none 0 0], .int .i64 e]) w' := ⟨_, _, _, _, [], rfl, rfl, by simp, (((hs.nil _ 1).nil _ 1).nil _ 6).nil _ 2⟩
theorem rx_receive (A0 : Option Addr) (c : Nat) (B : Option Addr) (d : Nat) (m : MaV) (Ab : Option Addr) (n cb : Nat) (l : List Int) (w : World) (hA : Sl w A0 (m.b.l.flatMap LgV.cells)) (hB : Sl w B (ints .i64 m.b.b)) (hm : m.ok) (hx : Sl w Ab (ints .u8 l)) (hl : l.length = n) (hn : n ≤ 100000) (hnc : n ≤ cb) (hb : ∀ x ∈ l, 0 ≤ x ∧ x < 256) :
    Calls Tryz.prog 22 #[.agg (meC A0 c B d m).toArray, .slice Ab n cb] w (Ret fun v w' => RdR (recV m l) Ab l w v w') := by
  have hs := St.start w; subst hl; obtain ⟨R, hR⟩ : ∃ R, recV m l = R := ⟨_, rfl⟩; rw [hR]; have hcnt := par_cnt l; have hgood := par_good hb; have hmem := par_mem l; have hlen := par_len l; unfold recV at hR; have hk := fun id W hW => rx_known A0 c B d m id W (hA.st (L := []) hW) (hB.st (L := []) hW) hm
  unfold meC at hk ⊢; refine Z.enter func22 rfl ntmps22 rfl rfl ?_; refine V91 ?_; clear hs; intro g2 w2 hs; refine V2 ?_; refine V285 ?_; clear hs; intro g4 w4 hs; refine V1 ?_; refine Z.only [1, 2, 4] rfl ?_; refine V858 ?_; refine V62 ?_; refine Z.ZO.call rfl rfl (by rfl) rfl rfl call58 rfl (mr_Parse Ab cb l _ (hx.st (Jn hs)) hnc hn hb) ?_; rintro v1_1 w1_1 ⟨ps, svp, rfl, hqp, hQ, hy⟩; replace hs := U0 (hs.call hy); clear hy; obtain ⟨Ap, cp, rfl, -, -, -⟩ := row_slv hs (j := 0) rfl; have hql : ps.length ≤ 16385 := by have h7 := congrArg List.length hqp; rw [List.length_map] at h7; omega
  have hqm : ∀ x ∈ ps, x.plain ∈ (parV l).2 := fun x hx => by rw [← hqp]; exact List.mem_map_of_mem hx
  refine V126 ?_; refine Z.only [2, 4, 6, 7] rfl ?_; refine V84 ?_; refine Z.only [2, 4, 6, 7, 23] rfl ?_; refine V6 ?_; refine Z.cond rfl (fun hc2 => ?_) (fun hc2 => ?_)
  · (try simp at hc2)
    refine V0 ?_; refine V135 ?_; refine V456 ?_; clear hs; intro ws hs; replace hs := U1 hs; replace hs := U2 hs; refine V1 ?_; refine V257 ?_
    repeat (first | refine Z.rthen ?_ | refine Z.rblock ?_ | refine Z.rscope ?_)
    refine Z.out2 J96 ?_; rw [if_pos hc2] at hR; subst hR; exact ⟨_, rfl, RdR.fail (Jn hs)⟩
  (try simp at hc2)
  refine V862 ?_; have hE5 : (parV l).1 = 0 := by simpa using hc2
  rw [if_neg (fun k => k hE5)] at hR; refine V2 ?_; refine V285 ?_; clear hs; intro g8 w8 hs; refine V857 ?_; refine Z.only [2, 4, 6, 8] rfl ?_; refine V214 ?_; refine V206 ?_; refine V861 ?_
  refine loopk (ι := Nat × CtV × List MpV × Value × Value × Value × Value) [2, 4, 6, 8] rfl (fun z => [(9, [], .int .i64 (z.1 : Int))]) (fun z wr => (z.1 ≤ ps.length ∧ recGo m ((ps.map MpV.plain).drop z.1) z.2.1 = R ∧ z.2.2.1.map MpV.plain = z.2.1.sd ∧ (∀ q ∈ z.2.2.1, q ∈ ps) ∧ z.2.2.1.length ≤ z.1 ∧ z.2.1.pw.length ≤ z.1 ∧ z.2.1.id.length ≤ z.1 ∧ z.2.1.rp.length ≤ z.1) ∧ St w [] wr (Ent.blk g8 61 #[z.2.2.2.1, z.2.2.2.2.1, z.2.2.2.2.2.1, z.2.2.2.2.2.2] :: Ent.row z.2.2.2.1 77 2 z.2.2.1.length (z.2.2.1.flatMap MpV.cells) :: Ent.row z.2.2.2.2.1 86 6 z.2.1.rp.length (z.2.1.rp.flatMap RepV.cells) :: Ent.row z.2.2.2.2.2.1 3 1 z.2.1.pw.length (ints .i64 z.2.1.pw) :: Ent.row z.2.2.2.2.2.2 123 1 z.2.1.id.length (ints .u64 z.2.1.id) :: Ent.row (.slice Ap ps.length cp) 77 2 ps.length (ps.flatMap MpV.cells) :: Ent.blk g4 61 #[.slice none 0 0, .slice none 0 0, .slice none 0 0, .slice none 0 0] :: Ent.blk g2 41 #[.slice A0 m.b.l.length c, .slice B m.b.l.length d, .int .i64 m.b.now, .bool m.up, .int .i64 m.r.c0, .int .i64 m.r.c1, .int .i64 m.r.c2, .int .i64 m.r.c3, .int .i64 m.r.now, .int .i64 m.r.b0, .int .i64 m.r.b1, .int .i64 m.r.b2, .int .i64 m.r.b3, .int .i64 m.r.head, .bool m.r.reg, .bool m.r.per, .bool m.r.pow, .bool m.r.fst, .int .i64 m.r.last, .int .i64 m.r.lastP, .int .i64 m.r.told, .int .i64 m.last] :: [])) (fun z => ps.length - z.1) (0, CtV.nil, [], .slice none 0 0, .slice none 0 0, .slice none 0 0, .slice none 0 0) J6 ⟨⟨Nat.zero_le _, by rw [List.drop_zero, hqp]; exact hR, rfl, by simp, Nat.le_refl _, Nat.le_refl _, Nat.le_refl _, Nat.le_refl _⟩, ((((hs.nil 123 1).nil 3 1).nil 86 6).nil 77 2).sel [4, 0, 1, 2, 3, 5, 6, 7] J12⟩ ?_
  clear hs; rintro ⟨i, x, xs, s0, s1, s2, s3⟩ w6 ⟨⟨hi, hgo, hxp, hxm, hk0, hk1, hk2, hk3⟩, hs⟩; refine V206 ?_
  (try dsimp only at hs)
  dsimp only at hi hgo hxp hxm hk0 hk1 hk2 hk3 hs; refine V217 ?_; refine V275 ?_; refine Z.only [2, 4, 6, 8, 9, 29] rfl ?_; refine V6 ?_; refine Z.cond rfl (fun hc6 => ?_) (fun hc6 => ?_)
  · (try simp at hc6)
    obtain ⟨q, hz⟩ : ∃ z, ps[i]? = some z := ⟨_, List.getElem?_eq_getElem J5⟩; have hqi : q ∈ ps := List.mem_of_getElem? hz; have hpg := hgood _ (hqm _ hqi); have hpl := hlen _ (hqm _ hqi); have hpm := hmem _ (hqm _ hqi); have hone := mp_one q; have hone2 : ∀ u ∈ (repV q.lc q.l).cells, u.oneCell' = true := by intro u hu; simp [RepV.cells] at hu; rcases hu with rfl | rfl | rfl | rfl | rfl | rfl <;> rfl
    have hqB := hQ q hqi _ hx; have hqy : Byts q.l := fun y hy ↦ hb y (hpm y hy)
    have hdr : (ps.map MpV.plain).drop i = q.plain :: (ps.map MpV.plain).drop (i + 1) := drop_at (by rw [List.getElem?_map, hz]; rfl); rw [hdr, recGo] at hgo; obtain ⟨gp, cp', e9, -, -⟩ := row_form (j := 5) hs rfl J5
    cases e9
    obtain ⟨E0, f0, rfl, -, -, -⟩ := row_slv hs (j := 1) rfl; obtain ⟨E1, f1, rfl, -, -, -⟩ := row_slv hs (j := 2) rfl; obtain ⟨E2, f2, rfl, -, -, -⟩ := row_slv hs (j := 3) rfl; obtain ⟨E3, f3, rfl, -, -, -⟩ := row_slv hs (j := 4) rfl; refine V445 ?_; refine V28 ?_; refine Z.l rfl rfl (by rfl) (keepS hs) (Z.Yd.loadA _ rfl isAgg77 (fun _ => Z.cellsRf (enc := MpV.cells) J0 mp_len hz rfl) J20) ?_; refine V274 ?_; clear hs; intro g10 w10 hs; refine V860 ?_; clear hs; intro ws hs; replace hs := U1 hs; replace hs := U2 hs; refine V857 ?_; refine Z.only [2, 4, 6, 8, 9, 10] rfl ?_; refine V858 ?_; refine V3 ?_; refine V207 ?_; refine V857 ?_; refine Z.only [2, 4, 6, 8, 9, 10, 37] rfl ?_; refine V861 ?_; refine V151 ?_; refine Z.only [2, 4, 6, 8, 9, 10, 37, 48] rfl ?_; refine V6 ?_; refine Z.cond rfl (fun hc12 => ?_) (fun hc12 => ?_)
    · (try simp at hc12)
      refine V0 ?_; refine V85 ?_; refine V2 ?_; refine Z.ZO.call rfl rfl (by rfl) rfl rfl call59 rfl (rdecpow24 q.lc q.B _ q.c q.l _ (hqB.st (Jn hs)) rfl J104 hqy) ?_; rintro v13_1 w13_1 ⟨rfl, hy⟩; replace hs := U0 (hs.call hy); clear hy; refine V126 ?_; refine Z.only [2, 4, 6, 8, 9, 11, 12] rfl ?_; refine V84 ?_; refine Z.only [2, 4, 6, 8, 9, 11, 12, 56] rfl ?_; refine V6 ?_; refine Z.cond rfl (fun hc14 => ?_) (fun hc14 => ?_)
      · (try simp at hc14)
        refine V0 ?_; refine V135 ?_; refine V456 ?_; clear hs; intro ws hs; replace hs := U1 hs; replace hs := U2 hs; refine V1 ?_; refine V257 ?_
        repeat (first | refine Z.rthen ?_ | refine Z.rblock ?_ | refine Z.rscope ?_)
        refine Z.out2 J96 ?_; have e2 := recS_pw (m := m) (x := x) (p := q.plain) hc12; have he : (recS m x q.plain).1 ≠ 0 := by rw [e2]; exact hc14
        rw [if_pos he, e2] at hgo; subst hgo; exact ⟨_, rfl, RdR.fail (Jn hs)⟩
      (try simp at hc14)
      refine V489 ?_; refine V19 ?_; refine V116 ?_; refine V62 ?_; refine V57 ?_; clear hs; intro g62 w62 hs; refine V2 ?_; refine V39 ?_; clear hs; intro g63 cap63 w63 hs; replace hs := U3 hs; refine V19 ?_; refine V681 ?_; clear hs; intro ws hs; replace hs := U1 hs; refine V857 ?_; refine V335 ?_; refine V6 ?_; have hlc : q.plain.1 = 26 := hc12; have e2 := recS_pw (m := m) (x := x) (p := q.plain) hlc; have he : (recS m x q.plain).1 = 0 := by rw [e2]; exact hc14
      rw [if_neg (fun k => k he), e2] at hgo; have hs2 := hs.tl; rw [show x.pw.length + 1 = (x.pw ++ [powV q.lc q.l]).length from by simp, show ints .i64 x.pw ++ [.int .i64 (powV q.lc q.l)] = ints .i64 (x.pw ++ [powV q.lc q.l]) from by simp [ints]] at hs2; exact again (i + 1, { x with pw := x.pw ++ [powV q.lc q.l] }, xs, _, _, _, _) J8 ⟨⟨by simp only; omega, hgo, hxp, hxm, by simp; omega, by simp; omega, by simp; omega, by simp; omega⟩, hs2⟩ J22
    (try simp at hc12)
    refine V283 ?_; refine Z.only [2, 4, 6, 8, 9, 10, 37, 65] rfl ?_; refine V6 ?_; refine Z.cond rfl (fun hc17 => ?_) (fun hc17 => ?_)
    · (try simp at hc17)
      refine V361 ?_; refine Z.cond rfl (fun hc17 => ?_) (fun hc17 => ?_)
      · (try simp at hc17)
        refine V573 ?_; rintro v19_1 w19_1 ⟨rfl, hy⟩; replace hs := U0 (hs.call hy); clear hy; refine V396 ?_; clear hs; intro g76 w76 hs; refine V2 ?_; refine V250 ?_; clear hs; intro g77 cap77 w77 hs; replace hs := U3 hs; refine V38 ?_; refine V2 ?_; refine Z.ZO.store rfl rfl hs sizeOf59 rfl rfl rfl J1 J9 ?_; clear hs; intro ws hs; replace hs := U1 hs; refine V857 ?_; refine V335 ?_; refine V6 ?_; have hlc : q.plain.1 = 27 ∨ q.plain.1 = 28 := by show q.lc = 27 ∨ q.lc = 28; omega
        have e2 := recS_id (m := m) (x := x) (p := q.plain) hlc; have he : (recS m x q.plain).1 = 0 := by rw [e2]; exact (id_good hpg hlc)
        rw [if_neg (fun k => k he), e2] at hgo; have hs2 := hs.tl; rw [show x.id.length + 1 = (x.id ++ [idV q.lc q.l]).length from by simp, show ints .u64 x.id ++ [.int .u64 (idV q.lc q.l)] = ints .u64 (x.id ++ [idV q.lc q.l]) from by simp [ints]] at hs2; exact again (i + 1, { x with id := x.id ++ [idV q.lc q.l] }, xs, _, _, _, _) J8 ⟨⟨by simp only; omega, hgo, hxp, hxm, by simp; omega, by simp; omega, by simp; omega, by simp; omega⟩, hs2⟩ J22
      (exfalso; simp at hc17 <;> omega)
    (try simp at hc17)
    refine V42 ?_; refine V31 ?_; refine Z.only [2, 4, 6, 8, 9, 10, 37, 65] rfl ?_; refine V6 ?_; refine Z.cond rfl (fun hc18 => ?_) (fun hc18 => ?_)
    · (try simp at hc18)
      refine V573 ?_; rintro v19_1 w19_1 ⟨rfl, hy⟩; replace hs := U0 (hs.call hy); clear hy; refine V396 ?_; clear hs; intro g76 w76 hs; refine V2 ?_; refine V250 ?_; clear hs; intro g77 cap77 w77 hs; replace hs := U3 hs; refine V38 ?_; refine V2 ?_; refine Z.ZO.store rfl rfl hs sizeOf59 rfl rfl rfl J1 J9 ?_; clear hs; intro ws hs; replace hs := U1 hs; refine V857 ?_; refine V335 ?_; refine V6 ?_; have hlc : q.plain.1 = 27 ∨ q.plain.1 = 28 := by show q.lc = 27 ∨ q.lc = 28; omega
      have e2 := recS_id (m := m) (x := x) (p := q.plain) hlc; have he : (recS m x q.plain).1 = 0 := by rw [e2]; exact (id_good hpg hlc)
      rw [if_neg (fun k => k he), e2] at hgo; have hs2 := hs.tl; rw [show x.id.length + 1 = (x.id ++ [idV q.lc q.l]).length from by simp, show ints .u64 x.id ++ [.int .u64 (idV q.lc q.l)] = ints .u64 (x.id ++ [idV q.lc q.l]) from by simp [ints]] at hs2; exact again (i + 1, { x with id := x.id ++ [idV q.lc q.l] }, xs, _, _, _, _) J8 ⟨⟨by simp only; omega, hgo, hxp, hxm, by simp; omega, by simp; omega, by simp; omega, by simp; omega⟩, hs2⟩ J22
    (try simp at hc18)
    refine V283 ?_; refine Z.only [2, 4, 6, 8, 9, 10, 37, 79] rfl ?_; refine V6 ?_; refine Z.cond rfl (fun hc21 => ?_) (fun hc21 => ?_)
    · (try simp at hc21)
      refine V361 ?_; refine Z.cond rfl (fun hc21 => ?_) (fun hc21 => ?_)
      · (try simp at hc21)
        refine V604 ?_; rintro v23_1 w23_1 ⟨rfl, hy⟩; replace hs := U0 (hs.call hy); clear hy; refine V50 ?_; refine V481 ?_; clear hs; intro g15 w15 hs; refine V860 ?_; clear hs; intro ws hs; replace hs := U1 hs; replace hs := U2 hs; refine V364 ?_; refine V2 ?_; refine V169 ?_; clear hs; intro g90 w90 hs; refine V2 ?_; refine V251 ?_; clear hs; intro g91 cap91 w91 hs; replace hs := U3 hs; refine V8 ?_; refine V2 ?_; refine Z.ZO.store rfl rfl hs sizeOf58 rfl rfl rfl J1 J9 ?_; clear hs; intro ws hs; replace hs := U1 hs; refine V857 ?_; refine V335 ?_; refine V6 ?_; have hlc : q.plain.1 = 29 ∨ q.plain.1 = 30 := by show q.lc = 29 ∨ q.lc = 30; omega
        have e2 := recS_rp (m := m) (x := x) (p := q.plain) hlc; have he : (recS m x q.plain).1 = 0 := by rw [e2]; exact (rep_good hpg hlc)
        rw [if_neg (fun k => k he), e2] at hgo; have hs2 := hs.tl.tl; rw [show x.rp.length + 1 = (x.rp ++ [repV q.lc q.l]).length from by simp] at hs2; have hfm : (x.rp ++ [repV q.lc q.l]).flatMap RepV.cells = x.rp.flatMap RepV.cells ++ (repV q.lc q.l).cells := by simp
        exact again (i + 1, { x with rp := x.rp ++ [repV q.lc q.l] }, xs, _, _, _, _) J8 ⟨⟨by simp only; omega, hgo, hxp, hxm, by simp; omega, by simp; omega, by simp; omega, by simp; omega⟩, (by simpa [RepV.cells] using hs2)⟩ J22
      (exfalso; simp at hc21 <;> omega)
    (try simp at hc21)
    refine V42 ?_; refine V31 ?_; refine Z.only [2, 4, 6, 8, 9, 10, 79] rfl ?_; refine V6 ?_; refine Z.cond rfl (fun hc22 => ?_) (fun hc22 => ?_)
    · (try simp at hc22)
      refine V604 ?_; rintro v23_1 w23_1 ⟨rfl, hy⟩; replace hs := U0 (hs.call hy); clear hy; refine V50 ?_; refine V481 ?_; clear hs; intro g15 w15 hs; refine V860 ?_; clear hs; intro ws hs; replace hs := U1 hs; replace hs := U2 hs; refine V364 ?_; refine V2 ?_; refine V169 ?_; clear hs; intro g90 w90 hs; refine V2 ?_; refine V251 ?_; clear hs; intro g91 cap91 w91 hs; replace hs := U3 hs; refine V8 ?_; refine V2 ?_; refine Z.ZO.store rfl rfl hs sizeOf58 rfl rfl rfl J1 J9 ?_; clear hs; intro ws hs; replace hs := U1 hs; refine V857 ?_; refine V335 ?_; refine V6 ?_; have hlc : q.plain.1 = 29 ∨ q.plain.1 = 30 := by show q.lc = 29 ∨ q.lc = 30; omega
      have e2 := recS_rp (m := m) (x := x) (p := q.plain) hlc; have he : (recS m x q.plain).1 = 0 := by rw [e2]; exact (rep_good hpg hlc)
      rw [if_neg (fun k => k he), e2] at hgo; have hs2 := hs.tl.tl; rw [show x.rp.length + 1 = (x.rp ++ [repV q.lc q.l]).length from by simp] at hs2; have hfm : (x.rp ++ [repV q.lc q.l]).flatMap RepV.cells = x.rp.flatMap RepV.cells ++ (repV q.lc q.l).cells := by simp
      exact again (i + 1, { x with rp := x.rp ++ [repV q.lc q.l] }, xs, _, _, _, _) J8 ⟨⟨by simp only; omega, hgo, hxp, hxm, by simp; omega, by simp; omega, by simp; omega, by simp; omega⟩, (by simpa [RepV.cells] using hs2)⟩ J22
    (try simp at hc22)
    refine V0 ?_; refine Z.l rfl rfl (by rfl) (keepS hs) (Z.Yd.loadA _ rfl isAgg41 (fun _ => cellsB (cs := [.slice A0 m.b.l.length c, .slice B m.b.l.length d, .int .i64 m.b.now, .bool m.up, .int .i64 m.r.c0, .int .i64 m.r.c1, .int .i64 m.r.c2, .int .i64 m.r.c3, .int .i64 m.r.now, .int .i64 m.r.b0, .int .i64 m.r.b1, .int .i64 m.r.b2, .int .i64 m.r.b3, .int .i64 m.r.head, .bool m.r.reg, .bool m.r.per, .bool m.r.pow, .bool m.r.fst, .int .i64 m.r.last, .int .i64 m.r.lastP, .int .i64 m.r.told, .int .i64 m.last]) J0) J50) ?_; refine V3 ?_; refine V207 ?_; refine V2 ?_; refine Z.ZO.call rfl rfl (by rfl) rfl rfl call62 rfl (hk q.lc _ (Jn hs)) ?_; rintro v10_3 w10_3 ⟨rfl, hy⟩; replace hs := U0 (hs.call hy); clear hy; refine V857 ?_; refine Z.only [2, 4, 6, 8, 9, 10, 41] rfl ?_; refine V6 ?_; refine Z.cond rfl (fun hc10 => ?_) (fun hc10 => ?_)
    · (try simp at hc10)
      refine V42 ?_; refine V3 ?_; refine V256 ?_; refine V85 ?_; refine V2 ?_; refine V58 ?_; clear hs; intro g45 w45 hs; refine V2 ?_; refine V75 ?_; clear hs; intro g46 cap46 w46 hs; replace hs := U3 hs; refine V3 ?_; refine V2 ?_; refine V170 ?_; clear hs; intro ws hs; replace hs := U1 hs; refine V857 ?_; refine V335 ?_; refine V6 ?_; have hcn : ctlN q.plain.1 = 0 := by show ctlN q.lc = 0; unfold ctlN; rw [if_neg J5, if_neg J5, if_neg J5, if_neg J5]
      rw [recS_no hcn] at hgo; rw [if_pos (c := knowB m q.plain.1 = true) hc10] at hgo; simp only [ne_eq, not_true_eq_false, ↓reduceIte] at hgo; have hs2 := hs.tl; rw [show xs.length + 1 = (xs ++ [q]).length from by simp] at hs2; exact again (i + 1, { x with sd := x.sd ++ [q.plain] }, xs ++ [q], _, _, _, _) J8 ⟨⟨by simp only; omega, hgo, by rw [List.map_append, hxp]; rfl, by intro z hz9; rcases List.mem_append.1 hz9 with h | h; exact hxm z h; (obtain rfl : z = _ := by simpa using h); exact hqi, by simp; omega, by simp; omega, by simp; omega, by simp; omega⟩, (by simpa [MpV.cells] using hs2)⟩ J22
    (try simp at hc10)
    refine V68 ?_; refine V302 ?_; refine V206 ?_; refine V6 ?_; have hcn : ctlN q.plain.1 = 0 := by show ctlN q.lc = 0; unfold ctlN; rw [if_neg J5, if_neg J5, if_neg J5, if_neg J5]
    rw [recS_no hcn] at hgo; rw [if_neg (c := knowB m q.plain.1 = true) (by show ¬ knowB m q.lc = true; simp [hc10])] at hgo; simp only [ne_eq, not_true_eq_false, ↓reduceIte] at hgo; exact again (i + 1, x, xs, _, _, _, _) J8 ⟨⟨by simp only; omega, hgo, hxp, hxm, by simp; omega, by simp; omega, by simp; omega, by simp; omega⟩, hs.tl⟩ J22
  (try simp at hc6)
  refine V181 ?_; obtain ⟨E0, f0, rfl, -, -, -⟩ := row_slv hs (j := 1) rfl; obtain ⟨E1, f1, rfl, -, -, -⟩ := row_slv hs (j := 2) rfl; obtain ⟨E2, f2, rfl, -, -, -⟩ := row_slv hs (j := 3) rfl; obtain ⟨E3, f3, rfl, -, -, -⟩ := row_slv hs (j := 4) rfl; refine Z.l rfl rfl (by rfl) (keepS hs) (Z.Yd.loadA _ rfl isAgg61 (fun _ => cellsB (cs := [.slice E0 _ f0, .slice E1 _ f1, .slice E2 _ f2, .slice E3 _ f3]) J0) J128) ?_; refine V860 ?_; clear hs; intro ws hs; replace hs := U1 hs; replace hs := U2 hs; refine V1 ?_; refine V257 ?_; refine Z.out2 J96 ?_; obtain rfl : i = ps.length := by omega
  rw [List.drop_of_length_le (by rw [List.length_map]; exact Nat.le_refl _)] at hgo; subst hgo; exact ⟨_, rfl, _, _, _, _, xs, rfl, hxp, fun q hq W hW => hQ q (hxm q hq) W hW, hs.sel [1, 2, 3, 4] J12⟩
theorem rx_new_ok (A : Option Addr) (n k : Nat) (ls : List LgV) (a b c d : Int) (up : Bool) (w : World) (hx : Sl w A (ls.flatMap LgV.cells)) (hl : ls.length = n) (h : okN9 ls a b c d) :
    Calls Tryz.prog 12 #[cfgV A n k a b c d up] w (Ret fun v w' => ∃ Ra ca Rb cb, v = .tuple #[.agg (meC Ra ca Rb cb (newM ls a b c d up)).toArray, .int .i64 0] ∧ St w [] w' [Ent.row (.slice Ra n ca) 75 5 n (ls.flatMap LgV.cells), Ent.row (.slice Rb n cb) 3 1 n (ints .i64 (newB ls).b)]) := by
  refine (rx_new A n k ls a b c d up w hx hl).mono ?_; rintro e w' ⟨v, rfl, cs, e2, Ln, rfl, he, hs, hok, -⟩; obtain ⟨Ra, ca, Rb, cb, rfl, rfl⟩ := hok h; rw [if_pos h] at he; subst he; exact ⟨_, rfl, Ra, ca, Rb, cb, rfl, hs⟩
theorem rx_new_bad (A : Option Addr) (n k : Nat) (ls : List LgV) (a b c d : Int) (up : Bool) (w : World) (hx : Sl w A (ls.flatMap LgV.cells)) (hl : ls.length = n) (h : ¬ okN9 ls a b c d) :
    Calls Tryz.prog 12 #[cfgV A n k a b c d up] w (Ret fun v w' => v = .tuple #[.agg zeroE.toArray, .int .i64 2] ∧ St w [] w' []) := by
  refine (rx_new A n k ls a b c d up w hx hl).mono ?_; rintro e w' ⟨v, rfl, cs, e2, Ln, rfl, he, hs, -, hbad⟩; rw [if_neg h] at he; subst he; exact ⟨_, rfl, by rw [hbad h], Jn hs⟩
theorem mx_new_bad (A : Option Addr) (n k : Nat) (ls : List LgV) (a b c d : Int) (up : Bool) (w : World) (hx : Sl w A (ls.flatMap LgV.cells)) (hl : ls.length = n) (hn : n ≤ 1000) (hk : n ≤ k) (h : ¬ okN9 ls a b c d) :
    Calls Tryz.prog 11 #[cfgV A n k a b c d up] w (Ret fun v w' => v = .tuple #[.pointer none, .int .i64 2] ∧ St w [] w' []) := by
  by_cases h1 : okSet ls
  · exact mx_new_badR A n k ls a b c d up w hx hl hn hk h1 (fun h2 => h ⟨h1, h2⟩)
  exact mx_new_badB A n k ls a b c d up w hx hl hn hk h1

theorem rx_ctq {w0 W : World} {M : List Nat} {L : List Ent} {m : MaV} {A : Option Addr} {l : List Int} {s0 s1 s2 s3 : Value} {xs : List MpV} (hb : ∀ x ∈ l, 0 ≤ x ∧ x < 256) (hs : St w0 M W L) (hp : xs.map MpV.plain = (recV m l).2.sd) (hq : ∀ q ∈ xs, ∀ W, Sl W A (ints .u8 l) → Sl W q.B (ints .u8 q.l)) (hx : Sl W A (ints .u8 l))
    (hL : ∀ e ∈ [Ent.row s0 77 2 xs.length (xs.flatMap MpV.cells), Ent.row s1 86 6 (recV m l).2.rp.length ((recV m l).2.rp.flatMap RepV.cells), Ent.row s2 3 1 (recV m l).2.pw.length (ints .i64 (recV m l).2.pw), Ent.row s3 123 1 (recV m l).2.id.length (ints .u64 (recV m l).2.id)], e ∈ L) : CtQ W [s0, s1, s2, s3] xs (recV m l).2 := by
  obtain ⟨j0, h0⟩ := List.getElem?_of_mem (hL (Ent.row s0 77 2 xs.length (xs.flatMap MpV.cells)) J16); obtain ⟨j1, h1⟩ := List.getElem?_of_mem (hL (Ent.row s1 86 6 (recV m l).2.rp.length ((recV m l).2.rp.flatMap RepV.cells)) J16); obtain ⟨j2, h2⟩ := List.getElem?_of_mem (hL (Ent.row s2 3 1 (recV m l).2.pw.length (ints .i64 (recV m l).2.pw)) J16); obtain ⟨j3, h3⟩ := List.getElem?_of_mem (hL (Ent.row s3 123 1 (recV m l).2.id.length (ints .u64 (recV m l).2.id)) J16); obtain ⟨A0, c0, rfl, -, -, -⟩ := row_slv hs h0; obtain ⟨A1, c1, rfl, -, -, -⟩ := row_slv hs h1; obtain ⟨A2, c2, rfl, -, -, -⟩ := row_slv hs h2; obtain ⟨A3, c3, rfl, -, -, -⟩ := row_slv hs h3; refine ⟨A0, c0, A1, c1, A2, c2, A3, c3, rfl, hp, hs.slm (List.mem_of_getElem? h0), hs.slm (List.mem_of_getElem? h1), hs.slm (List.mem_of_getElem? h2), hs.slm (List.mem_of_getElem? h3), fun q h => hq q h W hx, fun q h z hz => ?_⟩; have h5 : q.plain ∈ (recV m l).2.sd := by rw [← hp]; exact List.mem_map_of_mem h
  exact hb z (par_mem l _ ((rec_bd m l).1 _ h5) z hz)
theorem ct_bd {m : MaV} {l : List Int} {xs : List MpV} (hp : xs.map MpV.plain = (recV m l).2.sd) : xs.length ≤ 9223372036854775807 ∧ (recV m l).2.rp.length ≤ 1000000 ∧ (recV m l).2.pw.length ≤ 1000000 ∧ (recV m l).2.id.length ≤ 1000000 := by
  have hbd := rec_bd m l; have hxl := congrArg List.length hp; rw [List.length_map] at hxl
  omega
theorem iset9 {κ : IntKind} {xs : List Int} {i : Nat} {v : Int} : (ints κ xs).set i (.int κ v) = ints κ (xs.set i v) := by
  unfold ints; rw [List.map_set]
theorem sameC_refl (x : CtV) : sameC x x := ⟨rfl, rfl, rfl, rfl⟩

theorem rx_size (A : Option Addr) (n c : Nat) (ps : List MpV) (w : World) (hx : Sl w A (ps.flatMap MpV.cells)) (hl : ps.length = n) (hn : n ≤ 100) (hf : ∀ q ∈ ps, q.l.length ≤ 100000) (hb : ∀ i, 0 ≤ bytesP ((ps.map MpV.plain).take i) ∧ bytesP ((ps.map MpV.plain).take i) ≤ 100000000) :
    Calls Tryz.prog 82 #[.slice A n c] w (Ret fun v w' => v = .int .i64 (bytesP (ps.map MpV.plain)) ∧ St w [] w' []) := by
  have hs := St.start w; refine Z.enter func82 rfl ntmps82 rfl rfl ?_; refine V592 ?_; refine loopk (ι := Nat) [0] rfl (fun i => [(3, [], .int .i64 (bytesP ((ps.map MpV.plain).take i))), (4, [], .int .i64 (i : Int))]) (fun i wr => i ≤ n ∧ St w [] wr []) (fun i => n - i) 0 J11 ⟨Nat.zero_le _, hs⟩ ?_; clear hs; rintro i w3 ⟨hi, hs⟩; refine V261 ?_; refine V217 ?_; refine V275 ?_; refine Z.only [0, 3, 4, 8] rfl ?_; refine V6 ?_; refine Z.cond rfl (fun hc3 => ?_) (fun hc3 => ?_)
  · (try simp at hc3)
    obtain ⟨b, off, rfl, hb0, hx2⟩ := Z.Sl.some hx J69; obtain ⟨q, hqi⟩ : ∃ q, ps[i]? = some q := ⟨_, List.getElem?_eq_getElem J5⟩; have htk := plain_take hqi; have hq1 := hf q (List.mem_of_getElem? hqi); have e2 : q.plain.2 = q.l := rfl; have hbi := hb i; refine V150 ?_; refine V42 ?_; refine V859 ?_; refine V5 ?_; refine V11 ?_; refine V28 ?_; refine V8 ?_; refine Z.l rfl rfl (by rfl) (keepS hs) (Z.Yd.load rfl isAgg48 (fun _ => cellXf (j := 1) hx2.sx mp_len hqi rfl)) ?_; refine V29 ?_; refine V33 ?_; refine V261 ?_; refine V641 ?_; exact again (i + 1) (by refine ⟨?_, ?_, ?_, trivial⟩ <;> first | rfl | (rw [htk, bytesP_snoc, e2]; exact congrArg (fun z ↦ some (([] : List (Nat × Bool)), Value.int .i64 z)) J5)) ⟨by omega, hs⟩ J5
  (try simp at hc3)
  refine V537 ?_; obtain rfl : i = n := by omega
  exact ⟨_, rfl, by rw [List.take_of_length_le J45], hs⟩
def askR (dem : List Int) (i : Nat) : List Int := (dem.take i).map askd ++ List.replicate (dem.length - i) 0
theorem askR_len {dem : List Int} {i : Nat} (h : i ≤ dem.length) : (askR dem i).length = dem.length := by unfold askR; simp; omega
theorem askR_end (dem : List Int) : askR dem dem.length = dem.map askd := by unfold askR; simp
theorem askR_set {dem : List Int} {i : Nat} {d : Int} (h : dem[i]? = some d) : (askR dem i).set i (askd d) = askR dem (i + 1) := by
  have hi : i < dem.length := (List.getElem?_eq_some_iff.1 h).1; unfold askR; obtain ⟨k, hk⟩ : ∃ k, dem.length - i = k + 1 := ⟨dem.length - i - 1, by omega⟩; rw [hk, show dem.length - (i + 1) = k from by omega, List.replicate_succ, List.take_add_one, h]; rw [List.set_append_right _ _ J45]; simp [show i - min i dem.length = 0 from by omega]
theorem askR_no {dem : List Int} {i : Nat} {d : Int} (h : dem[i]? = some d) (hd : d ≤ 0) : askR dem i = askR dem (i + 1) := by
  have hi : i < dem.length := (List.getElem?_eq_some_iff.1 h).1; unfold askR; obtain ⟨k, hk⟩ : ∃ k, dem.length - i = k + 1 := ⟨dem.length - i - 1, by omega⟩; rw [hk, show dem.length - (i + 1) = k from by omega, List.replicate_succ, List.take_add_one, h]; have e : askd d = 0 := by unfold askd; rw [if_neg J5]
  simp [e]
theorem rx_plan (A : Option Addr) (c : Nat) (B : Option Addr) (d : Nat) (m : MaV) (now n head : Int) (D : Option Addr) (nd cd : Nat) (dem : List Int) (w : World) (hA : Sl w A (m.b.l.flatMap LgV.cells)) (hB : Sl w B (ints .i64 m.b.b)) (hm : m.ok) (hD : Sl w D (ints .i64 dem)) (hdl : dem.length = nd) (hnd : nd ≤ 1000) :
    Calls Tryz.prog 34 #[.agg (meC A c B d m).toArray, .int .i64 now, .int .i64 n, .int .i64 head, .slice D nd cd] w (Ret fun v w' => ∃ Bn dn ov Ln, v = .tuple #[.agg (meC A c Bn dn (planV m now n head dem).1).toArray, ov, .int .i64 (planV m now n head dem).2.2] ∧ St w [] w' (Ent.row ov 3 1 (planV m now n head dem).2.1.length (ints .i64 (planV m now n head dem).2.1) :: Ln) ∧ (Ent.row (.slice Bn m.b.l.length dn) 3 1 m.b.l.length (ints .i64 (planV m now n head dem).1.b.b) ∈ Ln ∨ Bn = B ∧ dn = d ∧ (planV m now n head dem).1.b.b = m.b.b)) := by
  have hs := St.start w; have hpos := hm.b.pos; subst hdl; have hno : ¬ okPl m now n head dem → planV m now n head dem = (m, [], 2) := fun h => by unfold planV; rw [if_neg h]
  obtain ⟨bC, oC, eC, hbC, hA2⟩ := Z.Sl.some hA J91; rw [show meC A c B d m = [.slice A m.b.l.length c, .slice B m.b.l.length d, .int .i64 m.b.now, .bool m.up, .int .i64 m.r.c0, .int .i64 m.r.c1, .int .i64 m.r.c2, .int .i64 m.r.c3, .int .i64 m.r.now, .int .i64 m.r.b0, .int .i64 m.r.b1, .int .i64 m.r.b2, .int .i64 m.r.b3, .int .i64 m.r.head, .bool m.r.reg, .bool m.r.per, .bool m.r.pow, .bool m.r.fst, .int .i64 m.r.last, .int .i64 m.r.lastP, .int .i64 m.r.told, .int .i64 m.last] from rfl]; refine Z.enter func34 rfl ntmps34 rfl rfl ?_; refine V91 ?_; clear hs; intro g5 w5 hs; refine V2 ?_; refine V144 ?_; clear hs; intro g10 w10 hs; refine V31 ?_; refine Z.only [1, 2, 3, 4, 5, 10] rfl ?_; refine V30 ?_; refine Z.lb 8 rfl ?_; refine V282 ?_; refine V9 ?_; refine Z.lb 16 rfl ?_; refine V26 ?_; refine V3 ?_; refine V3 ?_; refine V55 ?_; refine V31 ?_; refine Z.only [1, 2, 3, 4, 5, 10, 58] rfl ?_; refine V6 ?_; refine Z.cond rfl (fun hc1 => ?_) (fun hc1 => ?_)
  · (try simp at hc1)
    refine V429 ?_; clear hs; intro ws hs; replace hs := U1 hs; replace hs := U2 hs; refine V1012 ?_
    repeat (first | refine Z.rthen ?_ | refine Z.rblock ?_ | refine Z.rscope ?_)
    refine Z.out3 J41 ?_; exact ⟨_, rfl, B, d, .slice none 0 0, [], by rw [hno (fun h => by have h1 := h.1; unfold okRd at h1; have h2 := h.2; omega)]; rfl, by rw [hno (fun h => by have h1 := h.1; unfold okRd at h1; have h2 := h.2; omega)]; exact St.nil (Jn hs) _ 1, .inr ⟨rfl, rfl, by rw [hno (fun h => by have h1 := h.1; unfold okRd at h1; have h2 := h.2; omega)]⟩⟩
  (try simp at hc1)
  refine V862 ?_; have h3 : okRd m now n ∧ (0 ≤ head ∧ head ≤ 63) ∧ dem.length = m.b.l.length := by unfold okRd; omega
  refine V2 ?_; refine V98 ?_; clear hs; intro g13 w13 hs; refine V857 ?_; refine Z.only [1, 2, 3, 4, 5, 10, 13] rfl ?_; refine V303 ?_; refine V26 ?_; refine V2 ?_; refine V114 ?_; clear hs; intro g62 w62 hs; refine V1 ?_; refine Z.only [1, 2, 3, 4, 5, 10, 13, 14] rfl ?_; refine V214 ?_; refine V348 ?_; refine V861 ?_
  refine loopk (ι := Nat) [1, 2, 3, 4, 5, 10, 13, 14] rfl (fun i => [(15, [], .int .i64 (i : Int))]) (fun i wr => (i ≤ dem.length ∧ okAs (dem.take i)) ∧ St w [] wr (Ent.row (.slice (some ⟨g62, 0, none⟩) dem.length dem.length) 3 1 dem.length (ints .i64 (askR dem i)) :: Ent.blk g13 37 (gcs ((m.b.l.zip dem).take i)).toArray :: Ent.blk g10 41 #[.slice none 0 0, .slice none 0 0, .int .i64 0, .bool false, .int .i64 0, .int .i64 0, .int .i64 0, .int .i64 0, .int .i64 0, .int .i64 0, .int .i64 0, .int .i64 0, .int .i64 0, .int .i64 0, .bool false, .bool false, .bool false, .bool false, .int .i64 0, .int .i64 0, .int .i64 0, .int .i64 0] :: Ent.blk g5 41 #[.slice A m.b.l.length c, .slice B m.b.l.length d, .int .i64 m.b.now, .bool m.up, .int .i64 m.r.c0, .int .i64 m.r.c1, .int .i64 m.r.c2, .int .i64 m.r.c3, .int .i64 m.r.now, .int .i64 m.r.b0, .int .i64 m.r.b1, .int .i64 m.r.b2, .int .i64 m.r.b3, .int .i64 m.r.head, .bool m.r.reg, .bool m.r.per, .bool m.r.pow, .bool m.r.fst, .int .i64 m.r.last, .int .i64 m.r.lastP, .int .i64 m.r.told, .int .i64 m.last] :: [])) (fun i => dem.length - i) 0 J6 ⟨⟨Nat.zero_le _, by simp [okAs]⟩, by rw [show List.replicate dem.length (Value.int .i64 0) = ints .i64 (askR dem 0) from by simp [askR, ints]] at hs; exact hs⟩ ?_; clear hs; rintro i w6 ⟨⟨hi, hda⟩, hs⟩; refine V348 ?_; refine V217 ?_; refine V248 ?_; refine Z.only [1, 2, 3, 4, 5, 10, 13, 14, 15, 66] rfl ?_; refine V6 ?_; refine Z.cond rfl (fun hc6 => ?_) (fun hc6 => ?_)
  · (try simp at hc6)
    obtain ⟨dd, hd⟩ : ∃ d, dem[i]? = some d := ⟨_, List.getElem?_eq_getElem J5⟩; obtain ⟨ch, hch⟩ : ∃ c, m.b.l[i]? = some c := ⟨_, List.getElem?_eq_getElem J5⟩; have he : elt dem (i : Int) = dd := by simp [elt, hd]
    obtain ⟨bD, oD, rfl, hbD, hD2⟩ := Z.Sl.some hD J70; have hcd : ∀ L W, Keep w [] L W → W.cell? ⟨bD, oD + (i : Int).toNat * 1, none⟩ = some (.int .i64 dd) := fun L W hW => by rw [← he]; exact cellS hD2 rfl J5 J5 W hW
    have hgr := (hm.b.set.2.1 ch (List.mem_of_getElem? hch)).2.2.2.2; have hta : dem.take (i + 1) = dem.take i ++ [dd] := by rw [List.take_add_one, hd]; rfl
    have htz : (m.b.l.zip dem).take (i + 1) = (m.b.l.zip dem).take i ++ [(ch, dd)] := by
      have h7 : (m.b.l.zip dem)[i]? = some (ch, dd) := by rw [List.getElem?_zip_eq_some]; exact ⟨hch, hd⟩
      rw [List.take_add_one, h7]
      rfl
    have hgb := grpS_bd (l := (m.b.l.zip dem).take i) J98 ch.gr; have hzl : ((m.b.l.zip dem).take i).length ≤ 10 := by rw [List.length_take, List.length_zip]; omega
    have hal := askR_len (i := i) (dem := dem) hi; refine V150 ?_; refine V217 ?_; refine V139 ?_; refine V259 ?_; refine V139 ?_; refine V31 ?_; refine Z.only [1, 2, 3, 4, 5, 10, 13, 14, 15, 80] rfl ?_; refine V6 ?_; refine Z.cond rfl (fun hc8 => ?_) (fun hc8 => ?_)
    · (try simp at hc8)
      refine V429 ?_; clear hs; intro ws hs; replace hs := U1 hs; replace hs := U2 hs; refine V1012 ?_
      repeat (first | refine Z.rthen ?_ | refine Z.rblock ?_ | refine Z.rscope ?_)
      refine Z.out3 J41 ?_; exact ⟨_, rfl, B, d, .slice none 0 0, [], by rw [hno (fun h => by have h1 := h.2.2.2 dd (List.mem_of_getElem? hd); omega)]; rfl, by rw [hno (fun h => by have h1 := h.2.2.2 dd (List.mem_of_getElem? hd); omega)]; exact St.nil (Jn hs) _ 1, .inr ⟨rfl, rfl, by rw [hno (fun h => by have h1 := h.2.2.2 dd (List.mem_of_getElem? hd); omega)]⟩⟩
    (try simp at hc8)
    refine V862 ?_; have hd9 : 0 ≤ dd ∧ dd ≤ 8388608 := by omega
    subst eC; refine V3 ?_; refine V247 ?_; refine V859 ?_; refine V76 ?_; refine V54 ?_; refine Z.l rfl rfl (by rfl) (keepS hs) (Z.Yd.load rfl isAgg3 (fun _ => cellXf (j := 4) hA2.sx lg_len hch rfl)) ?_; refine V1 ?_; refine Z.only [1, 2, 3, 4, 5, 10, 13, 14, 15, 16] rfl ?_; refine V210 ?_; refine drawK (fun j => j != 10) mixed hs ?_; clear hs; intro wd11 hs; refine V557 ?_; refine Z.t 2 rfl rfl rfl (by rfl) J3 (Jk hs) (Z.Yd.elemA rfl rfl underlying37 sizeOf3 (fun hG => ⟨J2, J2⟩)) ?_; refine Z.t 3 rfl rfl rfl (by rfl) J3 (Jk hs) (Z.Yd.load rfl isAgg3 (fun _ => cellB (cs := (gcs ((m.b.l.zip dem).take i)).toArray) J0 J108)) ?_; refine V229 ?_; refine Z.t 7 rfl rfl rfl (by rfl) J3 (Jk hs) (Z.Yd.load rfl isAgg3 (fun _ => hcd _)) ?_; refine V437 ?_; refine V295 ?_; refine V562 ?_; refine V25 ?_; clear hs; intro ws hs; replace hs := U1 hs; refine Z.tk (Dn := fun j => j != 10) (i := 10) (fun h => absurd h J12) ?_; refine V40 ?_; refine V348 ?_; refine V858 ?_; refine V11 ?_; refine V139 ?_; refine V1 ?_; refine Z.only [1, 2, 3, 4, 5, 10, 13, 14, 15, 103] rfl ?_; refine V6 ?_; refine Z.cond rfl (fun hc12 => ?_) (fun hc12 => ?_)
    · (try simp at hc12)
      refine V42 ?_; refine V259 ?_; refine V139 ?_; refine V5 ?_; refine V21 ?_; refine V2 ?_; refine V112 ?_; clear hs; intro ws hs; replace hs := U1 hs; refine V857 ?_; refine V348 ?_; refine V302 ?_; refine V348 ?_; refine V6 ?_; have e1 : dd + 3 = askd dd := by unfold askd; rw [if_pos J5]
      rw [gcs_set _ _ _ hgr, ← htz, e1, iset9, show ((i : Int).toNat * 1) = i from by omega, askR_set hd] at hs; exact again (i + 1) J77 ⟨⟨by omega, by rw [hta]; intro z hz; rcases List.mem_append.1 hz with h | h; exact hda z h; (obtain rfl : z = dd := by simpa using h); exact hd9⟩, hs⟩ J5
    (try simp at hc12)
    refine V331 ?_; refine V348 ?_; refine V6 ?_; rw [gcs_set _ _ _ hgr, ← htz, askR_no hd J5] at hs; exact again (i + 1) J77 ⟨⟨by omega, by rw [hta]; intro z hz; rcases List.mem_append.1 hz with h | h; exact hda z h; (obtain rfl : z = dd := by simpa using h); exact hd9⟩, hs⟩ J5
  (try simp at hc6)
  refine V181 ?_; obtain rfl : i = dem.length := by omega
  rw [List.take_of_length_le J5] at hda; rw [askR_end, List.take_of_length_le (l := m.b.l.zip dem) (by rw [List.length_zip]; omega)] at hs; have hok : okPl m now n head dem := ⟨h3.1, h3.2.1, h3.2.2, hda⟩; have ht := plan_okT hm hok.1; obtain ⟨mt, hmt⟩ : ∃ mt, (tickV m.b now).1 = mt := ⟨_, rfl⟩; have hmtl : mt.l = m.b.l := by rw [← hmt]; exact tickV_l _ _
  have hmtk : mt.ok := by rw [← hmt]; exact hm.b.tick now
  refine V18 ?_; refine V282 ?_; refine V183 ?_; clear hs; intro ws hs; replace hs := U1 hs; refine V857 ?_; refine Z.only [1, 2, 3, 5, 10, 13, 14] rfl ?_; refine V858 ?_; refine V3 ?_; refine Z.l rfl rfl (by rfl) (keepS hs) (Z.Yd.loadA _ rfl isAgg36 (fun _ => cellsBo (cs := [.slice A m.b.l.length c, .slice B m.b.l.length d, .int .i64 m.b.now, .bool m.up, .int .i64 m.r.c0, .int .i64 m.r.c1, .int .i64 m.r.c2, .int .i64 m.r.c3, .int .i64 m.r.now, .int .i64 m.r.b0, .int .i64 m.r.b1, .int .i64 m.r.b2, .int .i64 m.r.b3, .int .i64 m.r.head, .bool m.r.reg, .bool m.r.per, .bool m.r.pow, .bool m.r.fst, .int .i64 m.r.last, .int .i64 m.r.lastP, .int .i64 m.r.told, .int .i64 now]) [.slice A m.b.l.length c, .slice B m.b.l.length d, .int .i64 m.b.now] J0 ⟨_, rfl⟩) (by exact sizeOf36)) ?_; refine V62 ?_; refine Z.ZO.call rfl rfl (by rfl) rfl rfl call79 rfl (rv_tick A B c d m.b now _ (hA.st (Jn hs)) (hB.st (Jn hs)) hm.b) ?_; rintro v15_3 w15_3 ⟨Bt, dt, Lt, rfl, hy, hLt⟩; replace hs := U0 (hs.call hy); clear hy; rw [hmt] at hLt; rw [hmt]; replace hs := St.rot (L1 := Lt) hs; replace hs := U6 hs; obtain ⟨rr, hrr⟩ : ∃ rr, plR m now head dem = rr := ⟨_, rfl⟩; have hro := plR_ok hm hok; rw [hrr] at hro; have hn1 := hok.1.1; refine V50 ?_; refine V3 ?_; refine V2 ?_; refine V284 ?_; clear hs; intro ws hs; replace hs := U1 hs; replace hs := U2 hs; refine V857 ?_; refine Z.only [1, 2, 3, 5, 10, 13, 14] rfl ?_; refine V423 ?_; refine Z.only [1, 2, 3, 5, 10, 13, 14, 17] rfl ?_; refine V30 ?_
  refine V38 ?_; refine V107 ?_; refine V857 ?_; refine Z.only [1, 2, 3, 5, 10, 13, 14, 17, 124] rfl ?_; refine V6 ?_; refine cutt (ι := Unit) [5, 10, 14] rfl (fun _ => [(17, [], .int .i64 (plN m now n head dem))]) (fun _ wr => St w [] wr (Ent.row (.slice (some ⟨g62, 0, none⟩) dem.length dem.length) 3 1 dem.length (ints .i64 (dem.map askd)) :: Ent.blk g13 37 (gcs (m.b.l.zip dem)).toArray :: Ent.blk g10 41 #[.slice none 0 0, .slice none 0 0, .int .i64 0, .bool false, .int .i64 0, .int .i64 0, .int .i64 0, .int .i64 0, .int .i64 0, .int .i64 0, .int .i64 0, .int .i64 0, .int .i64 0, .int .i64 0, .bool false, .bool false, .bool false, .bool false, .int .i64 0, .int .i64 0, .int .i64 0, .int .i64 0] :: Ent.blk g5 41 #[.slice A m.b.l.length c, .slice Bt m.b.l.length dt, .int .i64 mt.now, .bool m.up, .int .i64 rr.c0, .int .i64 rr.c1, .int .i64 rr.c2, .int .i64 rr.c3, .int .i64 rr.now, .int .i64 rr.b0, .int .i64 rr.b1, .int .i64 rr.b2, .int .i64 rr.b3, .int .i64 rr.head, .bool rr.reg, .bool rr.per, .bool rr.pow, .bool rr.fst, .int .i64 rr.last, .int .i64 rr.lastP, .int .i64 rr.told, .int .i64 now] :: Lt)) ?_ ?_
  · skip
    refine Z.cond rfl (fun hc17 => ?_) (fun hc17 => ?_)
    · (try simp at hc17)
      refine V0 ?_; refine V54 ?_; refine Z.l rfl rfl (by rfl) (keepS hs) (Z.Yd.loadA _ rfl isAgg39 (fun _ => cellsBo (cs := [.slice A m.b.l.length c, .slice Bt m.b.l.length dt, .int .i64 mt.now, .bool m.up, .int .i64 m.r.c0, .int .i64 m.r.c1, .int .i64 m.r.c2, .int .i64 m.r.c3, .int .i64 m.r.now, .int .i64 m.r.b0, .int .i64 m.r.b1, .int .i64 m.r.b2, .int .i64 m.r.b3, .int .i64 m.r.head, .bool m.r.reg, .bool m.r.per, .bool m.r.pow, .bool m.r.fst, .int .i64 m.r.last, .int .i64 m.r.lastP, .int .i64 m.r.told, .int .i64 now]) [.int .i64 m.r.c0, .int .i64 m.r.c1, .int .i64 m.r.c2, .int .i64 m.r.c3, .int .i64 m.r.now, .int .i64 m.r.b0, .int .i64 m.r.b1, .int .i64 m.r.b2, .int .i64 m.r.b3, .int .i64 m.r.head, .bool m.r.reg, .bool m.r.per, .bool m.r.pow, .bool m.r.fst, .int .i64 m.r.last, .int .i64 m.r.lastP, .int .i64 m.r.told] J0 ⟨_, rfl⟩) J115) ?_; refine V859 ?_; refine Z.l rfl rfl (by rfl) (keepS hs) (Z.Yd.loadA _ rfl isAgg37 (fun _ => cellsB (cs := gcs (m.b.l.zip dem)) J0) J100) ?_; refine V62 ?_; refine Z.ZO.call rfl rfl (by rfl) rfl rfl call80 rfl (rpr_update m.r now (grpS (m.b.l.zip dem) 0) (grpS (m.b.l.zip dem) 1) (grpS (m.b.l.zip dem) 2) (grpS (m.b.l.zip dem) 3) head _ hm.r) ?_; rintro v18_5 w18_5 ⟨rfl, hy⟩; replace hs := U0 (hs.call hy); clear hy; have hup : m.up = true := by assumption
      have hplr : (updV m.r now (grpS (m.b.l.zip dem) 0) (grpS (m.b.l.zip dem) 1) (grpS (m.b.l.zip dem) 2) (grpS (m.b.l.zip dem) 3) head).1 = rr := by rw [← hrr]; unfold plR; rw [hup]; rfl
      rw [hplr]; simp only [RpV.ref]; refine V50 ?_; refine V54 ?_; refine V2 ?_; refine V284 ?_; clear hs; intro ws hs; replace hs := U1 hs; replace hs := U2 hs; refine V857 ?_; refine Z.only [1, 2, 5, 10, 14, 17] rfl ?_; refine V858 ?_; refine V54 ?_; refine Z.l rfl rfl (by rfl) (keepS hs) (Z.Yd.loadA _ rfl isAgg39 (fun _ => cellsBo (cs := [.slice A m.b.l.length c, .slice Bt m.b.l.length dt, .int .i64 mt.now, .bool m.up, .int .i64 rr.c0, .int .i64 rr.c1, .int .i64 rr.c2, .int .i64 rr.c3, .int .i64 rr.now, .int .i64 rr.b0, .int .i64 rr.b1, .int .i64 rr.b2, .int .i64 rr.b3, .int .i64 rr.head, .bool rr.reg, .bool rr.per, .bool rr.pow, .bool rr.fst, .int .i64 rr.last, .int .i64 rr.lastP, .int .i64 rr.told, .int .i64 now]) [.int .i64 rr.c0, .int .i64 rr.c1, .int .i64 rr.c2, .int .i64 rr.c3, .int .i64 rr.now, .int .i64 rr.b0, .int .i64 rr.b1, .int .i64 rr.b2, .int .i64 rr.b3, .int .i64 rr.head, .bool rr.reg, .bool rr.per, .bool rr.pow, .bool rr.fst, .int .i64 rr.last, .int .i64 rr.lastP, .int .i64 rr.told] J0 ⟨_, rfl⟩) J115) ?_; refine V527 ?_; refine Z.ZO.call rfl rfl (by rfl) rfl rfl call81 rfl (rpr_elements rr now n _ hro.1 J5) ?_; rintro v19_4 w19_4 ⟨sve, qs, rfl, hqs, hy⟩; replace hs := U0 (hs.call hy); clear hy; have hel := els_ok (r := rr) (now := now) (n := n) ⟨hro.2, hok.1.2.2⟩ J5; rw [hel]; rw [hel] at hqs; simp only [RpV.ref, ptsL, List.cons_append, List.nil_append] at hs ⊢; simp only at hqs
      have hbb := els_bytes (r := rr) (now := now) (n := n) ⟨hro.2, hok.1.2.2⟩ J5; rw [hel] at hbb; simp only at hbb; have hql : qs.length ≤ 2 := by have h7 := congrArg List.length hqs; rw [List.length_map] at h7; have := elP_len rr n; omega
      have hqf : ∀ q ∈ qs.map PtV.mp, q.l.length ≤ 100000 := fun q hq => by
        obtain ⟨z, hz1, rfl⟩ := List.mem_map.1 hq; have h7 := elP_l3 rr n z.plain (by rw [← hqs]; exact List.mem_map_of_mem hz1); have h8 : z.l.length ≤ 3 := h7
        show z.l.length ≤ 100000
        omega
      have hpm : (qs.map PtV.mp).map MpV.plain = elP rr n := by rw [← hqs]; simp [PtV.mp, MpV.plain, PtV.plain]
      have hpn : n - bytesP (elP rr n) = plN m now n head dem := by unfold plN; rw [hup, hrr, hel]; rfl
      obtain ⟨Be, ce, rfl, -, -, -⟩ := row_slv hs (j := 0) rfl; refine V259 ?_; refine V2 ?_; refine V239 ?_; clear hs; intro g18 w18 hs; refine V860 ?_; clear hs; intro ws hs; replace hs := U1 hs; replace hs := U2 hs; refine V31 ?_; refine Z.only [5, 10, 14, 17, 19] rfl ?_; refine V300 ?_; refine V527 ?_; refine Z.ZO.call rfl rfl (by rfl) rfl rfl call82 rfl (rx_size Be _ ce (qs.map PtV.mp) _ (by rw [pt_mp]; exact hs.slm (A := Be) J0) J16 J5 hqf (bytesP_bd (by rw [hpm]; have := elP_len rr n; omega) (fun p hp ↦ by rw [hpm] at hp; have := elP_l3 rr n p hp; omega))) ?_; rintro v20_2 w20_2 ⟨rfl, hy⟩; replace hs := U0 (hs.call hy); clear hy; rw [hpm]; refine V395 ?_; refine Z.only [5, 10, 14, 17] rfl ?_; refine V6 ?_
      (rw [hpn]; exact meet () J10 (hs.sub (((List.sublist_append_right _ _).cons _).cons _)))
    (try simp at hc17)
    refine V361 ?_; have hup : m.up = false := by simpa using hc17
    have e1 : rr = m.r := by rw [← hrr]; unfold plR; rw [hup]; rfl
    subst e1; rw [show plN m now n head dem = n from by unfold plN; rw [hup]; rfl]; exact meet () J10 hs
  clear hs; rintro _ w17 hs; refine Z.only [5, 10, 14, 17] rfl ?_; refine V0 ?_; refine V3 ?_; refine Z.l rfl rfl (by rfl) (keepS hs) (Z.Yd.loadA _ rfl isAgg36 (fun _ => cellsBo (cs := [.slice A m.b.l.length c, .slice Bt m.b.l.length dt, .int .i64 mt.now, .bool m.up, .int .i64 rr.c0, .int .i64 rr.c1, .int .i64 rr.c2, .int .i64 rr.c3, .int .i64 rr.now, .int .i64 rr.b0, .int .i64 rr.b1, .int .i64 rr.b2, .int .i64 rr.b3, .int .i64 rr.head, .bool rr.reg, .bool rr.per, .bool rr.pow, .bool rr.fst, .int .i64 rr.last, .int .i64 rr.lastP, .int .i64 rr.told, .int .i64 now]) [.slice A m.b.l.length c, .slice Bt m.b.l.length dt, .int .i64 mt.now] J0 ⟨_, rfl⟩) (by exact sizeOf36)) ?_; refine V11 ?_; have hBt : Sl w17 Bt (ints .i64 mt.b) := by
    rcases hLt with h | ⟨h1, h2, h3, h4⟩
    · exact hs.slm (T := 3) (size := 1) (k := m.b.l.length) (c := dt) (m := m.b.l.length) (by simp [h])
    rw [h2, h4]; exact hB.st (Jn hs)
  have hpd : divV mt (plN m now n head dem) (dem.map askd) = plD m now n head dem := by unfold plD; rw [hmt]
  have hdv := rv_divide A Bt (some ⟨g62, 0, none⟩) c dt dem.length dem.length mt (plN m now n head dem) (dem.map askd) w17 (by rw [hmtl]; exact hA.st (Jn hs)) hBt (hs.slm (T := 3) J0) (by rw [List.length_map]) hmtk; rw [hpd, hmtl] at hdv; have hpo := plan_out hm hok; refine V2 ?_; refine Z.ZO.call rfl rfl (by rfl) rfl rfl call83 rfl (hdv) ?_; rintro v21_4 w21_4 ⟨Bn, dn, ov, Ld, rfl, hy, hLd⟩; replace hs := U0 (hs.call hy); clear hy; obtain ⟨Ov, co, rfl, -, -, -⟩ := row_slv hs (j := 0) rfl; replace hs := (hs.sub (L' := _ :: (Ld ++ (_ :: _ :: Lt))) (List.Sublist.cons_cons _ ((List.Sublist.refl Ld).append (((List.Sublist.refl _).cons _).cons _)))).perm (List.Perm.cons _ (List.perm_append_comm_assoc Ld [_, _] Lt).symm); refine V259 ?_; refine V2 ?_; refine V351 ?_; clear hs; intro g21 w21 hs; refine V860 ?_; clear hs; intro ws hs; replace hs := U1 hs; replace hs := U2 hs; refine V31 ?_; refine Z.only [5, 10, 21, 22] rfl ?_; refine V858 ?_; refine Z.l rfl rfl (by rfl) (keepS hs) (Z.Yd.loadA _ rfl isAgg36 (fun _ => cellsB (cs := [.slice A m.b.l.length c, .slice Bn m.b.l.length dn, .int .i64 mt.now]) J0) (by exact sizeOf36)) ?_; refine V3 ?_; refine V2 ?_; refine V284 ?_; clear hs; intro ws hs; replace hs := U1 hs; replace hs := U2 hs; refine V857 ?_; refine Z.only [5, 10, 22] rfl ?_; refine V511 ?_; refine Z.only [5, 10, 22, 24] rfl ?_; refine V30 ?_; obtain ⟨O, hO⟩ : ∃ O, (plD m now n head dem).2.1 = O := ⟨_, rfl⟩; rw [hO] at hs hpo ⊢; replace hs := (hs.tl.nil 3 1)
  refine V18 ?_; refine V857 ?_; refine Z.only [5, 10, 22, 24, 25] rfl ?_; refine V861 ?_; refine loopk (ι := Nat × Value) [5, 10, 22] rfl (fun z => [(24, [], z.2), (25, [], .int .i64 (z.1 : Int))]) (fun z wr => z.1 ≤ O.length ∧ St w [] wr (Ent.row z.2 3 1 z.1 (ints .i64 ((O.take z.1).map fun x => max 0 (x - 3))) :: Ent.row (.slice Ov O.length co) 3 1 O.length (ints .i64 O) :: Ent.blk g10 41 #[.slice none 0 0, .slice none 0 0, .int .i64 0, .bool false, .int .i64 0, .int .i64 0, .int .i64 0, .int .i64 0, .int .i64 0, .int .i64 0, .int .i64 0, .int .i64 0, .int .i64 0, .int .i64 0, .bool false, .bool false, .bool false, .bool false, .int .i64 0, .int .i64 0, .int .i64 0, .int .i64 0] :: Ent.blk g5 41 #[.slice A m.b.l.length c, .slice Bn m.b.l.length dn, .int .i64 mt.now, .bool m.up, .int .i64 rr.c0, .int .i64 rr.c1, .int .i64 rr.c2, .int .i64 rr.c3, .int .i64 rr.now, .int .i64 rr.b0, .int .i64 rr.b1, .int .i64 rr.b2, .int .i64 rr.b3, .int .i64 rr.head, .bool rr.reg, .bool rr.per, .bool rr.pow, .bool rr.fst, .int .i64 rr.last, .int .i64 rr.lastP, .int .i64 rr.told, .int .i64 now] :: (Ld ++ Lt))) (fun z => O.length - z.1) (0, .slice none 0 0) J11 ⟨Nat.zero_le _, hs⟩ ?_; clear hs; rintro ⟨i, vv⟩ w25 ⟨hi, hs⟩; refine Z.only [5, 10, 22, 24, 25] rfl ?_
  (try dsimp only at hs)
  dsimp only at hi hs; obtain ⟨Av, cv, rfl, -, -, -⟩ := row_slv hs (j := 0) rfl; refine V217 ?_; refine V248 ?_; refine Z.only [5, 10, 22, 24, 25, 162] rfl ?_; refine V6 ?_; refine Z.cond rfl (fun hc25 => ?_) (fun hc25 => ?_)
  · (try simp at hc25)
    obtain ⟨s, hsx⟩ : ∃ s, O[i]? = some s := ⟨_, List.getElem?_eq_getElem J5⟩; have hse : elt O (i : Int) = s := by simp [elt, hsx]
    have hsb := hpo.2 i J5; obtain ⟨go, ko, eo, -, -⟩ := row_form (j := 1) hs rfl J5
    cases eo
    refine V150 ?_; refine V42 ?_; refine V50 ?_; refine V21 ?_; refine Z.l rfl rfl (by rfl) (keepS hs) J60 ?_; refine Z.l rfl rfl (by rfl) (keepS hs) (Z.Yd.sub rfl rfl (fun hG => wi64 (by show -9223372036854775808 ≤ elt O (i : Int) - 3 ∧ elt O (i : Int) - 3 ≤ 9223372036854775807; omega))) ?_; refine Z.l rfl rfl (by rfl) (keepS hs) (Z.Yd.max rfl rfl) ?_; refine V2 ?_; refine V57 ?_; clear hs; intro g172 w172 hs; refine V2 ?_; refine V39 ?_; clear hs; intro g173 cap173 w173 hs; replace hs := U3 hs; refine V1 ?_; refine Z.only [5, 10, 22, 24, 25] rfl ?_; refine V302 ?_; refine Z.only [5, 10, 22, 24, 25] rfl ?_; refine V6 ?_; have ea : ints .i64 ((O.take i).map fun x => max 0 (x - 3)) ++ [.int .i64 (max 0 (s - 3))] = ints .i64 ((O.take (i + 1)).map fun x => max 0 (x - 3)) := by rw [List.take_add_one, hsx]; simp [ints]
    rw [hse, ea] at hs; exact again (i + 1, _) J8 ⟨by simp only; omega, hs⟩ J22
  (try simp at hc25)
  refine V181 ?_; refine Z.l rfl rfl (by rfl) (keepS hs) J84 ?_; refine V456 ?_; clear hs; intro ws hs; replace hs := U1 hs; replace hs := U2 hs; refine V1012 ?_; refine Z.out3 J41 ?_; obtain rfl : i = O.length := by omega
  rw [List.take_of_length_le (Nat.le_refl _)] at hs; have hpl : planV m now n head dem = (⟨(plD m now n head dem).1, m.up, rr, now⟩, O.map (fun x => max 0 (x - 3)), 0) := by unfold planV; rw [if_pos hok, hrr, hO]
  have hbl : (plD m now n head dem).1.l = m.b.l := by unfold plD; rw [(divV_l _ _ _).1, tickV_l]
  have hbn : (plD m now n head dem).1.now = mt.now := by unfold plD; rw [(divV_l _ _ _).2, hmt]
  rw [hpl]; refine ⟨_, rfl, Bn, dn, .slice Av O.length cv, Ld ++ Lt, by unfold meC; simp only [hbl, hbn], ?_, ?_⟩
  · rw [show (O.map (fun x => max 0 (x - 3))).length = O.length from by simp]
    exact hs.sub (List.Sublist.cons_cons _ ((((List.Sublist.refl _).cons _).cons _).cons _))
  rcases hLd with h | ⟨h1, h2, h3, h4⟩
  · exact .inl (by rw [h]; simp)
  rcases hLt with k | ⟨k1, k2, k3, k4⟩
  · exact .inl (by rw [k, h2, h3]; simp [h4])
  exact .inr ⟨by rw [h2, k2], by rw [h3, k3], by show (plD m now n head dem).1.b = m.b.b; rw [h4, k4]⟩

theorem rx_build (A : Option Addr) (c : Nat) (B : Option Addr) (d : Nat) (m : MaV) (now n : Int) (P : Option Addr) (nn cp : Nat) (ps : List MpV) (w : World) (hA : Sl w A (m.b.l.flatMap LgV.cells)) (hBm : Sl w B (ints .i64 m.b.b)) (hm : m.ok) (hx : Sl w P (ps.flatMap MpV.cells)) (hB : ∀ q ∈ ps, Sl w q.B (ints .u8 q.l)) (hby : ∀ q ∈ ps, ∀ y ∈ q.l, 0 ≤ y ∧ y < 256) (hl : ps.length = nn) (hn : nn ≤ 90) (hf : ∀ q ∈ ps, q.l.length ≤ 100000) :
    Calls Tryz.prog 36 #[.agg (meC A c B d m).toArray, .int .i64 now, .int .i64 n, .slice P nn cp] w (Ret fun v w' => ∃ ov, v = .tuple #[.agg (meC A c B d (buildV m now n (ps.map MpV.plain)).1).toArray, ov, .int .i64 (buildV m now n (ps.map MpV.plain)).2.2] ∧ St w [] w' [Ent.row ov 5 1 (buildV m now n (ps.map MpV.plain)).2.1.length (ints .u8 (buildV m now n (ps.map MpV.plain)).2.1)]) := by
  have hs := St.start w; obtain ⟨r, hr⟩ : ∃ r, ps.map MpV.plain = r := ⟨_, rfl⟩; have hrl : r.length = nn := by rw [← hr, List.length_map, hl]
  rw [hr]; have hk := fun id W hW => rx_known A c B d m id W (hA.st (L := []) hW) (hBm.st (L := []) hW) hm
  rw [show meC A c B d m = [.slice A m.b.l.length c, .slice B m.b.l.length d, .int .i64 m.b.now, .bool m.up, .int .i64 m.r.c0, .int .i64 m.r.c1, .int .i64 m.r.c2, .int .i64 m.r.c3, .int .i64 m.r.now, .int .i64 m.r.b0, .int .i64 m.r.b1, .int .i64 m.r.b2, .int .i64 m.r.b3, .int .i64 m.r.head, .bool m.r.reg, .bool m.r.per, .bool m.r.pow, .bool m.r.fst, .int .i64 m.r.last, .int .i64 m.r.lastP, .int .i64 m.r.told, .int .i64 m.last] from rfl] at hk ⊢; refine Z.enter func36 rfl ntmps36 rfl rfl ?_; refine V91 ?_; clear hs; intro g4 w4 hs; refine V2 ?_; refine V144 ?_; clear hs; intro g8 w8 hs; refine V31 ?_; refine Z.only [1, 2, 3, 4, 8] rfl ?_; refine V30 ?_; refine Z.lb 8 rfl ?_; refine V282 ?_; refine V9 ?_; refine Z.lb 8 rfl ?_; refine Z.split (s := 36) rfl (fun hsp36 => ?_) (fun hsp36 => ?_)
  · refine Z.yes (s := 36) (b := true) rfl hsp36 rfl ?_
    (try simp at hsp36)
    refine V299 ?_; refine V20 ?_; refine V857 ?_; refine Z.only [1, 2, 3, 4, 8, 40] rfl ?_; refine V6 ?_; refine Z.cond rfl (fun hc1 => ?_) (fun hc1 => ?_)
    · (try simp at hc1)
      refine V429 ?_; clear hs; intro ws hs; replace hs := U1 hs; replace hs := U2 hs; refine V306 ?_
      repeat (first | refine Z.rthen ?_ | refine Z.rblock ?_ | refine Z.rscope ?_)
      refine Z.out3 J41 ?_; have he : buildV m now n r = (m, [], 2) := bu_arg (fun h => by have h1 := h.1; unfold okRd at h1; omega); rw [he]; exact ⟨_, rfl, .slice none 0 0, rfl, St.nil (Jn hs) _ 1⟩
    (exfalso; simp at hc1 <;> omega)
  refine Z.yes (s := 36) (b := false) rfl hsp36 rfl ?_
  (try simp at hsp36)
  refine V160 ?_; refine Z.ZO.call rfl rfl (by rfl) rfl rfl call84 rfl (mr_valid P nn cp ps _ (hx.st (Jn hs)) hl J5) ?_; rintro v1_18 w1_18 ⟨rfl, hy⟩; replace hs := U0 (hs.call hy); clear hy; rw [hr]; refine V859 ?_; refine Z.yes (s := 36) (b := false) rfl rfl rfl ?_; refine V14 ?_; refine V857 ?_; refine Z.only [1, 2, 3, 4, 8, 40] rfl ?_; refine V6 ?_; refine Z.cond rfl (fun hc1 => ?_) (fun hc1 => ?_)
  · (try simp at hc1)
    refine V429 ?_; clear hs; intro ws hs; replace hs := U1 hs; replace hs := U2 hs; refine V306 ?_
    repeat (first | refine Z.rthen ?_ | refine Z.rblock ?_ | refine Z.rscope ?_)
    refine Z.out3 J41 ?_; have he : buildV m now n r = (m, [], 2) := bu_arg (fun h => by have h1 := h.2.2; simp [h1] at hc1); rw [he]; exact ⟨_, rfl, .slice none 0 0, rfl, St.nil (Jn hs) _ 1⟩
  (try simp at hc1)
  refine V427 ?_; have hrd : okRd m now n ∧ vldP false r = true := ⟨by unfold okRd; omega, by simpa using hc1⟩; refine V18 ?_; refine V857 ?_; refine Z.only [1, 2, 3, 4, 8, 11] rfl ?_; refine V861 ?_; refine loopk (ι := Nat) [1, 2, 3, 4, 8] rfl (fun i => [(11, [], .int .i64 (i : Int))]) (fun i wr => (i ≤ nn ∧ ∀ p ∈ r.take i, knowB m p.1 = true) ∧ St w [] wr (Ent.blk g8 41 #[.slice none 0 0, .slice none 0 0, .int .i64 0, .bool false, .int .i64 0, .int .i64 0, .int .i64 0, .int .i64 0, .int .i64 0, .int .i64 0, .int .i64 0, .int .i64 0, .int .i64 0, .int .i64 0, .bool false, .bool false, .bool false, .bool false, .int .i64 0, .int .i64 0, .int .i64 0, .int .i64 0] :: Ent.blk g4 41 #[.slice A m.b.l.length c, .slice B m.b.l.length d, .int .i64 m.b.now, .bool m.up, .int .i64 m.r.c0, .int .i64 m.r.c1, .int .i64 m.r.c2, .int .i64 m.r.c3, .int .i64 m.r.now, .int .i64 m.r.b0, .int .i64 m.r.b1, .int .i64 m.r.b2, .int .i64 m.r.b3, .int .i64 m.r.head, .bool m.r.reg, .bool m.r.per, .bool m.r.pow, .bool m.r.fst, .int .i64 m.r.last, .int .i64 m.r.lastP, .int .i64 m.r.told, .int .i64 m.last] :: [])) (fun i => nn - i) 0 J6 ⟨⟨Nat.zero_le _, by simp⟩, hs⟩ ?_; clear hs; rintro i w4 ⟨⟨hi, hkn⟩, hs⟩; refine Z.only [1, 2, 3, 4, 8, 11] rfl ?_; refine V217 ?_; refine V275 ?_; refine Z.only [1, 2, 3, 4, 8, 11, 45] rfl ?_; refine V6 ?_; refine Z.cond rfl (fun hc4 => ?_) (fun hc4 => ?_)
  · (try simp at hc4)
    obtain ⟨bP, oP, eP, hbP, hx2⟩ := Z.Sl.some hx J69; subst eP; obtain ⟨q, hqi⟩ : ∃ q, ps[i]? = some q := ⟨_, List.getElem?_eq_getElem J5⟩; have htk : r.take (i + 1) = r.take i ++ [q.plain] := by rw [← hr, plain_take hqi]
    refine V499 ?_; clear hs; intro wd6 hs; refine Z.t 0 rfl rfl rfl (by rfl) J3 (Jk hs) (Z.Yd.loadA _ rfl isAgg41 (fun _ => cellsB (cs := [.slice A m.b.l.length c, .slice B m.b.l.length d, .int .i64 m.b.now, .bool m.up, .int .i64 m.r.c0, .int .i64 m.r.c1, .int .i64 m.r.c2, .int .i64 m.r.c3, .int .i64 m.r.now, .int .i64 m.r.b0, .int .i64 m.r.b1, .int .i64 m.r.b2, .int .i64 m.r.b3, .int .i64 m.r.head, .bool m.r.reg, .bool m.r.per, .bool m.r.pow, .bool m.r.fst, .int .i64 m.r.last, .int .i64 m.r.lastP, .int .i64 m.r.told, .int .i64 m.last]) J0) J50) ?_; refine Z.tb [1, 2] J3 rfl (Jk hs) rfl ?_; refine Z.t 3 rfl rfl rfl (by rfl) J3 (Jk hs) (Z.Yd.elem rfl rfl underlying47 sizeOf77 (fun hG => ⟨J2, J2⟩)) ?_; refine V267 ?_; refine Z.t 5 rfl rfl rfl (by rfl) J3 (Jk hs) (Z.Yd.load rfl isAgg3 (fun _ => cellXf (j := 0) hx2.sx mp_len hqi rfl)) ?_; refine V262 ?_; refine Z.ZO.call rfl rfl (by rfl) rfl rfl call62 rfl (hk q.lc _ (Jn hs)) ?_; rintro v6_6 w6_6 ⟨rfl, hy⟩; replace hs := U0 (hs.call hy); clear hy; refine V82 ?_; refine Z.tb [7] J3 rfl (Jk hs) rfl ?_; refine V40 ?_; refine Z.only [1, 2, 3, 4, 8, 11, 55] rfl ?_; refine V6 ?_; refine Z.cond rfl (fun hc6 => ?_) (fun hc6 => ?_)
    · (try simp at hc6)
      refine V429 ?_; clear hs; intro ws hs; replace hs := U1 hs; replace hs := U2 hs; refine V306 ?_
      repeat (first | refine Z.rthen ?_ | refine Z.rblock ?_ | refine Z.rscope ?_)
      refine Z.out3 J41 ?_; have he : buildV m now n r = (m, [], 2) := bu_arg (fun h => by have h1 := h.2.1 q.plain J106; have h2 : knowB m q.lc = true := h1; rw [h2] at hc6; cases hc6); rw [he]; exact ⟨_, rfl, .slice none 0 0, rfl, St.nil (Jn hs) _ 1⟩
    (try simp at hc6)
    refine V331 ?_; refine Z.only [1, 2, 3, 4, 8, 11] rfl ?_; refine V6 ?_; exact again (i + 1) J21 ⟨⟨by omega, by rw [htk]; intro p hp; rcases List.mem_append.1 hp with h | h; exact hkn p h; (obtain rfl : p = _ := by simpa using h); exact hc6⟩, hs⟩ J5
  (try simp at hc4)
  refine V181 ?_; obtain rfl : i = nn := by omega
  rw [List.take_of_length_le J5] at hkn; have hok : okBu m now n r := ⟨hrd.1, hkn, hrd.2⟩; have hnn := buN_nn r; have hn1 := hrd.1.1; refine V18 ?_; refine V857 ?_; refine Z.only [1, 2, 3, 4, 8, 12] rfl ?_; refine V539 ?_; refine Z.only [1, 2, 3, 4, 8, 12, 59] rfl ?_; refine V6 ?_; refine cutt (ι := Unit) [1, 2, 3, 4, 8] rfl (fun _ => [(12, [], .int .i64 (buN r))]) (fun _ wr => St w [] wr (Ent.blk g8 41 #[.slice none 0 0, .slice none 0 0, .int .i64 0, .bool false, .int .i64 0, .int .i64 0, .int .i64 0, .int .i64 0, .int .i64 0, .int .i64 0, .int .i64 0, .int .i64 0, .int .i64 0, .int .i64 0, .bool false, .bool false, .bool false, .bool false, .int .i64 0, .int .i64 0, .int .i64 0, .int .i64 0] :: Ent.blk g4 41 #[.slice A m.b.l.length c, .slice B m.b.l.length d, .int .i64 m.b.now, .bool m.up, .int .i64 m.r.c0, .int .i64 m.r.c1, .int .i64 m.r.c2, .int .i64 m.r.c3, .int .i64 m.r.now, .int .i64 m.r.b0, .int .i64 m.r.b1, .int .i64 m.r.b2, .int .i64 m.r.b3, .int .i64 m.r.head, .bool m.r.reg, .bool m.r.per, .bool m.r.pow, .bool m.r.fst, .int .i64 m.r.last, .int .i64 m.r.lastP, .int .i64 m.r.told, .int .i64 m.last] :: [])) ?_ ?_
  · skip
    refine Z.cond rfl (fun hc9 => ?_) (fun hc9 => ?_)
    · (try simp at hc9)
      refine V42 ?_; refine V62 ?_; refine Z.ZO.call rfl rfl (by rfl) rfl rfl call85 rfl (mr_Need P i cp ps _ (hx.st (Jn hs)) hl J5 hf (fun q hq ↦ (hB q hq).st (Jn hs))) ?_; rintro v10_1 w10_1 ⟨rfl, hy⟩; replace hs := U0 (hs.call hy); clear hy; rw [hr]; have hrn : r ≠ [] := fun h => by rw [h] at hrl; simp at hrl; omega
      have hnv : needV r = (needP r, 0) := if_pos ⟨hrn, hrd.2⟩; rw [hnv]; refine V259 ?_; refine V857 ?_; refine Z.only [1, 2, 3, 4, 8, 12] rfl ?_; refine V6 ?_; have hrn : r ≠ [] := fun h => by rw [h] at hrl; simp at hrl; omega
      have hbn : buN r = needP r := if_neg hrn; rw [hbn]; exact meet () J21 hs
    (try simp at hc9)
    refine V361 ?_; obtain rfl : r = [] := List.eq_nil_of_length_eq_zero J5; exact meet () J21 hs
  clear hs; rintro _ w9 hs; refine Z.only [1, 2, 3, 4, 8, 12] rfl ?_; refine V182 ?_; refine V184 ?_; refine Z.only [1, 2, 3, 4, 8, 12, 67] rfl ?_; refine V6 ?_; refine Z.cond rfl (fun hc11 => ?_) (fun hc11 => ?_)
  · (try simp at hc11)
    refine V429 ?_; clear hs; intro ws hs; replace hs := U1 hs; replace hs := U2 hs; refine V306 ?_
    repeat (first | refine Z.rthen ?_ | refine Z.rblock ?_ | refine Z.rscope ?_)
    refine Z.out3 J41 ?_; have he : buildV m now n r = (m, [], 4) := bu_long hok J5; rw [he]; exact ⟨_, rfl, .slice none 0 0, rfl, St.nil (Jn hs) _ 1⟩
  (try simp at hc11)
  refine V862 ?_; refine V1 ?_; refine Z.only [1, 2, 3, 4, 8, 12, 13] rfl ?_; refine V858 ?_; refine V54 ?_; refine Z.l rfl rfl (by rfl) (keepS hs) (Z.Yd.loadA _ rfl isAgg39 (fun _ => cellsBo (cs := [.slice A m.b.l.length c, .slice B m.b.l.length d, .int .i64 m.b.now, .bool m.up, .int .i64 m.r.c0, .int .i64 m.r.c1, .int .i64 m.r.c2, .int .i64 m.r.c3, .int .i64 m.r.now, .int .i64 m.r.b0, .int .i64 m.r.b1, .int .i64 m.r.b2, .int .i64 m.r.b3, .int .i64 m.r.head, .bool m.r.reg, .bool m.r.per, .bool m.r.pow, .bool m.r.fst, .int .i64 m.r.last, .int .i64 m.r.lastP, .int .i64 m.r.told, .int .i64 m.last]) [.int .i64 m.r.c0, .int .i64 m.r.c1, .int .i64 m.r.c2, .int .i64 m.r.c3, .int .i64 m.r.now, .int .i64 m.r.b0, .int .i64 m.r.b1, .int .i64 m.r.b2, .int .i64 m.r.b3, .int .i64 m.r.head, .bool m.r.reg, .bool m.r.per, .bool m.r.pow, .bool m.r.fst, .int .i64 m.r.last, .int .i64 m.r.lastP, .int .i64 m.r.told] J0 ⟨_, rfl⟩) J115) ?_; refine V2 ?_; refine V239 ?_; clear hs; intro g14 w14 hs; refine V860 ?_; clear hs; intro ws hs; replace hs := U1 hs; replace hs := U2 hs; refine V857 ?_; refine Z.only [1, 2, 3, 4, 8, 12, 13, 14] rfl ?_; refine V30 ?_; obtain ⟨rr, hrr⟩ : ∃ rr, (buE m now n r).1 = rr := ⟨_, rfl⟩; have hle : buN r ≤ n := by omega
  refine V38 ?_; refine V107 ?_; refine V857 ?_; refine Z.only [1, 2, 3, 4, 8, 12, 13, 14, 72] rfl ?_; refine V6 ?_; refine cutt (ι := Value × List PtV) [1, 2, 3, 4, 8, 14] rfl (fun z => [(13, [], z.1)]) (fun z wr => z.2.map PtV.plain = (buE m now n r).2.1 ∧ St w [] wr (Ent.row z.1 77 2 z.2.length (z.2.flatMap PtV.cells) :: Ent.blk g14 39 #[.int .i64 rr.c0, .int .i64 rr.c1, .int .i64 rr.c2, .int .i64 rr.c3, .int .i64 rr.now, .int .i64 rr.b0, .int .i64 rr.b1, .int .i64 rr.b2, .int .i64 rr.b3, .int .i64 rr.head, .bool rr.reg, .bool rr.per, .bool rr.pow, .bool rr.fst, .int .i64 rr.last, .int .i64 rr.lastP, .int .i64 rr.told] :: Ent.blk g8 41 #[.slice none 0 0, .slice none 0 0, .int .i64 0, .bool false, .int .i64 0, .int .i64 0, .int .i64 0, .int .i64 0, .int .i64 0, .int .i64 0, .int .i64 0, .int .i64 0, .int .i64 0, .int .i64 0, .bool false, .bool false, .bool false, .bool false, .int .i64 0, .int .i64 0, .int .i64 0, .int .i64 0] :: Ent.blk g4 41 #[.slice A m.b.l.length c, .slice B m.b.l.length d, .int .i64 m.b.now, .bool m.up, .int .i64 m.r.c0, .int .i64 m.r.c1, .int .i64 m.r.c2, .int .i64 m.r.c3, .int .i64 m.r.now, .int .i64 m.r.b0, .int .i64 m.r.b1, .int .i64 m.r.b2, .int .i64 m.r.b3, .int .i64 m.r.head, .bool m.r.reg, .bool m.r.per, .bool m.r.pow, .bool m.r.fst, .int .i64 m.r.last, .int .i64 m.r.lastP, .int .i64 m.r.told, .int .i64 m.last] :: z.2.map PtV.row)) ?_ ?_
  · skip
    refine Z.cond rfl (fun hc15 => ?_) (fun hc15 => ?_)
    · (try simp at hc15)
      refine V0 ?_; refine Z.l rfl rfl (by rfl) (keepS hs) (Z.Yd.loadA _ rfl isAgg39 (fun _ => cellsB (cs := [.int .i64 m.r.c0, .int .i64 m.r.c1, .int .i64 m.r.c2, .int .i64 m.r.c3, .int .i64 m.r.now, .int .i64 m.r.b0, .int .i64 m.r.b1, .int .i64 m.r.b2, .int .i64 m.r.b3, .int .i64 m.r.head, .bool m.r.reg, .bool m.r.per, .bool m.r.pow, .bool m.r.fst, .int .i64 m.r.last, .int .i64 m.r.lastP, .int .i64 m.r.told]) J0) J115) ?_; refine V50 ?_; refine V17 ?_; refine V2 ?_; refine Z.ZO.call rfl rfl (by rfl) rfl rfl call81 rfl (rpr_elements m.r now (n - buN r) _ hm.r J5) ?_; rintro v16_5 w16_5 ⟨sve, qs, rfl, hqs, hy⟩; replace hs := U0 (hs.call hy); clear hy; have hup : m.up = true := by simpa using hc15
      have e1 : elsV m.r now (n - buN r) = buE m now n r := by unfold buE; rw [hup]; rfl
      rw [e1, hrr]; rw [e1] at hqs; simp only [RpV.ref, ptsL, List.cons_append, List.nil_append] at hs ⊢; obtain ⟨Be, ce, rfl, -, -, -⟩ := row_slv hs (j := 0) rfl; refine V259 ?_; refine V2 ?_; refine V239 ?_; clear hs; intro g15 w15 hs; refine V860 ?_; clear hs; intro ws hs; replace hs := U1 hs; replace hs := U2 hs; refine V31 ?_; refine Z.only [1, 2, 3, 4, 8, 14, 15, 16] rfl ?_; refine V300 ?_; refine V177 ?_; refine V859 ?_; replace hs : St w [] _ (_ :: _ :: _ :: _ :: qs.map PtV.row) := hs.tl.perm (List.Perm.cons _ (List.perm_append_comm (l₁ := [_, _, _]) (l₂ := qs.map PtV.row))); refine V860 ?_; clear hs; intro ws hs; replace hs := U1 hs; replace hs := U2 hs; refine V1 ?_; refine Z.only [1, 2, 3, 4, 8, 13, 14] rfl ?_; refine V6 ?_; exact meet (.slice Be qs.length ce, qs) J14 ⟨hqs, hs⟩
    (try simp at hc15)
    refine V361 ?_; have hup : m.up = false := by simpa using hc15
    have e1 : buE m now n r = (m.r, [], 0) := by unfold buE; rw [hup]; rfl
    have e2 : rr = m.r := by rw [← hrr, e1]
    subst e2; rw [e1]; exact meet (.slice none 0 0, []) J14 ⟨rfl, hs.nil _ 2⟩
  clear hs; rintro ⟨pv, qs⟩ w15 ⟨hqs, hs⟩; refine Z.only [1, 2, 3, 4, 8, 13, 14] rfl ?_
  (try dsimp only at hs)
  dsimp only at hqs hs; refine V0 ?_; have hone9 : ∀ u ∈ ps.flatMap MpV.cells, u.oneCell' = true := by intro u hu; obtain ⟨q, hq, hu⟩ := List.mem_flatMap.1 hu; exact mp_one q u hu
  have hl29 : (ps.flatMap MpV.cells).length = i * 2 := by rw [fl_len mp_len, hl]
  have hb2 : (buE m now n r).2.1.length ≤ 2 := by
    unfold buE
    split
    · exact elsV_len _ _ _
    simp
  have hql : qs.length ≤ 2 := by have h7 := congrArg List.length hqs; rw [List.length_map] at h7; omega
  have hq3 : ∀ p ∈ (buE m now n r).2.1, p.2.length ≤ 3 := by
    unfold buE
    split
    · rw [els_ok (r := m.r) (now := now) (n := n - buN r) ⟨by have := hm.rn; have := hrd.1.2.1; omega, hrd.1.2.2⟩ J5]
      exact elP_l3 _ _
    intro p hp; cases hp
  have hpl : (qs.map PtV.mp ++ ps).map MpV.plain = (buE m now n r).2.1 ++ r := by rw [List.map_append, hr, ← hqs, List.map_map]; rfl
  refine V18 ?_; refine V62 ?_; refine Z.ZO.appendG (i0 := Tryz.t77) (size := 2) (bytes := 32) rfl rfl (by rfl) hs underlying47 J3 rfl rfl rfl rfl J12 rfl rfl J1 (hx.st (Jn hs)) J23 J36 J17 J5 ?_; clear hs; intro v87 w87 hs; replace hs := U5 hs; obtain ⟨Ao, co, rfl, hco, -, -⟩ := row_slv hs (j := 0) rfl; refine V1 ?_; refine Z.only [1, 2, 4, 8, 13, 14] rfl ?_; refine V539 ?_; refine Z.only [1, 2, 4, 8, 13, 14, 90] rfl ?_; refine V6 ?_; refine Z.cond rfl (fun hc19 => ?_) (fun hc19 => ?_)
  · (try simp at hc19)
    refine V0 ?_; refine Z.l rfl rfl (by rfl) (keepS hs) J84 ?_; refine V860 ?_; clear hs; intro ws hs; replace hs := U1 hs; replace hs := U2 hs; refine V306 ?_
    repeat (first | refine Z.rthen ?_ | refine Z.rblock ?_ | refine Z.rscope ?_)
    refine Z.out3 J41 ?_
    have he : buildV m now n r = (m, [], 10) := bu_none hok hle (by
      have h9 : ((buE m now n r).2.1 ++ r).length = 0 := by rw [List.length_append, ← hqs, List.length_map, hrl]; omega
      exact List.eq_nil_of_length_eq_zero h9)
    rw [he]; exact ⟨_, rfl, .slice none 0 0, rfl, St.nil (Jn hs) _ 1⟩
  (try simp at hc19)
  refine V862 ?_; have hPn : (buE m now n r).2.1 ++ r ≠ [] := fun h => by
    have h7 := congrArg List.length h; rw [List.length_append, ← hqs, List.length_map, List.length_nil] at h7
    omega
  refine V177 ?_; refine V859 ?_; refine V54 ?_; refine V2 ?_; refine V284 ?_; clear hs; intro ws hs; replace hs := U1 hs; replace hs := U2 hs; refine V282 ?_; refine V183 ?_; clear hs; intro ws hs; replace hs := U1 hs; refine V857 ?_; refine Z.only [2, 4, 8, 13] rfl ?_; refine V541 ?_; refine Z.ZO.call rfl rfl (by rfl) rfl rfl call86 rfl (mr_Build n Ao (qs.length + i) co (qs.map PtV.mp ++ ps) _ (by rw [List.flatMap_append, pt_mp]; exact hs.slm (A := Ao) J0) J132 J5 (comb (P := fun q ↦ q.l.length ≤ 100000) (fun q hq ↦ by have h7 := hq3 q.plain J121; exact Nat.le_trans h7 J5) hf) (comb (P := fun q ↦ Sl _ q.B (ints .u8 q.l)) (fun q hq ↦ hs.slm (A := q.B) (List.mem_append_right [_, _, _, _] (List.mem_map_of_mem (f := PtV.row) hq))) (fun q hq ↦ (hB q hq).st (Jn hs)))) ?_; rintro v22_2 w22_2 ⟨svb, rfl, hy⟩; replace hs := U0 (hs.call hy); clear hy; rw [hpl]; rw [hpl] at hs; obtain ⟨Bb, cb, rfl, -, -, -⟩ := row_slv hs (j := 0) rfl; refine V126 ?_; refine Z.only [4, 8, 18] rfl ?_; refine V858 ?_; refine Z.l rfl rfl (by rfl) (keepS hs) (Z.Yd.loadA _ rfl isAgg41 (fun _ => cellsB (cs := [.slice A m.b.l.length c, .slice B m.b.l.length d, .int .i64 m.b.now, .bool m.up, .int .i64 rr.c0, .int .i64 rr.c1, .int .i64 rr.c2, .int .i64 rr.c3, .int .i64 rr.now, .int .i64 rr.b0, .int .i64 rr.b1, .int .i64 rr.b2, .int .i64 rr.b3, .int .i64 rr.head, .bool rr.reg, .bool rr.per, .bool rr.pow, .bool rr.fst, .int .i64 rr.last, .int .i64 rr.lastP, .int .i64 rr.told, .int .i64 now]) J0) J50) ?_
  refine V456 ?_; clear hs; intro ws hs; replace hs := U1 hs; replace hs := U2 hs; refine V306 ?_; refine Z.out3 J41 ?_; rw [bu_main hok hle hPn, hrr]; exact ⟨_, rfl, .slice Bb (bldV n ((buE m now n r).2.1 ++ r)).1.length cb, rfl, hs.sel [0] J12⟩

def nowA (m : MaV) (x : Ac9) : Int := if x.what < 5 then m.last + max 0 (min 1000 x.now) else x.now
def isPl (x : Ac9) : Prop := x.what = 0 ∨ x.what = 1 ∨ x.what = 5
def isBu (x : Ac9) : Prop := x.what = 2 ∨ x.what = 3 ∨ x.what = 6
instance (x : Ac9) : Decidable (isPl x) := by unfold isPl; infer_instance
instance (x : Ac9) : Decidable (isBu x) := by unfold isBu; infer_instance
def acV (m : MaV) (x : Ac9) : MaV := if isPl x then (planV m (nowA m x) x.n x.head x.dem).1 else if isBu x then (buildV m (nowA m x) x.n (x.ps.map MpV.plain)).1 else m
theorem acV_no {m : MaV} {x : Ac9} (h : ¬ isPl x) (h2 : ¬ isBu x) : acV m x = m := by unfold acV; rw [if_neg h, if_neg h2]
theorem acV_ok {m : MaV} (hm : m.ok) (x : Ac9) : (acV m x).ok := by
  unfold acV
  split
  · exact plan_ok hm
  split
  · exact build_ok hm
  exact hm
theorem acV_l (m : MaV) (x : Ac9) : (acV m x).b.l = m.b.l ∧ (acV m x).up = m.up := by
  unfold acV
  split
  · exact plan_l _ _ _ _ _
  split
  · exact ⟨congrArg BkV.l (build_l _ _ _ _).1, (build_l _ _ _ _).2⟩
  exact ⟨rfl, rfl⟩
structure Ac9.sx (W : World) (M : List Nat) (x : Ac9) : Prop where
  d : Sx W M x.D (ints .i64 x.dem)
  p : Sx W M x.P (x.ps.flatMap MpV.cells)
  q : ∀ q ∈ x.ps, Sx W M q.B (ints .u8 q.l)
  y : ∀ q ∈ x.ps, ∀ z ∈ q.l, 0 ≤ z ∧ z < 256
  b : Sx W M x.B (ints .u8 x.bl)
  z : ∀ z ∈ x.bl, 0 ≤ z ∧ z < 256
  f : few1 x
  c : x.bl.length ≤ x.bc
def CpX (w : World) (g gb gr : Nat) (C : Option Addr) (kc : Nat) (m : MaV) : Prop := Cel w g [.pointer (some ⟨gb, 0, none⟩), .slice C m.b.l.length kc, rvP m gr, .int .i64 m.last] ∧ BkR w gb m.b ∧ (m.up = true → Cel w gr m.r.cells)
theorem cp_of {w0 W : World} {M : List Nat} {L : List Ent} {g gb gr : Nat} {C : Option Addr} {kc : Nat} {sv so : Value} {m : MaV} (hs : St w0 M W L) (hL : ∀ e ∈ maE g gb gr C kc sv so m, e ∈ L) : CpX W g gb gr C kc m :=
  ⟨hs.celOf (cs := [_, _, _, _]) (hL _ (List.mem_cons_self ..)), hs.bkR (sv := sv) (so := so) (m := m.b) (fun e he => hL e (List.mem_cons_of_mem _ (List.mem_append_left _ he))), fun hu => hs.celOf (hL _ (List.mem_cons_of_mem _ (List.mem_append_right _ (by rw [rpE, if_pos hu]; exact List.mem_cons_self ..))))⟩
theorem St.back4 {w0 w : World} {M : List Nat} {a b c d : Ent} {Q R : List Ent} (h : St w0 M w (a :: b :: c :: d :: (Q ++ R))) : St w0 M w (a :: b :: c :: d :: (R ++ Q)) := h.perm (List.Perm.append_left [a, b, c, d] List.perm_append_comm)
theorem mx_copy (g gb gr : Nat) (C : Option Addr) (kc : Nat) (m : MaV) (w : World) (hc : CpX w g gb gr C kc m) (hm : m.ok) :
    Calls Tryz.prog 21 #[.pointer (some ⟨g, 0, none⟩)] w (Ret fun v w' => ∃ g2 gb2 gr2 sv so, v = .pointer (some ⟨g2, 0, none⟩) ∧ St w [] w' (maE g2 gb2 gr2 C kc sv so m)) := by
  cases hup : m.up with
  | true => exact mx_copy_up g gb gr C kc m w hc.1 hc.2.1 hm hup (hc.2.2 hup)
  | false => exact mx_copy_dn g gb gr C kc m w hc.1 hc.2.1 hm hup
theorem meC_one (A : Option Addr) (c : Nat) (B : Option Addr) (d : Nat) (m : MaV) : ∀ u ∈ meC A c B d m, u.oneCell' = true := by simp [meC, Value.oneCell']
def ActR (h : Option Addr × Nat) (A : Option Addr) (c : Nat) (B : Option Addr) (d : Nat) (m : MaV) (x : Ac9) (M : List Nat) (w : World) (v : Value) (w' : World) : Prop := ∃ g gb gr sv so Bn dn Ln, v = .tuple #[.pointer (some ⟨g, 0, none⟩), .agg (meC A c Bn dn (acV m x)).toArray, .bool true] ∧ St w M w' (maE g gb gr h.1 h.2 sv so (acV m x) ++ Ln) ∧ (Ent.row (.slice Bn m.b.l.length dn) 3 1 m.b.l.length (ints .i64 (acV m x).b.b) ∈ Ln ∨ Bn = B ∧ dn = d ∧ (acV m x).b.b = m.b.b)
theorem act29 (g gb gr : Nat) (C : Option Addr) (kc : Nat) (sv so : Value) (A : Option Addr) (c : Nat) (B : Option Addr) (d : Nat) (m : MaV) (xw xo xn xh : Int) (xD : Option Addr) (xdc : Nat) (xde : List Int) (xP : Option Addr) (xpc : Nat) (xps : List MpV) (xB : Option Addr) (xbc : Nat) (xbl : List Int) (w : World) (hs : St w (idsOf (maE g gb gr C kc sv so m)) w (maE g gb gr C kc sv so m)) (hm : m.ok)
    (hC : Sx w (idsOf (maE g gb gr C kc sv so m)) C (m.b.l.flatMap LgV.cells)) (hA : Sx w (idsOf (maE g gb gr C kc sv so m)) A (m.b.l.flatMap LgV.cells)) (hB : Sx w (idsOf (maE g gb gr C kc sv so m)) B (ints .i64 m.b.b)) (hx : Ac9.sx w (idsOf (maE g gb gr C kc sv so m)) ⟨xw, xo, xn, xh, xD, xdc, xde, xP, xpc, xps, xB, xbc, xbl⟩) :
    Calls Tryz.prog 14 #[.pointer (some ⟨g, 0, none⟩), .agg (meC A c B d m).toArray, .agg (Ac9.cells ⟨xw, xo, xn, xh, xD, xdc, xde, xP, xpc, xps, xB, xbc, xbl⟩).toArray] w (Ret fun v w' => ActR (C, kc) A c B d m ⟨xw, xo, xn, xh, xD, xdc, xde, xP, xpc, xps, xB, xbc, xbl⟩ (idsOf (maE g gb gr C kc sv so m)) w v w') := by
  have hfb : xbl.length ≤ 600 := hx.f.2.2.1; have hfd : xde.length ≤ 10 := hx.f.1; have hfp : xps.length ≤ 6 := hx.f.2.1; have hfq : ∀ q ∈ xps, q.l.length ≤ 100000 := fun q hq => Nat.le_trans (hx.f.2.2.2 q hq) J12
  generalize hM : idsOf (maE g gb gr C kc sv so m) = M at *; have hln := hm.ln; obtain ⟨nw, hnw⟩ : ∃ nw, nowA m ⟨xw, xo, xn, xh, xD, xdc, xde, xP, xpc, xps, xB, xbc, xbl⟩ = nw := ⟨_, rfl⟩; have hnw2 : nw = if xw < 5 then m.last + max 0 (min 1000 xo) else xo := hnw.symm; have hone := meC_one A c B d m; simp only [Ac9.cells]; refine Z.enter func14 rfl ntmps14 rfl rfl ?_; refine V91 ?_; clear hs; intro g4 w4 hs; refine V616 ?_; clear hs; intro g5 w5 hs; refine V62 ?_; refine V144 ?_; clear hs; intro g7 w7 hs; refine V1 ?_; refine Z.only [0, 4, 5, 7] rfl ?_; refine V858 ?_; refine V104 ?_; refine V1 ?_; refine Z.only [0, 4, 5, 7, 9] rfl ?_; refine V192 ?_; refine V1 ?_; refine Z.only [0, 4, 5, 7, 9, 26] rfl ?_; refine V6 ?_; refine cutt (ι := Unit) [0, 4, 5, 7] rfl (fun _ => [(9, [], .int .i64 nw)]) (fun _ wr => St w M wr (Ent.blk g7 41 zeroE.toArray :: Ent.blk g5 50 #[.int .i64 xw, .int .i64 xo, .int .i64 xn, .int .i64 xh, .slice xD xde.length xdc, .slice xP xps.length xpc, .slice xB xbl.length xbc] :: Ent.blk g4 41 (meC A c B d m).toArray :: maE g gb gr C kc sv so m)) ?_ ?_
  · skip
    refine Z.cond rfl (fun hc2 => ?_) (fun hc2 => ?_)
    · (try simp at hc2)
      refine V42 ?_; refine V282 ?_; refine V9 ?_; refine V104 ?_; refine Z.l rfl rfl (by rfl) (keepS hs) (Z.Yd.min rfl rfl) ?_; refine Z.l rfl rfl (by rfl) (keepS hs) (Z.Yd.max rfl rfl) ?_; refine V33 ?_; refine Z.only [0, 4, 5, 7, 9] rfl ?_; refine V6 ?_; exact meet () J103 hs
    (try simp at hc2)
    refine V361 ?_; exact meet () J103 hs
  clear hs; rintro _ w2 hs; refine Z.only [0, 4, 5, 7, 9] rfl ?_; refine V182 ?_; refine V48 ?_; refine V857 ?_; refine Z.only [0, 4, 5, 7, 9, 35] rfl ?_; refine V861 ?_; refine V283 ?_; refine Z.only [0, 4, 5, 7, 9, 35, 36] rfl ?_; refine V6 ?_; refine cutt (ι := Unit) [0, 4, 5, 7, 9, 35] rfl (fun _ => [(36, [], .bool (decide (isPl ⟨xw, xo, xn, xh, xD, xdc, xde, xP, xpc, xps, xB, xbc, xbl⟩)))]) (fun _ wr => St w M wr (Ent.blk g7 41 zeroE.toArray :: Ent.blk g5 50 #[.int .i64 xw, .int .i64 xo, .int .i64 xn, .int .i64 xh, .slice xD xde.length xdc, .slice xP xps.length xpc, .slice xB xbl.length xbc] :: Ent.blk g4 41 (meC A c B d m).toArray :: maE g gb gr C kc sv so m)) ?_ ?_
  · skip
    refine Z.cond rfl (fun hc5 => ?_) (fun hc5 => ?_)
    · (try simp at hc5)
      refine V361 ?_; exact meet () J66 hs
    (try simp at hc5)
    refine V151 ?_; refine Z.only [0, 4, 5, 7, 9, 35, 36] rfl ?_; refine V6 ?_; refine Z.cond rfl (fun hc6 => ?_) (fun hc6 => ?_)
    · (try simp at hc6)
      refine V361 ?_; exact meet () J66 hs
    (try simp at hc6)
    refine V42 ?_; refine V31 ?_; refine Z.only [0, 4, 5, 7, 9, 35, 36] rfl ?_; refine V6 ?_; exact meet () J66 hs
  clear hs; rintro _ w5 hs; refine Z.only [0, 4, 5, 7, 9, 35, 36] rfl ?_; refine Z.cond rfl (fun hc7 => ?_) (fun hc7 => ?_)
  · (try simp at hc7)
    have hw : isPl ⟨xw, xo, xn, xh, xD, xdc, xde, xP, xpc, xps, xB, xbc, xbl⟩ := by assumption
    obtain ⟨R, hR⟩ : ∃ R, planV m nw xn xh xde = R := ⟨_, rfl⟩; have eA : acV m ⟨xw, xo, xn, xh, xD, xdc, xde, xP, xpc, xps, xB, xbc, xbl⟩ = R.1 := by rw [← hR, ← hnw]; exact if_pos hw
    have hRl : R.2.1.length ≤ 1000 := by rw [← hR]; exact plan_len hm
    refine V0 ?_; refine V297 ?_; refine V859 ?_; refine V444 ?_; refine V38 ?_; refine V9 ?_; refine V54 ?_; refine V116 ?_; refine V2 ?_; refine Z.ZO.call rfl rfl (by rfl) rfl rfl call34 rfl (rx_plan A c B d m nw xn xh xD xde.length xdc xde _ (hA.st hs) (hB.st hs) hm (hx.d.st hs) rfl J5) ?_; rintro v8_8 w8_8 ⟨Bn, dn, ov, Ln, rfl, hy, hN⟩; replace hs := U0 (hs.call hy); clear hy; rw [hR] at hs hN; rw [hR]; have hone1 := meC_one A c Bn dn R.1; obtain ⟨oa, oc, rfl, -, -, -⟩ := row_slv hs (j := 0) rfl; replace hs : St w M _ (Ent.row (.slice oa R.2.1.length oc) 3 1 R.2.1.length (ints .i64 R.2.1) :: Ent.blk g7 41 zeroE.toArray :: Ent.blk g5 50 #[.int .i64 xw, .int .i64 xo, .int .i64 xn, .int .i64 xh, .slice xD xde.length xdc, .slice xP xps.length xpc, .slice xB xbl.length xbc] :: Ent.blk g4 41 (meC A c B d m).toArray :: (maE g gb gr C kc sv so m ++ Ln)) := hs.perm (List.Perm.cons _ (List.perm_append_comm (l₁ := _ :: _ :: _ :: maE g gb gr C kc sv so m) (l₂ := Ln))); refine V259 ?_; refine V2 ?_; refine V144 ?_; clear hs; intro g10 w10 hs; refine V860 ?_; clear hs; intro ws hs; replace hs := U1 hs; replace hs := U2 hs; refine V31 ?_; refine Z.only [0, 5, 7, 9, 10, 11, 12] rfl ?_; refine V858 ?_; refine V11 ?_; refine V444 ?_; refine V38 ?_; refine V9 ?_; refine V54 ?_; refine V116 ?_
    replace hs : St w M _ (maE g gb gr C kc sv so m ++ (Ent.blk g10 41 (meC A c Bn dn R.1).toArray :: Ent.row (.slice oa R.2.1.length oc) 3 1 R.2.1.length (ints .i64 R.2.1) :: Ent.blk g7 41 zeroE.toArray :: Ent.blk g5 50 #[.int .i64 xw, .int .i64 xo, .int .i64 xn, .int .i64 xh, .slice xD xde.length xdc, .slice xP xps.length xpc, .slice xB xbl.length xbc] :: Ent.blk g4 41 (meC A c B d m).toArray :: Ln)) := hs.perm (List.perm_append_comm_assoc (maE g gb gr C kc sv so m) [_, _, _, _, _] Ln); refine V2 ?_; refine Z.ZO.call rfl rfl (by rfl) rfl rfl call16 rfl (mx_plan g gb gr C kc sv so m nw xn xh xD xde.length xdc xde _ hs.lend hm (hC.lent hs) (hx.d.lent hs) rfl J5) ?_; rintro v9_8 w9_8 ⟨ov2, rfl, hz⟩; replace hs := hs.regain hz; rw [hR] at hs; rw [hR]; obtain ⟨oa2, oc2, rfl, -, -, -⟩ := row_slv hs (j := 0) rfl; replace hs : St w M _ (Ent.row (.slice oa2 R.2.1.length oc2) 3 1 R.2.1.length (ints .i64 R.2.1) :: Ent.blk g10 41 (meC A c Bn dn R.1).toArray :: Ent.row (.slice oa R.2.1.length oc) 3 1 R.2.1.length (ints .i64 R.2.1) :: Ent.blk g7 41 zeroE.toArray :: Ent.blk g5 50 #[.int .i64 xw, .int .i64 xo, .int .i64 xn, .int .i64 xh, .slice xD xde.length xdc, .slice xP xps.length xpc, .slice xB xbl.length xbc] :: Ent.blk g4 41 (meC A c B d m).toArray :: (maE g gb gr C kc sv so R.1 ++ Ln)) := hs.perm (List.Perm.cons _ (List.perm_append_comm_assoc [_, _, _, _, _] (maE g gb gr C kc sv so R.1) Ln)); refine V126 ?_; refine Z.only [0, 7, 10, 11, 12, 13, 14] rfl ?_; refine V210 ?_
    refine drawL [Ent.blk g10 41 (meC A c Bn dn R.1).toArray] (fun _ => true) mixed hs ?_; clear hs; intro wd10 hs; refine V234 ?_; refine Z.t 1 rfl rfl rfl (by rfl) J3 (Jk hs) J84 ?_; refine Z.tb [2, 3] J3 rfl (Jk hs) rfl ?_; refine V260 ?_; refine Z.ZO.call rfl rfl (by rfl) rfl rfl call35 rfl (same29 oa oa2 _ oc _ oc2 R.2.1 R.2.1 _ (hs.slm (A := oa) (xs := ints .i64 R.2.1) J0) (hs.slm (A := oa2) (xs := ints .i64 R.2.1) J0) rfl rfl hRl) ?_; rintro v10_4 w10_4 ⟨rfl, hy⟩; replace hs := U0 (hs.call hy); clear hy; refine V69 ?_; refine Z.tb [5, 6, 8] J3 rfl (Jk hs) rfl ?_; refine Z.yes (s := 70) (b := true) rfl J16 rfl ?_; refine Z.tn 7 rfl rfl J3 rfl J7 ?_; refine V115 ?_; rintro v10_7 w10_7 ⟨rfl, hy⟩; replace hs := U0 (hs.call hy); clear hy; refine V416 ?_; clear hs; intro ws hs; replace hs := U1 hs; replace hs := U2 hs; refine V308 ?_; refine V230 ?_
    repeat (first | refine Z.rthen ?_ | refine Z.rblock ?_ | refine Z.rscope ?_)
    refine Z.out3 J87 ?_; refine ⟨_, rfl, ?_⟩; unfold ActR; rw [eA]; exact ⟨g, gb, gr, sv, so, Bn, dn, Ln, by simp, (show St w M _ ([_, _, _, _, _, _] ++ (maE g gb gr C kc sv so R.1 ++ Ln)) from hs).sub (List.sublist_append_right _ _), hN⟩
  (try simp at hc7)
  have hw : ¬ isPl ⟨xw, xo, xn, xh, xD, xdc, xde, xP, xpc, xps, xB, xbc, xbl⟩ := by assumption
  refine V283 ?_; refine Z.only [0, 4, 5, 7, 9, 35, 76] rfl ?_; refine V6 ?_; refine cutt (ι := Unit) [0, 4, 5, 7, 9, 35] rfl (fun _ => [(76, [], .bool (decide (isBu ⟨xw, xo, xn, xh, xD, xdc, xde, xP, xpc, xps, xB, xbc, xbl⟩)))]) (fun _ wr => St w M wr (Ent.blk g7 41 zeroE.toArray :: Ent.blk g5 50 #[.int .i64 xw, .int .i64 xo, .int .i64 xn, .int .i64 xh, .slice xD xde.length xdc, .slice xP xps.length xpc, .slice xB xbl.length xbc] :: Ent.blk g4 41 (meC A c B d m).toArray :: maE g gb gr C kc sv so m)) ?_ ?_
  · skip
    refine Z.cond rfl (fun hc11 => ?_) (fun hc11 => ?_)
    · (try simp at hc11)
      refine V361 ?_; exact meet () J67 hs
    (try simp at hc11)
    refine V151 ?_; refine Z.only [0, 4, 5, 7, 9, 35, 76] rfl ?_; refine V6 ?_; refine Z.cond rfl (fun hc12 => ?_) (fun hc12 => ?_)
    · (try simp at hc12)
      refine V361 ?_; exact meet () J67 hs
    (try simp at hc12)
    refine V42 ?_; refine V31 ?_; refine Z.only [0, 4, 5, 7, 9, 35, 76] rfl ?_; refine V6 ?_; exact meet () J67 hs
  clear hs; rintro _ w11 hs; refine Z.only [0, 4, 5, 7, 9, 35, 76] rfl ?_; refine Z.cond rfl (fun hc13 => ?_) (fun hc13 => ?_)
  · (try simp at hc13)
    have hw2 : isBu ⟨xw, xo, xn, xh, xD, xdc, xde, xP, xpc, xps, xB, xbc, xbl⟩ := by assumption
    obtain ⟨R, hR⟩ : ∃ R, buildV m nw xn (xps.map MpV.plain) = R := ⟨_, rfl⟩; have eA : acV m ⟨xw, xo, xn, xh, xD, xdc, xde, xP, xpc, xps, xB, xbc, xbl⟩ = R.1 := by rw [← hR, ← hnw]; unfold acV; rw [if_neg hw, if_pos hw2]
    have eb : R.1.b = m.b := by rw [← hR]; exact (build_l _ _ _ _).1
    refine V0 ?_; refine V297 ?_; refine V859 ?_; refine V444 ?_; refine V78 ?_; refine V256 ?_; refine V2 ?_; refine Z.ZO.call rfl rfl (by rfl) rfl rfl call36 rfl (rx_build A c B d m nw xn xP xps.length xpc xps _ (hA.st hs) (hB.st hs) hm (hx.p.st hs) (fun q hq ↦ (hx.q q hq).st hs) hx.y rfl J5 hfq) ?_; rintro v14_6 w14_6 ⟨ov, rfl, hy⟩; replace hs := U0 (hs.call hy); clear hy; rw [hR] at hs; rw [hR]; have hone1 := meC_one A c B d R.1; obtain ⟨oa, oc, rfl, -, -, -⟩ := row_slv hs (j := 0) rfl; refine V259 ?_; refine V2 ?_; refine V144 ?_; clear hs; intro g15 w15 hs; refine V860 ?_; clear hs; intro ws hs; replace hs := U1 hs; replace hs := U2 hs; refine V31 ?_; refine Z.only [0, 5, 7, 9, 15, 16, 17] rfl ?_; refine V210 ?_; refine drawL [Ent.blk g15 41 (meC A c B d R.1).toArray, Ent.row (.slice oa R.2.1.length oc) 5 1 R.2.1.length (ints .u8 R.2.1), Ent.blk g5 50 #[.int .i64 xw, .int .i64 xo, .int .i64 xn, .int .i64 xh, .slice xD xde.length xdc, .slice xP xps.length xpc, .slice xB xbl.length xbc]] (fun _ => true) mixed hs ?_; clear hs; intro wd15 hs; refine V234 ?_; refine Z.t 1 rfl rfl rfl (by rfl) J3 (Jk hs) J84 ?_; refine Z.tb [2, 3] J3 rfl (Jk hs) rfl ?_; refine Z.t 4 rfl rfl rfl (by rfl) J3 (Jk hs) (Z.Yd.fieldA (m := 2) rfl J3) ?_; refine Z.t 5 rfl rfl rfl (by rfl) J3 (Jk hs) J25 ?_; refine Z.tb [6] J3 rfl (Jk hs) rfl ?_
    replace hs : St w M _ (maE g gb gr C kc sv so m ++ (Ent.blk g15 41 (meC A c B d R.1).toArray :: Ent.row (.slice oa R.2.1.length oc) 5 1 R.2.1.length (ints .u8 R.2.1) :: Ent.blk g7 41 zeroE.toArray :: Ent.blk g5 50 #[.int .i64 xw, .int .i64 xo, .int .i64 xn, .int .i64 xh, .slice xD xde.length xdc, .slice xP xps.length xpc, .slice xB xbl.length xbc] :: Ent.blk g4 41 (meC A c B d m).toArray :: [])) := St.rot (L1 := [_, _, _, _, _]) hs; refine Z.t 7 rfl rfl rfl (by rfl) J3 (Jk hs) (Z.Yd.b2s rfl underlying48 underlying5 underlying9 rfl (fun W hW => by obtain ⟨L', hR', hsub⟩ := hW; exact hR'.slm (hsub _ J0))) ?_; refine Z.tb [8] J3 rfl (Jk hs) rfl ?_; refine Z.t 9 rfl rfl rfl (by rfl) J3 (Jk hs) (Z.Yd.fieldA (m := 5) rfl J3) ?_; refine Z.t 10 rfl rfl rfl (by rfl) J3 (Jk hs) J47 ?_; refine V561 ?_; refine Z.ZO.call rfl rfl (by rfl) rfl rfl call19 rfl (bu29 g gb gr C kc sv so m nw xn _ R.2.2 xP xps.length xpc xps (xps.map MpV.plain) _ hs.lend hm (hx.p.lent hs) (fun q hq ↦ (hx.q q hq).lent hs) hx.y rfl J5 hfq rfl (by rw [hR]; simp)) ?_; rintro v15_11 w15_11 ⟨rfl, hz⟩; replace hs := hs.regain hz; rw [hR] at hs
    replace hs : St w M _ (Ent.blk g15 41 (meC A c B d R.1).toArray :: Ent.row (.slice oa R.2.1.length oc) 5 1 R.2.1.length (ints .u8 R.2.1) :: Ent.blk g7 41 zeroE.toArray :: Ent.blk g5 50 #[.int .i64 xw, .int .i64 xo, .int .i64 xn, .int .i64 xh, .slice xD xde.length xdc, .slice xP xps.length xpc, .slice xB xbl.length xbc] :: Ent.blk g4 41 (meC A c B d m).toArray :: maE g gb gr C kc sv so R.1) := St.rot (L1 := maE g gb gr C kc sv so R.1) hs; refine V370 ?_; refine V350 ?_; refine V7 ?_; clear hs; intro ws hs; replace hs := U1 hs; replace hs := U2 hs; refine V222 ?_; refine Z.tb [14] J3 rfl (Jk hs) rfl ?_; refine V40 ?_; refine V230 ?_
    repeat (first | refine Z.rthen ?_ | refine Z.rblock ?_ | refine Z.rscope ?_)
    refine Z.out3 J87 ?_; refine ⟨_, rfl, ?_⟩; unfold ActR; rw [eA]; exact ⟨g, gb, gr, sv, so, B, d, [], rfl, by rw [List.append_nil]; exact (show St w M _ ([_, _, _, _, _] ++ maE g gb gr C kc sv so R.1) from hs).sub (List.sublist_append_right _ _), .inr ⟨rfl, rfl, by rw [eb]⟩⟩
  (try simp at hc13)
  have hw2 : ¬ isBu ⟨xw, xo, xn, xh, xD, xdc, xde, xP, xpc, xps, xB, xbc, xbl⟩ := by assumption
  have eA : acV m ⟨xw, xo, xn, xh, xD, xdc, xde, xP, xpc, xps, xB, xbc, xbl⟩ = m := acV_no hw hw2; refine V151 ?_; refine Z.only [0, 4, 5, 7, 103] rfl ?_; refine V6 ?_; refine Z.cond rfl (fun hc16 => ?_) (fun hc16 => ?_)
  · (try simp at hc16)
    refine V0 ?_; refine V297 ?_; refine V508 ?_; refine V73 ?_; refine V2 ?_; refine Z.ZO.call rfl rfl (by rfl) rfl rfl call22 rfl (rx_receive A c B d m xB xbl.length xbc xbl _ (hA.st hs) (hB.st hs) hm (hx.b.st hs) rfl J5 hx.c hx.z) ?_; rintro v17_3 w17_3 ⟨t0, t1, t2, t3, ys, rfl, hyp, hyq, hy⟩; replace hs := U0 (hs.call hy); clear hy; obtain ⟨G0, k0, rfl, -, -, -⟩ := row_slv hs (j := 0) rfl; obtain ⟨G1, k1, rfl, -, -, -⟩ := row_slv hs (j := 1) rfl; obtain ⟨G2, k2, rfl, -, -, -⟩ := row_slv hs (j := 2) rfl; obtain ⟨G3, k3, rfl, -, -, -⟩ := row_slv hs (j := 3) rfl; refine V625 ?_; refine V285 ?_; clear hs; intro g18 w18 hs; refine V860 ?_; clear hs; intro ws hs; replace hs := U1 hs; replace hs := U2 hs; refine V1 ?_; refine Z.only [0, 4, 5, 7, 18, 19] rfl ?_; refine V303 ?_; refine V508 ?_; refine V73 ?_; refine V2 ?_; refine Z.ZO.call rfl rfl (by rfl) rfl rfl call17 rfl (mx_receive g gb m xB xbl.length xbc xbl _ (en_of (gr := gr) (C := C) (kc := kc) (sv := sv) (so := so) hs (fun e he ↦ by simp [he])) hm (hx.b.st hs) rfl J5 hx.z) ?_; rintro v18_3 w18_3 ⟨s0, s1, s2, s3, xs, qs, rfl, hxp, hxm, hy⟩; replace hs := U0 (hs.call hy); clear hy; obtain ⟨E0, f0, rfl, -, -, -⟩ := row_slv hs (j := 0) rfl; obtain ⟨E1, f1, rfl, -, -, -⟩ := row_slv hs (j := 1) rfl; obtain ⟨E2, f2, rfl, -, -, -⟩ := row_slv hs (j := 2) rfl; obtain ⟨E3, f3, rfl, -, -, -⟩ := row_slv hs (j := 3) rfl; replace hs := St.back4 (Q := rowsQ qs) hs; replace hs := U6 hs; refine V625 ?_; refine V285 ?_; clear hs
    intro g20 w20 hs; refine V860 ?_; clear hs; intro ws hs; replace hs := U1 hs; replace hs := U2 hs; refine V1 ?_; refine Z.only [0, 4, 7, 18, 19, 20, 21] rfl ?_; refine V210 ?_; refine drawL [Ent.blk g4 41 (meC A c B d m).toArray, Ent.blk g18 61 #[.slice G0 ys.length k0, .slice G1 (recV m xbl).2.rp.length k1, .slice G2 (recV m xbl).2.pw.length k2, .slice G3 (recV m xbl).2.id.length k3], Ent.blk g20 61 #[.slice E0 xs.length f0, .slice E1 (recV m xbl).2.rp.length f1, .slice E2 (recV m xbl).2.pw.length f2, .slice E3 (recV m xbl).2.id.length f3]] (fun _ => true) mixed hs ?_; clear hs; intro wd19 hs; refine V234 ?_; refine Z.t 1 rfl rfl rfl (by rfl) J3 (Jk hs) (Z.Yd.loadA _ rfl isAgg41 (fun _ => cellsB (cs := meC A c B d m) J0) J50) ?_; refine Z.t 2 rfl rfl rfl (by rfl) J3 (Jk hs) (Z.Yd.loadA _ rfl isAgg61 (fun _ => cellsB (cs := [.slice G0 ys.length k0, .slice G1 (recV m xbl).2.rp.length k1, .slice G2 (recV m xbl).2.pw.length k2, .slice G3 (recV m xbl).2.id.length k3]) J0) J128) ?_; refine Z.t 3 rfl rfl rfl (by rfl) J3 (Jk hs) (Z.Yd.loadA _ rfl isAgg61 (fun _ => cellsB (cs := [.slice E0 xs.length f0, .slice E1 (recV m xbl).2.rp.length f1, .slice E2 (recV m xbl).2.pw.length f2, .slice E3 (recV m xbl).2.id.length f3]) J0) J128) ?_; refine V260 ?_
    refine Z.ZO.call rfl rfl (by rfl) rfl rfl call20 rfl (ct_same [.slice G0 ys.length k0, .slice G1 (recV m xbl).2.rp.length k1, .slice G2 (recV m xbl).2.pw.length k2, .slice G3 (recV m xbl).2.id.length k3] [.slice E0 xs.length f0, .slice E1 (recV m xbl).2.rp.length f1, .slice E2 (recV m xbl).2.pw.length f2, .slice E3 (recV m xbl).2.id.length f3] ys xs (recV m xbl).2 (recV m xbl).2 _ (rx_ctq (A := xB) hx.z hs hyp hyq (hx.b.st hs) (fun e he ↦ by simp only [List.mem_cons, List.mem_nil_iff, or_false] at he; rcases he with h | h | h | h <;> simp [h])) (rec_ctq hx.z hs hxp hxm (fun e he ↦ by simp only [List.cons_append, List.nil_append, List.mem_cons] at he; rcases he with h | h | h | h | h <;> simp [h])) (ct_bd hyp)) ?_; rintro v19_4 w19_4 ⟨rfl, hy⟩; replace hs := U0 (hs.call hy); clear hy; rw [decide_eq_true (sameC_refl _)]; refine V69 ?_; refine Z.tb [5, 6, 8] J3 rfl (Jk hs) rfl ?_; refine Z.yes (s := 124) (b := true) rfl rfl rfl ?_; refine Z.tn 7 rfl rfl J3 rfl J7 ?_; refine V115 ?_; rintro v19_7 w19_7 ⟨rfl, hy⟩; replace hs := U0 (hs.call hy); clear hy; refine V416 ?_; clear hs; intro ws hs; replace hs := U1 hs; replace hs := U2 hs; refine V308 ?_; refine V230 ?_
    repeat (first | refine Z.rthen ?_ | refine Z.rblock ?_ | refine Z.rscope ?_)
    refine Z.out3 J87 ?_; refine ⟨_, rfl, ?_⟩; unfold ActR; rw [eA]; exact ⟨g, gb, gr, sv, so, B, d, rowsQ qs, by simp, (show St w M _ ([_, _, _, _, _, _, _, _, _, _, _, _, _] ++ (maE g gb gr C kc sv so m ++ rowsQ qs)) from hs).sub (List.sublist_append_right _ _), .inr ⟨rfl, rfl, rfl⟩⟩
  (try simp at hc16)
  refine V68 ?_; refine V210 ?_; refine drawL [Ent.blk g4 41 (meC A c B d m).toArray] (fun _ => true) mixed hs ?_; clear hs; intro wd20 hs; refine V234 ?_; refine Z.t 2 rfl rfl rfl (by rfl) J3 (Jk hs) J84 ?_; refine Z.tn 1 rfl rfl J3 rfl trivial ?_; refine Z.ZO.call rfl rfl (by rfl) rfl rfl call21 rfl (mx_copy g gb gr C kc m _ (cp_of (sv := sv) (so := so) hs (fun e he ↦ by simp [he])) hm) ?_; rintro v20_1 w20_1 ⟨g2, gb2, gr2, sv2, so2, rfl, hy⟩; replace hs := U0 (hs.call hy); clear hy; replace hs := St.rot (L1 := maE g2 gb2 gr2 C kc sv2 so2 m) hs; replace hs := U6 hs; refine V1013 ?_; refine Z.tb [3] J3 rfl (Jk hs) rfl ?_; refine V260 ?_; refine V7 ?_; clear hs; intro ws hs; replace hs := U1 hs; replace hs := U2 hs; refine V69 ?_; refine Z.tb [5] J3 rfl (Jk hs) rfl ?_; refine V40 ?_; refine V230 ?_; refine Z.out3 J87 ?_; refine ⟨_, rfl, ?_⟩; unfold ActR; rw [eA]; exact ⟨g2, gb2, gr2, sv2, so2, B, d, _, rfl, St.rot (L1 := [_, _, _] ++ maE g gb gr C kc sv so m) hs, .inr ⟨rfl, rfl, rfl⟩⟩


def run9 (m : MaV) (l : List Ac9) : MaV := l.foldl acV m
theorem run9_snoc (m : MaV) (l : List Ac9) (x : Ac9) : run9 m (l ++ [x]) = acV (run9 m l) x := by simp [run9]
theorem run9_l (m : MaV) (l : List Ac9) : (run9 m l).b.l = m.b.l := by
  unfold run9
  induction l generalizing m with
  | nil => rfl
  | cons x l ih => rw [List.foldl_cons, ih, (acV_l m x).1]
theorem run9_ok {m : MaV} (h : m.ok) (l : List Ac9) : (run9 m l).ok := by
  unfold run9
  induction l generalizing m with
  | nil => exact h
  | cons x l ih => exact ih (acV_ok h x)
theorem run9_next {m : MaV} {l : List Ac9} {i : Nat} {y : Ac9} (h : l[i]? = some y) : run9 m (l.take (i + 1)) = acV (run9 m (l.take i)) y := by
  rw [List.take_add_one, h]; exact run9_snoc _ _ _
theorem Ac9.good.sx {w W : World} {L1 L2 : List Ent} {x : Ac9} (h : x.good w) (hf : few1 x) (hs : St w [] W (L1 ++ L2)) : Ac9.sx W (idsOf L1) x :=
  ⟨h.d.sx.lent hs, h.p.sx.lent hs, fun q hq => (h.q q hq).sx.lent hs, h.y, h.b.sx.lent hs, h.z, hf, h.c⟩
theorem St.setup29 {w0 w : World} {M : List Nat} {E : List Ent} {a b c x y : Ent} (h : St w0 M w (a :: b :: c :: x :: (E ++ [y]))) : St w0 M w (a :: b :: c :: y :: E) := by
  have h1 : St w0 M w ([a, b, c] ++ (E ++ [y])) := h.sub (List.Sublist.append (List.Sublist.refl [a, b, c]) (List.sublist_cons_self _ _)); exact h1.perm (List.Perm.append_left [a, b, c] (List.perm_append_comm (l₁ := [y]) (l₂ := E)))
theorem act29y (g gb gr : Nat) (C : Option Addr) (kc : Nat) (sv so : Value) (A : Option Addr) (c : Nat) (B : Option Addr) (d : Nat) (m : MaV) (x : Ac9) (w : World) (hs : St w (idsOf (maE g gb gr C kc sv so m)) w (maE g gb gr C kc sv so m)) (hm : m.ok)
    (hC : Sx w (idsOf (maE g gb gr C kc sv so m)) C (m.b.l.flatMap LgV.cells)) (hA : Sx w (idsOf (maE g gb gr C kc sv so m)) A (m.b.l.flatMap LgV.cells)) (hB : Sx w (idsOf (maE g gb gr C kc sv so m)) B (ints .i64 m.b.b)) (hx : Ac9.sx w (idsOf (maE g gb gr C kc sv so m)) x) :
    Calls Tryz.prog 14 #[.pointer (some ⟨g, 0, none⟩), .agg (meC A c B d m).toArray, .agg x.cells.toArray] w (Ret fun v w' => ActR (C, kc) A c B d m x (idsOf (maE g gb gr C kc sv so m)) w v w') := by
  cases x
  exact act29 g gb gr C kc sv so A c B d m _ _ _ _ _ _ _ _ _ _ _ _ _ w hs hm hC hA hB hx
theorem St.pull {w0 w : World} {M : List Nat} {A Q E R : List Ent} (h : St w0 M w (A ++ (Q ++ (E ++ R)))) : St w0 M w (E ++ (A ++ (Q ++ R))) := h.perm (by simpa [List.append_assoc] using List.perm_append_comm_assoc E (A ++ Q) R)
theorem row_lentm {w0 w : World} {M : List Nat} {L1 L2 : List Ent} {T size m kk cc : Nat} {A : Option Addr} {xs : List Value} (hs : St w0 M w (L1 ++ L2)) (hm : Ent.row (.slice A kk cc) T size m xs ∈ L2) : Sx w (idsOf L1) A xs := by
  obtain ⟨j, hj⟩ := List.getElem?_of_mem hm; exact Z.row_lentv hs hj
structure Hd9 where
  g : Nat
  gb : Nat
  gr : Nat
  sv : Value
  so : Value
  B : Option Addr
  d : Nat
abbrev rL (A : Option Addr) (c : Nat) (l : List LgV) : Ent := Ent.row (.slice A l.length c) 75 5 l.length (l.flatMap LgV.cells)
abbrev rI (B : Option Addr) (d : Nat) (l : List LgV) (m : MaV) : Ent := Ent.row (.slice B l.length d) 3 1 l.length (ints .i64 m.b.b)
abbrev bM (g : Nat) (A : Option Addr) (c : Nat) (B : Option Addr) (d : Nat) (m : MaV) : Ent := Ent.blk g 41 (meC A c B d m).toArray
theorem run9_end {m : MaV} {l : List Ac9} {i : Nat} (h : l.length ≤ i) : run9 m (l.take (i + 1)) = run9 m (l.take i) := by
  rw [List.take_of_length_le h, List.take_of_length_le J5]
theorem St.lend2 {w0 w : World} {M : List Nat} {A Q E F : List Ent} (h : St w0 M w (A ++ (Q ++ (E ++ F)))) : St w0 M w (F ++ (A ++ (Q ++ E))) := h.perm (by
  have := List.perm_append_comm (l₁ := F) (l₂ := A ++ (Q ++ E))
  simpa only [List.append_assoc] using this)
theorem St.back1 {w0 w : World} {M : List Nat} {A Q E F Ln : List Ent} (h : St w0 M w ((E ++ Ln) ++ (A ++ (Q ++ F)))) : St w0 M w (A ++ ((Ln ++ Q) ++ (E ++ F))) := h.perm (by
  have h1 := List.perm_append_comm_assoc A Ln (Q ++ (E ++ F)); have h2 := (List.perm_append_comm_assoc E (Ln ++ (A ++ Q)) F).symm; have h3 : A ++ (Ln ++ Q ++ (E ++ F)) = A ++ (Ln ++ (Q ++ (E ++ F))) := by rw [List.append_assoc]
  rw [h3]; refine h1.trans ?_
  simpa only [List.append_assoc] using h2)
theorem St.back2 {w0 w : World} {M : List Nat} {A Q E F Ln : List Ent} (h : St w0 M w ((F ++ Ln) ++ (A ++ (Q ++ E)))) : St w0 M w (A ++ ((Ln ++ Q) ++ (E ++ F))) := by
  have h1 := St.back1 h; exact h1.perm (List.Perm.append_left _ (List.Perm.append_left _ List.perm_append_comm))
theorem St.back0 {w0 w : World} {M : List Nat} {A Q E Ln : List Ent} (h : St w0 M w ((E ++ Ln) ++ (A ++ Q))) : St w0 M w (A ++ ((Ln ++ Q) ++ E)) := by
  have h1 := St.back1 (F := []) (by simpa only [List.append_nil] using h)
  simpa only [List.append_nil] using h1
theorem SX.St.sel4 {w0 w : World} {M : List Nat} {E : List Ent} {a b c x : Ent} (h : St w0 M w (a :: b :: c :: x :: E)) : St w0 M w (a :: b :: x :: ([c] ++ E)) := h.perm (List.Perm.cons _ (List.Perm.cons _ (List.Perm.swap _ _ _)))
theorem St.cp29 {w0 w : World} {M : List Nat} {E F Q : List Ent} {a b c x : Ent} (h : St w0 M w (x :: a :: b :: c :: ((Q ++ E) ++ F))) : St w0 M w (a :: x :: b :: c :: (Q ++ (E ++ F))) := by
  rw [List.append_assoc] at h; exact h.perm (List.Perm.swap _ _ _)
theorem new_lev {T n dn d : Nat} {Bn B : Option Addr} {bs bs' : List Int} {Ln Q : List Ent} (hN : Ent.row (.slice Bn n dn) T 1 n (ints .i64 bs') ∈ Ln ∨ Bn = B ∧ dn = d ∧ bs' = bs) (h : Ent.row (.slice B n d) T 1 n (ints .i64 bs) ∈ Q) : Ent.row (.slice Bn n dn) T 1 n (ints .i64 bs') ∈ Ln ++ Q := by
  rcases hN with h1 | ⟨rfl, rfl, rfl⟩
  · exact List.mem_append_left _ h1
  exact List.mem_append_right _ h
theorem copies_all (A : Option Addr) (n cc : Nat) (a b c d : Int) (up : Bool) (Q : Option Addr) (k dq : Nat) (O : Option Addr) (ko do1 : Nat) (T : Option Addr) (kt dt : Nat) (ls : List LgV) (l one two : List Ac9) (w : World) (hx : Sl w A (ls.flatMap LgV.cells)) (hl : ls.length = n) (hc : n ≤ cc) (hn : n ≤ maxLen) (hq : Sl w Q (l.flatMap Ac9.cells)) (hk : l.length = k) (hkn : k ≤ maxLen) (hg : ∀ x ∈ l, x.good w) (hq1 : Sl w O (one.flatMap Ac9.cells)) (hk1 : one.length = ko) (hkn1 : ko ≤ maxLen) (hg1 : ∀ x ∈ one, x.good w) (hq2 : Sl w T (two.flatMap Ac9.cells)) (hk2 : two.length = kt) (hkn2 : kt ≤ maxLen) (hg2 : ∀ x ∈ two, x.good w) :
    Calls Tryz.prog 7 #[cfgV A n cc a b c d up, .slice Q k dq, .slice O ko do1, .slice T kt dt] w (Ret fun v w' => v = .bool true ∧ St w [] w' []) := by
  have hs := St.start w; unfold cfgV
  by_cases hnf : ¬ (n ≤ 12 ∧ few9 l 8 ∧ few9 one 4 ∧ few9 two 4)
  · by_cases h12 : n ≤ 12
    · by_cases hf0 : few9 l 8
      · by_cases hf1 : few9 one 4
        · have hf2 : ¬ few9 two 4 := fun h => hnf ⟨h12, hf0, hf1, h⟩
          refine V1007 ?_; clear hs; intro g4 w4 hs; refine V1000 ?_; rintro v1_6 w1_6 ⟨rfl, hy⟩; replace hs := U0 (hs.call hy); refine V1001 ?_; rintro v1_11 w1_11 ⟨rfl, hy⟩; replace hs := U0 (hs.call hy); refine V1002 ?_; rintro v1_16 w1_16 ⟨rfl, hy⟩; replace hs := U0 (hs.call hy); refine V1005 ?_; refine Z.cond rfl (fun hc1 => ?_) (fun h => absurd h (by simp [hf2])); refine V304 ?_; refine V379 ?_; rintro v2_0 w2_0 ⟨rfl, hy⟩; replace hs := U0 (hs.call hy); refine V1009 ?_
          repeat (first | refine Z.rthen ?_ | refine Z.rblock ?_ | refine Z.rscope ?_)
          refine V199 ?_; exact ⟨_, rfl, rfl, Jn hs⟩
        skip
        refine V1007 ?_; clear hs; intro g4 w4 hs; refine V1000 ?_; rintro v1_6 w1_6 ⟨rfl, hy⟩; replace hs := U0 (hs.call hy); refine V1001 ?_; rintro v1_11 w1_11 ⟨rfl, hy⟩; replace hs := U0 (hs.call hy); refine V859 ?_; refine Z.yes (s := 28) (b := false) rfl rfl rfl ?_; refine V14 ?_; refine V11 ?_; refine Z.yes (s := 33) (b := true) rfl ((by simp [hf1])) rfl ?_; refine V299 ?_; refine V20 ?_; refine V857 ?_; refine Z.only [1, 2, 3, 4, 37] rfl ?_; refine V6 ?_; refine Z.cond rfl (fun hc1 => ?_) (fun h => absurd h J16); refine V304 ?_; refine V379 ?_; rintro v2_0 w2_0 ⟨rfl, hy⟩; replace hs := U0 (hs.call hy); refine V1009 ?_
        repeat (first | refine Z.rthen ?_ | refine Z.rblock ?_ | refine Z.rscope ?_)
        refine V199 ?_; exact ⟨_, rfl, rfl, Jn hs⟩
      skip
      refine V1007 ?_; clear hs; intro g4 w4 hs; refine V1000 ?_; rintro v1_6 w1_6 ⟨rfl, hy⟩; replace hs := U0 (hs.call hy); refine V859 ?_; refine Z.yes (s := 23) (b := false) rfl rfl rfl ?_; refine V14 ?_; refine V11 ?_; refine Z.yes (s := 28) (b := true) rfl ((by simp [hf0])) rfl ?_; refine V1008 ?_; refine Z.cond rfl (fun hc1 => ?_) (fun h => absurd h J16); refine V304 ?_; refine V379 ?_; rintro v2_0 w2_0 ⟨rfl, hy⟩; replace hs := U0 (hs.call hy); refine V1009 ?_
      repeat (first | refine Z.rthen ?_ | refine Z.rblock ?_ | refine Z.rscope ?_)
      refine V199 ?_; exact ⟨_, rfl, rfl, Jn hs⟩
    skip
    refine V1007 ?_; clear hs; intro g4 w4 hs; refine V607 ?_; refine V30 ?_; refine V3 ?_; refine V55 ?_; refine V50 ?_; refine Z.yes (s := 23) (b := true) rfl (J45) rfl ?_; refine V299 ?_; refine V20 ?_; refine V11 ?_; refine Z.yes (s := 28) (b := true) rfl (J16) rfl ?_; refine V1008 ?_; refine Z.cond rfl (fun hc1 => ?_) (fun h => absurd h J16); refine V304 ?_; refine V379 ?_; rintro v2_0 w2_0 ⟨rfl, hy⟩; replace hs := U0 (hs.call hy); refine V1009 ?_
    repeat (first | refine Z.rthen ?_ | refine Z.rblock ?_ | refine Z.rscope ?_)
    refine V199 ?_; exact ⟨_, rfl, rfl, Jn hs⟩
  obtain ⟨hn12, hf0, hf1, hf2⟩ := Classical.not_not.1 hnf; clear hnf
  by_cases h : ¬ okN9 ls a b c d
  · skip
    refine V1007 ?_; clear hs; intro g4 w4 hs; refine V1000 ?_; rintro v1_6 w1_6 ⟨rfl, hy⟩; replace hs := U0 (hs.call hy); refine V1001 ?_; rintro v1_11 w1_11 ⟨rfl, hy⟩; replace hs := U0 (hs.call hy); refine V1002 ?_; rintro v1_16 w1_16 ⟨rfl, hy⟩; replace hs := U0 (hs.call hy); refine V1005 ?_; refine Z.cond rfl (fun h => absurd h (by simp [hf2])) (fun hc1 => ?_); refine V862 ?_; refine V382 ?_; refine V2 ?_; refine Z.ZO.call rfl rfl (by rfl) rfl rfl call11 rfl (mx_new_bad A n cc ls a b c d up _ (hx.st (Jn hs)) hl J5 hc h) ?_; rintro v3_1 w3_1 ⟨rfl, hy⟩; replace hs := U0 (hs.call hy); refine V126 ?_; refine Z.only [1, 2, 3, 4, 9] rfl ?_; refine V858 ?_; refine V382 ?_; refine V2 ?_; refine Z.ZO.call rfl rfl (by rfl) rfl rfl call12 rfl (rx_new_bad A n cc ls a b c d up _ (hx.st (Jn hs)) hl h) ?_; rintro v4_1 w4_1 ⟨rfl, hy⟩; replace hs := U0 (hs.call hy); refine V625 ?_; refine V144 ?_; clear hs; intro g11 w11 hs; simp only [zeroE]; refine V860 ?_; clear hs; intro ws hs; replace hs := U1 hs; replace hs := U2 hs; refine V1011 ?_; refine Z.cond rfl (fun hc5 => ?_) (fun h => absurd h J16); refine V304 ?_; refine V379 ?_; rintro v6_0 w6_0 ⟨rfl, hy⟩; replace hs := U0 (hs.call hy); refine V1009 ?_
    repeat (first | refine Z.rthen ?_ | refine Z.rblock ?_ | refine Z.rscope ?_)
    refine V199 ?_; exact ⟨_, rfl, rfl, Jn hs⟩
  replace h := Classical.not_not.1 h; have hm : (newM ls a b c d up).ok := newM_ok h.1 h.2; have hk8 : k ≤ 8 ∧ ko ≤ 4 ∧ kt ≤ 4 := by have h1 := hf0.1; have h2 := hf1.1; have h3 := hf2.1; omega
  subst hl; refine V1007 ?_; clear hs; intro g4 w4 hs; refine V1000 ?_; rintro v1_6 w1_6 ⟨rfl, hy⟩; replace hs := U0 (hs.call hy); refine V1001 ?_; rintro v1_11 w1_11 ⟨rfl, hy⟩; replace hs := U0 (hs.call hy); refine V1002 ?_; rintro v1_16 w1_16 ⟨rfl, hy⟩; replace hs := U0 (hs.call hy); refine V1005 ?_; refine Z.cond rfl (fun h => absurd h (by simp [hf2])) (fun hc1 => ?_); refine V862 ?_; refine V374 ?_; refine V2 ?_; refine Z.ZO.call rfl rfl (by rfl) rfl rfl call11 rfl (mx_new_ok A ls.length cc ls a b c d up _ (hx.st (Jn hs)) rfl J5 hc h.1 h.2) ?_; rintro v3_1 w3_1 ⟨g, gb, gr, C, kc, sv, so, rfl, hy⟩; replace hs := U0 (hs.call hy); replace hs := St.rot (L1 := maE g gb gr C kc sv so (newM ls a b c d up) ++ [_]) hs; replace hs := U6 hs; refine V126 ?_; refine Z.only [1, 2, 3, 4, 9] rfl ?_; refine V858 ?_; refine V374 ?_; refine V2 ?_; refine Z.ZO.call rfl rfl (by rfl) rfl rfl call12 rfl (rx_new_ok A ls.length cc ls a b c d up _ (hx.st (Jn hs)) rfl h) ?_; rintro v4_1 w4_1 ⟨Ra, ca, Rb, cb, rfl, hy⟩; replace hs := U0 (hs.call hy); have hbll : (newM ls a b c d up).b.l = ls := rfl; have hbb : (newB ls).b = (newM ls a b c d up).b.b := rfl; rw [hbb] at hs; generalize newM ls a b c d up = m at hm hs hbll ⊢; refine V625 ?_; refine V144 ?_; clear hs; intro g11 w11 hs; simp only [meC]; refine V860 ?_; clear hs; intro ws hs; replace hs := U1 hs; replace hs := U2 hs; refine V1011 ?_; refine Z.cond rfl (fun h => absurd h J16) (fun hc5 => ?_)
  refine V427 ?_; replace hs : St w [] _ (bM g11 Ra ca Rb cb m :: rL Ra ca ls :: rL C kc ls :: ([rI Rb cb ls m] ++ maE g gb gr C kc sv so m)) := St.sel4 (E := maE g gb gr C kc sv so m) (St.setup29 hs); refine V18 ?_; refine V857 ?_; refine Z.only [1, 2, 3, 9, 11, 13] rfl ?_; refine V861 ?_; refine loopk (ι := Nat × Hd9 × List Ent) [1, 2, 3, 11] rfl (fun x => [(9, [], .pointer (some ⟨x.2.1.g, 0, none⟩)), (13, [], .int .i64 (x.1 : Int))]) (fun x wr => (x.1 ≤ k ∧ rI x.2.1.B x.2.1.d ls (run9 m (l.take x.1)) ∈ x.2.2) ∧ St w [] wr (bM g11 Ra ca x.2.1.B x.2.1.d (run9 m (l.take x.1)) :: rL Ra ca ls :: rL C kc ls :: (x.2.2 ++ maE x.2.1.g x.2.1.gb x.2.1.gr C kc x.2.1.sv x.2.1.so (run9 m (l.take x.1))))) (fun x => k - x.1) (0, ⟨g, gb, gr, sv, so, Rb, cb⟩, [rI Rb cb ls m]) J11 ⟨⟨Nat.zero_le _, List.mem_singleton_self _⟩, hs⟩ ?_; clear hs; rintro ⟨i, ⟨gi, gbi, gri, svi, soi, B1, d1⟩, Lb⟩ w9 ⟨⟨hi, hB1⟩, hs⟩; refine Z.only [1, 2, 3, 9, 11, 13] rfl ?_
  (try dsimp only at hs)
  dsimp only at hi hB1 hs; refine V217 ?_; refine V353 ?_; refine V1 ?_; refine Z.only [1, 2, 3, 9, 11, 13, 55] rfl ?_; refine V6 ?_; refine Z.cond rfl (fun hc8 => ?_) (fun hc8 => ?_)
  · (try simp at hc8)
    obtain ⟨bk, off, rfl, hxx⟩ := hq.sx.some (by rw [flat_len ac9_len]; omega); obtain ⟨y, hyk⟩ : ∃ f, l[i]? = some f := ⟨_, List.getElem?_eq_getElem J5⟩; have hgy := hg y (List.mem_of_getElem? hyk); have hfy := hf0.2 y (List.mem_of_getElem? hyk); have hnx := run9_next (m := m) hyk; have hmo := run9_ok hm (l.take i); have hml : (run9 m (l.take i)).b.l = ls := (run9_l m _).trans hbll; generalize run9 m (l.take i) = mk at hs hB1 hnx hmo hml; refine V150 ?_; refine drawL [bM g11 Ra ca B1 d1 mk] (fun j => !([8, 9, 10, 11, 12].contains j)) mixed hs ?_; clear hs; intro wd10 hs; refine Z.tX 0 [0, 6, 7, 8, 9, 10, 11, 12] rfl rfl rfl (by rfl) J3 (Jk hs) (Z.Yd.pure rfl) ?_; refine Z.tX 1 [1, 6, 7, 8, 9, 10, 11, 12] rfl rfl rfl (by rfl) J3 (Jk hs) (Z.Yd.loadA _ rfl isAgg41 (fun _ => cellsB (cs := meC Ra ca B1 d1 mk) J0) J50) ?_; refine Z.tX 2 [2, 4, 5, 6, 7, 8, 9, 10, 11, 12] rfl rfl rfl (by rfl) J3 (Jk hs) (Z.Yd.pure rfl) ?_; refine Z.tX 3 [3, 4, 5, 6, 7, 8, 9, 10, 11, 12] rfl rfl rfl (by rfl) J3 (Jk hs) (Z.Yd.pure rfl) ?_; refine Z.tX 4 [4, 5, 6, 7, 8, 9, 10, 11, 12] rfl rfl rfl (by rfl) J3 (Jk hs) (Z.Yd.elem rfl rfl underlying27 sizeOf50 (fun hG => ⟨J2, J2⟩)) ?_; refine Z.tX 5 [5, 6, 7, 8, 9, 10, 11, 12] rfl rfl rfl (by rfl) J3 (Jk hs) (Z.Yd.loadA _ rfl isAgg50 (fun _ => cellsX y.cells hxx ac9_len hyk rfl) (by exact sizeOf50)) ?_; replace hs := St.rot (L1 := [_, _, _] ++ Lb) hs; refine V262 ?_
    refine Z.ZO.call rfl rfl (by rfl) rfl rfl call14 rfl (act29y gi gbi gri C kc svi soi Ra ca B1 d1 mk y _ hs.lend hmo J1000 (by rw [hml]; exact Z.row_lentv hs (j := 1) rfl) (row_lentm hs (List.mem_append_right _ hB1)) (hgy.sx hfy hs)) ?_; rintro v10_6 w10_6 ⟨gn, gbn, grn, svn, son, Bn, dn, Ln, rfl, hz, hN⟩; have hml2 := (acV_l mk y).1; have hmo2 := acV_ok hmo y; rw [hml] at hN; generalize acV mk y = mk2 at hnx hz hN hml2 hmo2 ⊢; have hone := meC_one Ra ca Bn dn mk2; replace hs := St.back0 (A := [_, _, _]) (hs.regain hz); replace hs := U6 hs; replace hB1 := new_lev hN hB1; refine Z.tk (Dn := fun j => !([8, 9, 10, 11, 12].contains j)) (i := 6) (fun _ => (Jk hs)) ?_; refine Z.tX 7 [7, 8, 9, 10, 11, 12] rfl rfl rfl (by rfl) J3 (Jk hs) (Z.Yd.pure rfl) ?_; refine Z.tY 8 [8, 11, 12] rfl rfl rfl (by rfl) J3 (Z.Yd.pure rfl) ?_; refine Z.tY 9 [9, 12] rfl rfl rfl (by rfl) J3 (Z.Yd.pure rfl) ?_; refine Z.tY 10 [10] rfl rfl rfl (by rfl) J3 (Z.Yd.pure rfl) ?_; refine Z.tY 11 [11, 12] rfl rfl rfl (by rfl) J3 (Z.Yd.pure rfl) ?_; refine Z.tn 12 rfl rfl J3 rfl trivial ?_; refine V7 ?_; clear hs; intro ws hs; replace hs := U1 hs; replace hs := U2 hs; refine Z.tk (Dn := fun j => !([8, 9, 10, 11, 12].contains j)) (i := 12) (fun h => absurd h J12) ?_; refine V40 ?_; refine Z.only [1, 2, 3, 9, 11, 13] rfl ?_; refine V302 ?_; refine Z.only [1, 2, 3, 9, 11, 13] rfl ?_; refine V6 ?_
    exact again (i + 1, ⟨gn, gbn, grn, svn, son, Bn, dn⟩, Ln ++ Lb) J21 ⟨⟨by simp only; omega, by simp only; rw [hnx]; exact hB1⟩, by simp only; rw [hnx]; exact hs⟩ J22
  (try simp at hc8)
  have hmo0 := run9_ok hm (l.take i); have hml0 : (run9 m (l.take i)).b.l = ls := (run9_l m _).trans hbll; generalize run9 m (l.take i) = m0 at hs hB1 hmo0 hml0; have hone := meC_one Ra ca B1 d1 m0; refine V10 ?_; refine V210 ?_; refine cutt (ι := Hd9 × Nat) [2, 3, 9, 11] rfl (fun z => [(14, [], .pointer (some ⟨z.1.g, 0, none⟩)), (15, [], .pointer (some ⟨z.2, 0, none⟩))]) (fun z wr => rI z.1.B z.1.d ls m0 ∈ Lb ∧ St w [] wr (bM g11 Ra ca B1 d1 m0 :: bM z.2 Ra ca z.1.B z.1.d m0 :: rL Ra ca ls :: rL C kc ls :: (Lb ++ (maE gi gbi gri C kc svi soi m0 ++ maE z.1.g z.1.gb z.1.gr C kc z.1.sv z.1.so m0)))) ?_ ?_
  · skip
    refine drawL [bM g11 Ra ca B1 d1 m0] (fun _ => true) mixed hs ?_; clear hs; intro wd11 hs; refine V234 ?_; refine Z.t 2 rfl rfl rfl (by rfl) J3 (Jk hs) (Z.Yd.loadA _ rfl isAgg41 (fun _ => cellsB (cs := meC Ra ca B1 d1 m0) J0) J50) ?_; refine fork2 1 3 rfl rfl rfl J3 rfl rfl trivial trivial ?_ ?_
    · skip
      refine V1010 ?_; rintro v11_1 w11_1 ⟨g2, gb2, gr2, sv2, so2, rfl, hy⟩; replace hs := U0 (hs.call hy); replace hs := St.rot (L1 := maE g2 gb2 gr2 C kc sv2 so2 m0) hs; replace hs := U6 hs; refine V1013 ?_; refine Z.tn 3 rfl rfl J3 rfl trivial ?_; refine V144 ?_; clear hs; intro g15 w15 hs; refine Z.tk (Dn := fun _ => true) (i := 3) (fun _ => (Jk hs)) ?_; refine Z.tb [4] J3 rfl (Jk hs) rfl ?_; refine V434 ?_; clear hs; intro ws hs; replace hs := U1 hs; replace hs := U2 hs; refine V52 ?_; refine V40 ?_; refine Z.only [2, 3, 9, 11, 14, 15] rfl ?_; refine V6 ?_; exact meet (⟨g2, gb2, gr2, sv2, so2, B1, d1⟩, g15) J21 ⟨hB1, St.cp29 hs⟩
    skip
    refine V144 ?_; clear hs; intro g15 w15 hs; refine Z.tk (Dn := fun _ => true) (i := 3) (fun _ => (Jk hs)) ?_; refine Z.tn 1 rfl rfl J3 rfl trivial ?_; refine V1010 ?_; rintro v11_1 w11_1 ⟨g2, gb2, gr2, sv2, so2, rfl, hy⟩; replace hs := U0 (hs.call hy); replace hs := St.rot (L1 := maE g2 gb2 gr2 C kc sv2 so2 m0) hs; replace hs := U6 hs; refine V1013 ?_; refine Z.tb [4] J3 rfl (Jk hs) rfl ?_; refine V434 ?_; clear hs; intro ws hs; replace hs := U1 hs; replace hs := U2 hs; refine V52 ?_; refine V40 ?_; refine Z.only [2, 3, 9, 11, 14, 15] rfl ?_; refine V6 ?_; exact meet (⟨g2, gb2, gr2, sv2, so2, B1, d1⟩, g15) J21 ⟨hB1, St.cp29 hs⟩
  clear hs; rintro ⟨⟨go, gbo, gro, svo, soo, B2, d2⟩, gq⟩ w11 ⟨hB2, hs⟩; refine Z.only [2, 3, 9, 11, 14, 15] rfl ?_
  (try dsimp only at hs)
  refine V141 ?_; refine V121 ?_; refine Z.only [2, 3, 9, 11, 14, 15, 16] rfl ?_; refine V861 ?_; refine loopk (ι := Nat × Hd9 × Hd9 × List Ent) [2, 3, 11, 15] rfl (fun x => [(9, [], .pointer (some ⟨x.2.1.g, 0, none⟩)), (14, [], .pointer (some ⟨x.2.2.1.g, 0, none⟩)), (16, [], .int .i64 (x.1 : Int))]) (fun x wr => (x.1 ≤ max ko kt ∧ rI x.2.1.B x.2.1.d ls (run9 m0 (one.take x.1)) ∈ x.2.2.2 ∧ rI x.2.2.1.B x.2.2.1.d ls (run9 m0 (two.take x.1)) ∈ x.2.2.2) ∧ St w [] wr (bM g11 Ra ca x.2.1.B x.2.1.d (run9 m0 (one.take x.1)) :: bM gq Ra ca x.2.2.1.B x.2.2.1.d (run9 m0 (two.take x.1)) :: rL Ra ca ls :: rL C kc ls :: (x.2.2.2 ++ (maE x.2.1.g x.2.1.gb x.2.1.gr C kc x.2.1.sv x.2.1.so (run9 m0 (one.take x.1)) ++ maE x.2.2.1.g x.2.2.1.gb x.2.2.1.gr C kc x.2.2.1.sv x.2.2.1.so (run9 m0 (two.take x.1)))))) (fun x => max ko kt - x.1) (0, ⟨gi, gbi, gri, svi, soi, B1, d1⟩, ⟨go, gbo, gro, svo, soo, B2, d2⟩, Lb) J13 ⟨⟨Nat.zero_le _, hB1, hB2⟩, hs⟩ ?_; clear hs; rintro ⟨i, ⟨gi, gbi, gri, svi, soi, B1, d1⟩, ⟨go, gbo, gro, svo, soo, B2, d2⟩, Lb⟩ w14 ⟨⟨hi, hB1, hB2⟩, hs⟩; refine Z.only [2, 3, 9, 11, 14, 15, 16] rfl ?_
  (try dsimp only at hs)
  dsimp only at hi hB1 hB2 hs; refine V217 ?_; refine V353 ?_; refine V859 ?_; refine V353 ?_; refine Z.l rfl rfl (by rfl) (keepS hs) (Z.Yd.max rfl rfl) ?_; refine V1 ?_; refine Z.only [2, 3, 9, 11, 14, 15, 16, 78] rfl ?_; refine V6 ?_; refine Z.cond rfl (fun hc13 => ?_) (fun hc13 => ?_)
  · (try simp at hc13)
    have hil : i < max ko kt := by omega
    refine V150 ?_; refine V151 ?_; refine Z.only [2, 3, 9, 11, 14, 15, 16, 17, 18] rfl ?_; refine V30 ?_; refine V11 ?_; refine V353 ?_; refine V1 ?_; refine Z.only [2, 3, 9, 11, 14, 15, 16, 17, 18, 84] rfl ?_; refine V6 ?_; refine cutt (ι := Hd9 × List Ent) [2, 3, 11, 14, 15, 16, 18] rfl (fun x => [(9, [], .pointer (some ⟨x.1.g, 0, none⟩)), (17, [], .bool true)]) (fun x wr => (rI x.1.B x.1.d ls (run9 m0 (one.take (i + 1))) ∈ x.2 ∧ rI B2 d2 ls (run9 m0 (two.take i)) ∈ x.2) ∧ St w [] wr (bM g11 Ra ca x.1.B x.1.d (run9 m0 (one.take (i + 1))) :: bM gq Ra ca B2 d2 (run9 m0 (two.take i)) :: rL Ra ca ls :: rL C kc ls :: (x.2 ++ (maE x.1.g x.1.gb x.1.gr C kc x.1.sv x.1.so (run9 m0 (one.take (i + 1))) ++ maE go gbo gro C kc svo soo (run9 m0 (two.take i)))))) ?_ ?_
    · skip
      refine Z.cond rfl (fun hc16 => ?_) (fun hc16 => ?_)
      · (try simp at hc16)
        obtain ⟨bk, off, rfl, hxx⟩ := hq1.sx.some (by rw [flat_len ac9_len]; omega); obtain ⟨y, hyk⟩ : ∃ f, one[i]? = some f := ⟨_, List.getElem?_eq_getElem J5⟩; have hgy := hg1 y (List.mem_of_getElem? hyk); have hfy := hf1.2 y (List.mem_of_getElem? hyk); have hnx := run9_next (m := m0) hyk; have hmo := run9_ok hmo0 (one.take i); have hml : (run9 m0 (one.take i)).b.l = ls := (run9_l m0 _).trans hml0; generalize run9 m0 (one.take i) = mk at hs hB1 hnx hmo hml; refine drawL [bM g11 Ra ca B1 d1 mk] (fun j => !([8, 9, 10, 11, 12, 13].contains j)) mixed hs ?_; clear hs; intro wd17 hs; refine Z.tX 0 [0, 6, 7, 8, 9, 10, 11, 12, 13] rfl rfl rfl (by rfl) J3 (Jk hs) (Z.Yd.pure rfl) ?_; refine Z.tX 1 [1, 6, 7, 8, 9, 10, 11, 12, 13] rfl rfl rfl (by rfl) J3 (Jk hs) (Z.Yd.loadA _ rfl isAgg41 (fun _ => cellsB (cs := meC Ra ca B1 d1 mk) J0) J50) ?_; refine V1003 ?_; replace hs := St.pull (A := [_, _, _, _]) (Q := Lb) hs; refine V262 ?_; refine Z.ZO.call rfl rfl (by rfl) rfl rfl call14 rfl (act29y gi gbi gri C kc svi soi Ra ca B1 d1 mk y _ hs.lend hmo (by rw [hml]; exact Z.row_lentv hs (j := 3) rfl) J1000 (row_lentm hs (List.mem_append_right _ (List.mem_append_left _ hB1))) (hgy.sx hfy hs)) ?_; rintro v17_6 w17_6 ⟨gn, gbn, grn, svn, son, Bn, dn, Ln, rfl, hz, hN⟩; have hml2 := (acV_l mk y).1; have hmo2 := acV_ok hmo y; rw [hml] at hN; generalize acV mk y = mk2 at hnx hz hN hml2 hmo2 ⊢; have hone := meC_one Ra ca Bn dn mk2; replace hs := St.back1 (A := [_, _, _, _]) (hs.regain hz)
        replace hs := U6 hs; have hB3 := new_lev hN hB1; refine V1004 ?_; clear hs; intro ws hs; replace hs := U1 hs; replace hs := U2 hs; refine V1006 ?_; exact meet (⟨gn, gbn, grn, svn, son, Bn, dn⟩, Ln ++ Lb) J77 ⟨⟨by simp only; rw [hnx]; exact hB3, List.mem_append_right _ hB2⟩, by simp only; rw [hnx]; exact hs⟩
      (try simp at hc16)
      refine V361 ?_; exact meet (⟨gi, gbi, gri, svi, soi, B1, d1⟩, Lb) J77 (by rw [run9_end J5]; exact ⟨⟨hB1, hB2⟩, hs⟩)
    clear hs; rintro ⟨⟨gj, gbj, grj, svj, soj, B4, d4⟩, Lc⟩ w16 ⟨⟨hB4, hB5⟩, hs⟩; refine Z.only [2, 3, 9, 11, 14, 15, 16, 17, 18] rfl ?_
    (try dsimp only at hs)
    refine V217 ?_; refine V353 ?_; refine V1 ?_; refine Z.only [2, 3, 9, 11, 14, 15, 16, 17, 18, 99] rfl ?_; refine V6 ?_; refine cutt (ι := Hd9 × List Ent) [2, 3, 9, 11, 15, 16, 17] rfl (fun x => [(14, [], .pointer (some ⟨x.1.g, 0, none⟩)), (18, [], .bool true)]) (fun x wr => (rI B4 d4 ls (run9 m0 (one.take (i + 1))) ∈ x.2 ∧ rI x.1.B x.1.d ls (run9 m0 (two.take (i + 1))) ∈ x.2) ∧ St w [] wr (bM g11 Ra ca B4 d4 (run9 m0 (one.take (i + 1))) :: bM gq Ra ca x.1.B x.1.d (run9 m0 (two.take (i + 1))) :: rL Ra ca ls :: rL C kc ls :: (x.2 ++ (maE gj gbj grj C kc svj soj (run9 m0 (one.take (i + 1))) ++ maE x.1.g x.1.gb x.1.gr C kc x.1.sv x.1.so (run9 m0 (two.take (i + 1))))))) ?_ ?_
    · skip
      refine Z.cond rfl (fun hc18 => ?_) (fun hc18 => ?_)
      · (try simp at hc18)
        obtain ⟨bk, off, rfl, hxx⟩ := hq2.sx.some (by rw [flat_len ac9_len]; omega); obtain ⟨y, hyk⟩ : ∃ f, two[i]? = some f := ⟨_, List.getElem?_eq_getElem J5⟩; have hgy := hg2 y (List.mem_of_getElem? hyk); have hfy := hf2.2 y (List.mem_of_getElem? hyk); have hnx := run9_next (m := m0) hyk; have hmo := run9_ok hmo0 (two.take i); have hml : (run9 m0 (two.take i)).b.l = ls := (run9_l m0 _).trans hml0; generalize run9 m0 (two.take i) = mk at hs hB5 hnx hmo hml; refine drawL [bM gq Ra ca B2 d2 mk] (fun j => !([8, 9, 10, 11, 12, 13].contains j)) mixed hs ?_; clear hs; intro wd19 hs; refine Z.tX 0 [0, 6, 7, 8, 9, 10, 11, 12, 13] rfl rfl rfl (by rfl) J3 (Jk hs) (Z.Yd.pure rfl) ?_; refine Z.tX 1 [1, 6, 7, 8, 9, 10, 11, 12, 13] rfl rfl rfl (by rfl) J3 (Jk hs) (Z.Yd.loadA _ rfl isAgg41 (fun _ => cellsB (cs := meC Ra ca B2 d2 mk) J0) J50) ?_; refine V1003 ?_; replace hs := St.lend2 (A := [_, _, _, _]) (Q := Lc) hs; refine V262 ?_; refine Z.ZO.call rfl rfl (by rfl) rfl rfl call14 rfl (act29y go gbo gro C kc svo soo Ra ca B2 d2 mk y _ hs.lend hmo (by rw [hml]; exact Z.row_lentv hs (j := 3) rfl) J1000 (row_lentm hs (List.mem_append_right _ (List.mem_append_left _ hB5))) (hgy.sx hfy hs)) ?_; rintro v19_6 w19_6 ⟨gn, gbn, grn, svn, son, Bn, dn, Ln, rfl, hz, hN⟩; have hml2 := (acV_l mk y).1; have hmo2 := acV_ok hmo y; rw [hml] at hN; generalize acV mk y = mk2 at hnx hz hN hml2 hmo2 ⊢; have hone := meC_one Ra ca Bn dn mk2; replace hs := St.back2 (A := [_, _, _, _]) (hs.regain hz)
        replace hs := U6 hs; have hB3 := new_lev hN hB5; refine V1004 ?_; clear hs; intro ws hs; replace hs := U1 hs; replace hs := U2 hs; refine V1006 ?_; exact meet (⟨gn, gbn, grn, svn, son, Bn, dn⟩, Ln ++ Lc) J77 ⟨⟨List.mem_append_right _ hB4, by simp only; rw [hnx]; exact hB3⟩, by simp only; rw [hnx]; exact hs⟩
      (try simp at hc18)
      refine V361 ?_; exact meet (⟨go, gbo, gro, svo, soo, B2, d2⟩, Lc) J77 (by rw [run9_end (l := two) J5]; exact ⟨⟨hB4, hB5⟩, hs⟩)
    clear hs; rintro ⟨⟨gp, gbp, grp, svp, sop, B6, d6⟩, Ld⟩ w18 ⟨⟨hB6, hB7⟩, hs⟩; refine Z.only [2, 3, 9, 11, 14, 15, 16, 17, 18] rfl ?_
    (try dsimp only at hs)
    refine V0 ?_; refine V476 ?_; refine V857 ?_; refine Z.only [2, 3, 9, 11, 14, 15, 16, 116] rfl ?_; refine V6 ?_; refine Z.cond rfl (fun h => absurd h J16) (fun hc20 => ?_); refine V331 ?_; refine Z.only [2, 3, 9, 11, 14, 15, 16] rfl ?_; refine V6 ?_; exact again (i + 1, ⟨gj, gbj, grj, svj, soj, B4, d4⟩, ⟨gp, gbp, grp, svp, sop, B6, d6⟩, Ld) J14 ⟨⟨by simp only; omega, hB6, hB7⟩, hs⟩ J22
  (try simp at hc13)
  refine V181 ?_; refine V2 ?_; refine V379 ?_; rintro v22_0 w22_0 ⟨rfl, hy⟩; replace hs := U0 (hs.call hy); refine V1 ?_; refine Z.only [8] rfl ?_; refine V422 ?_; exact ⟨_, rfl, rfl, Jn hs⟩
theorem macCopies_rd (cs0 : Array Value) (a1 : Option Addr) (len1 cap1 : Nat) (a2 : Option Addr) (len2 cap2 : Nat) (a3 : Option Addr) (len3 cap3 : Nat) (w : World) (z0 : Rd Tryz.prog w 26 (Value.agg cs0).cells.toList) (z1 : Rd Tryz.prog w 27 (Value.slice a1 len1 cap1).cells.toList) (z2 : Rd Tryz.prog w 27 (Value.slice a2 len2 cap2).cells.toList) (z3 : Rd Tryz.prog w 27 (Value.slice a3 len3 cap3).cells.toList) :
    Calls Tryz.prog 7 #[.agg cs0, .slice a1 len1 cap1, .slice a2 len2 cap2, .slice a3 len3 cap3] w fun e w' => e = .returned (.bool true) ∧ Below w.heap.size w w' := by
  obtain ⟨A, n, k, a, b, c, d, up, ls, hr, h1, h2, h3, h4⟩ := rd_cfg29 z0; have e : cs0 = #[.slice A n k, .int .i64 a, .int .i64 b, .int .i64 c, .int .i64 d, .bool up] := by
    have : cs0.toList = [.slice A n k, .int .i64 a, .int .i64 b, .int .i64 c, .int .i64 d, .bool up] := by simpa [Value.cells] using hr
    exact Array.toList_inj.1 this
  rw [e]; obtain ⟨l, k1, k2, k3, k4⟩ := rd_acts29 (show Rd Tryz.prog w 27 [.slice a1 len1 cap1] by simpa [Value.cells] using z1); obtain ⟨one, i1, i2, i3, i4⟩ := rd_acts29 (show Rd Tryz.prog w 27 [.slice a2 len2 cap2] by simpa [Value.cells] using z2); obtain ⟨two, j1, j2, j3, j4⟩ := rd_acts29 (show Rd Tryz.prog w 27 [.slice a3 len3 cap3] by simpa [Value.cells] using z3); have key : Calls Tryz.prog 7 #[cfgV A n k a b c d up, .slice a1 len1 cap1, .slice a2 len2 cap2, .slice a3 len3 cap3] w (Ret fun v w' => v = .bool true ∧ St w [] w' []) :=
    copies_all A n k a b c d up a1 len1 cap1 a2 len2 cap2 a3 len3 cap3 ls l one two w h4 h1 h2 J5 k4 k1 k2 k3 i4 i1 i2 i3 j4 j1 j2 j3
  refine key.mono ?_; rintro e w' ⟨v, rfl, rfl, h⟩; exact ⟨rfl, h.below⟩
end Go.Proofs.YtbojkoiopkaciaaGreat
