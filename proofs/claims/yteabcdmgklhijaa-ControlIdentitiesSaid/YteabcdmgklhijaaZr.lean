/- Regions that draw, the forms of code, functions. -/
import Derived.Test.YteabcdmgklhijaaZq
namespace Go.Proofs.Yteabcdmgklhijaa
open Go.RowKit
set_option linter.unusedVariables false
set_option linter.unusedSimpArgs false
namespace Z
variable {N : Nat} {E : Env} {D : List Deferred} {a : Act} {G : Guards} {F : Fence} {n : Nat} {P : Program} {S : World → Prop} {ops : Array Oper} {o : Oper} {v : Value}
variable {K : Act → World → Prop} {Q : Exit → Act → World → Prop} {w w' w0 : World} {rest : List Oper} {M : List Nat} {L : List SX.Ent}
variable {x y : Code} {c : Operand} {T T' : TypeId} {d id id' : Nat} {Dn : Nat → Bool}

/-! ## the forms of code -/
theorem seq (h : Z N E D (x.wpIn F n P (Exit.then (y.wpIn F n P Q) Q)) w) : Z N E D ((Code.seq x y).wpIn F n P Q) w := fun a ha => wpIn_seq (h a ha)
theorem skip (h : Z N E D (Q .normal) w) : Z N E D (Code.skip.wpIn F n P Q) w := fun a ha => wpIn_skip (h a ha)
theorem label {l : Nat} (h : Z N E D (Q .normal) w) : Z N E D ((Code.label l).wpIn F n P Q) w := fun a ha => wpIn_label (h a ha)
theorem exit (h : Z N E D (Q (.exit id)) w) : Z N E D ((Code.exit id).wpIn F n P Q) w := fun a ha => wpIn_exit (h a ha)
theorem goto {l : Nat} (h : Z N E D (Q (.goto l)) w) : Z N E D ((Code.goto l).wpIn F n P Q) w := fun a ha => wpIn_goto (h a ha)
theorem ret (h : Z N E D (Q .ret) w) : Z N E D (Code.ret.wpIn F n P Q) w := fun a ha => wpIn_ret (h a ha)
theorem region {l : List Oper} (h : Z N E D (wpListIn F n P l.toArray Q l) w) : Z N E D ((Code.region id l.toArray false).wpIn F n P Q) w := fun a ha => wpIn_region_lit (h a ha)
theorem lnil (h : Z N E D (Q .normal) w) : Z N E D (wpListIn F n P ops Q []) w := h
theorem block (h : Z N E D (x.wpIn F n P (Exit.inBlock id Q)) w) : Z N E D ((Code.block id x).wpIn F n P Q) w := fun a ha => wpIn_block (h a ha)
theorem cond {t : Bool} (hc : ev E [] c = some (.bool t)) (ht : t = true → Z N E D (x.wpIn F n P Q) w) (hf : t = false → Z N E D (y.wpIn F n P Q) w) : Z N E D ((Code.cond c x y).wpIn F n P Q) w :=
  fun a ha => wpIn_cond_split (ev0 ha hc) (fun h => ht h a ha) (fun h => hf h a ha)

/-! ## what comes behind -/
theorem nthen (h : Z N E D K w) : Z N E D (Exit.then K Q .normal) w := h
theorem xthen (h : Z N E D (Q (.exit id)) w) : Z N E D (Exit.then K Q (.exit id)) w := h
theorem rthen (h : Z N E D (Q .ret) w) : Z N E D (Exit.then K Q .ret) w := h
theorem gthen {l : Nat} (h : Z N E D (Q (.goto l)) w) : Z N E D (Exit.then K Q (.goto l)) w := h
theorem pthen {ch : List PanicEntry} (h : Z N E D (Q (.panic ch)) w) : Z N E D (Exit.then K Q (.panic ch)) w := h
theorem nblock (h : Z N E D (Q .normal) w) : Z N E D (Exit.inBlock id Q .normal) w := h
theorem rblock (h : Z N E D (Q .ret) w) : Z N E D (Exit.inBlock id Q .ret) w := h
theorem gblock {l : Nat} (h : Z N E D (Q (.goto l)) w) : Z N E D (Exit.inBlock id Q (.goto l)) w := h
theorem pblock {ch : List PanicEntry} (h : Z N E D (Q (.panic ch)) w) : Z N E D (Exit.inBlock id Q (.panic ch)) w := h
theorem xblock (h : Z N E D (Q .normal) w) : Z N E D (Exit.inBlock id Q (.exit id)) w := fun a ha => by
  show (if id = id then Q .normal a w else Q (.exit id) a w)
  rw [if_pos rfl]
  exact h a ha
theorem xblockn (hb : Nat.beq id' id = false) (h : Z N E D (Q (.exit id')) w) : Z N E D (Exit.inBlock id Q (.exit id')) w := fun a ha => by
  show (if id' = id then Q .normal a w else Q (.exit id') a w)
  rw [if_neg (fun e => by rw [e, Nat.beq_refl] at hb; cases hb)]
  exact h a ha

/-! ## loops and cuts -/
theorem Sub.append {E0 : Env} : ∀ {E' : Env}, Sub E' E → Sub E0 E → Sub (E' ++ E0) E
  | [], _, h => h
  | _ :: _, h, h0 => ⟨h.1, Sub.append h.2 h0⟩
theorem least {p : Nat → Prop} : ∀ {m : Nat}, p m → ∃ m, p m ∧ ∀ k, p k → m ≤ k := by
  intro m
  induction m using Nat.strongRecOn with
  | _ m ih =>
    intro hm
    by_cases h : ∃ k, k < m ∧ p k
    · obtain ⟨k, h1, h2⟩ := h
      exact ih k h1 h2
    · refine ⟨m, hm, fun k hk => ?_⟩
      by_cases hkm : k < m
      · exact absurd ⟨k, hkm, hk⟩ h
      · omega
theorem loop {ι : Type} (env : ι → Env) (I : ι → World → Prop) (μ : ι → Nat) (i0 : ι) (hE : Sub (env i0) E) (h0 : I i0 w)
    (round : ∀ i w, I i w → Z N (env i) D (x.wpIn F n P (Exit.then (fun a' w' => ∃ j, Holds a' N (env j) D ∧ I j w' ∧ μ j < μ i) Q)) w) : Z N E D ((Code.loop x).wpIn F n P Q) w := by
  classical
  intro a ha
  have hleast : ∀ a w, (∃ i, Holds a N (env i) D ∧ I i w) → ∃ m, (∃ i, Holds a N (env i) D ∧ I i w ∧ μ i = m) ∧ ∀ k, (∃ i, Holds a N (env i) D ∧ I i w ∧ μ i = k) → m ≤ k :=
    fun a w ⟨i, h1, h2⟩ => least (p := fun m => ∃ i, Holds a N (env i) D ∧ I i w ∧ μ i = m) ⟨i, h1, h2, rfl⟩
  let μ' : Act → World → Nat := fun a w => if h : ∃ i, Holds a N (env i) D ∧ I i w then Classical.choose (hleast a w h) else 0
  refine wpIn_loop (fun a w => ∃ i, Holds a N (env i) D ∧ I i w) μ' ⟨i0, ha.sub hE, h0⟩ fun a w hi => ?_
  obtain ⟨⟨i, h1, h2, h3⟩, -⟩ := Classical.choose_spec (hleast a w hi)
  have hm : μ' a w = μ i := by simp only [μ', dif_pos hi]; exact h3.symm
  refine wpIn_mono (round i w h2 a h1) fun e a' w' hq => ?_
  cases e with
  | normal =>
    obtain ⟨j, hj1, hj2, hj3⟩ := hq
    refine ⟨⟨j, hj1, hj2⟩, ?_⟩
    have hex' : ∃ i, Holds a' N (env i) D ∧ I i w' := ⟨j, hj1, hj2⟩
    have : μ' a' w' ≤ μ j := by simp only [μ', dif_pos hex']; exact (Classical.choose_spec (hleast a' w' hex')).2 _ ⟨j, hj1, hj2, rfl⟩
    rw [hm]
    omega
  | exit _ => exact hq
  | goto _ => exact hq
  | ret => exact hq
  | panic _ => exact hq
  | outgrown => exact hq
theorem again {ι : Type} {env : ι → Env} {I : ι → World → Prop} {μ : ι → Nat} {i : ι} (j : ι) (hE : Sub (env j) E) (hI : I j w) (hμ : μ j < μ i) :
    Z N E D (fun a' w' => ∃ j, Holds a' N (env j) D ∧ I j w' ∧ μ j < μ i) w := fun a ha => ⟨j, ha.sub hE, hI, hμ⟩

/-- the entries of is stay as they are -/
theorem loopk {ι : Type} (is : List Nat) {E0 : Env} (hk : keepO E is [] = some E0) (envm : ι → Env) (I : ι → World → Prop) (μ : ι → Nat) (i0 : ι) (hE : Sub (envm i0) E) (h0 : I i0 w)
    (round : ∀ i w, I i w → Z N (envm i ++ E0) D (x.wpIn F n P (Exit.then (fun a' w' => ∃ j, Holds a' N (envm j ++ E0) D ∧ I j w' ∧ μ j < μ i) Q)) w) : Z N E D ((Code.loop x).wpIn F n P Q) w :=
  loop (fun i => envm i ++ E0) I μ i0 (Sub.append hE (keepO_sub E is [] trivial hk)) h0 round
/-- what stands between two pieces of code -/
theorem cut {ι : Type} (env : ι → Env) (I : ι → World → Prop) (first : Z N E D (x.wpIn F n P (Exit.then (fun a' w' => ∃ j, Holds a' N (env j) D ∧ I j w') Q)) w)
    (rest : ∀ j w, I j w → Z N (env j) D (y.wpIn F n P Q) w) : Z N E D ((Code.seq x y).wpIn F n P Q) w := fun a ha => wpIn_seq (wpIn_mono (first a ha) fun e a' w' hq => by
  cases e with
  | normal =>
    obtain ⟨j, h1, h2⟩ := hq
    exact rest j w' h2 a' h1
  | exit _ => exact hq
  | goto _ => exact hq
  | ret => exact hq
  | panic _ => exact hq
  | outgrown => exact hq)
theorem cutk {ι : Type} (is : List Nat) {E0 : Env} (hk : keepO E is [] = some E0) (envm : ι → Env) (I : ι → World → Prop) (first : Z N E D (x.wpIn F n P (Exit.then (fun a' w' => ∃ j, Holds a' N (envm j ++ E0) D ∧ I j w') Q)) w)
    (rest : ∀ j w, I j w → Z N (envm j ++ E0) D (y.wpIn F n P Q) w) : Z N E D ((Code.seq x y).wpIn F n P Q) w := cut (fun j => envm j ++ E0) I first rest
/-- the same, where what comes behind stands already aside -/
theorem cutt {ι : Type} (is : List Nat) {E0 : Env} (hk : keepO E is [] = some E0) (envm : ι → Env) (I : ι → World → Prop) (first : Z N E D (x.wpIn F n P (Exit.then (fun a' w' => ∃ j, Holds a' N (envm j ++ E0) D ∧ I j w') Q)) w)
    (rest : ∀ j w, I j w → Z N (envm j ++ E0) D K w) : Z N E D (x.wpIn F n P (Exit.then K Q)) w := fun a ha => wpIn_mono (first a ha) fun e a' w' hq => by
  cases e with
  | normal =>
    obtain ⟨j, h1, h2⟩ := hq
    exact rest j w' h2 a' h1
  | exit _ => exact hq
  | goto _ => exact hq
  | ret => exact hq
  | panic _ => exact hq
  | outgrown => exact hq
theorem meet {ι : Type} {env : ι → Env} {I : ι → World → Prop} (j : ι) (hE : Sub (env j) E) (hI : I j w) : Z N E D (fun a' w' => ∃ j, Holds a' N (env j) D ∧ I j w') w := fun a ha => ⟨j, ha.sub hE, hI⟩

theorem lookv {i : Nat} {gs : Guards} {u v : Value} (h : look i E = some (gs, u)) (e : u = v) : look i E = some (gs, v) := by rw [h, e]
/-- what the guards say, in plain words -/
def gho (E : Env) : Guards → Prop → Option Prop
  | [], acc => some acc
  | (s, b) :: G, acc => match look s E with
    | some (_, .bool t) => gho E G (t = b ∧ acc)
    | _ => gho E G acc
theorem gh0 {E : Env} {P : Prop} : ∀ {G : Guards} {acc : Prop}, gho E G acc = some P → GH E G → acc → P
  | [], acc, h, _, ha => by
    have := Option.some.inj h
    subst this
    exact ha
  | (s, b) :: G, acc, h, hG, ha => by
    obtain ⟨h1, h2⟩ := hG
    unfold gho at h
    simp only at h1
    split at h
    · rename_i gs t hl
      rw [hl] at h1
      exact gh0 h h2 ⟨h1, ha⟩
    · exact gh0 h h2 ha
theorem gh {E : Env} {P : Prop} {G : Guards} (h : gho E G True = some P) (hG : GH E G) : P := gh0 h hG trivial

/-! ## functions -/
def envOf (i : Nat) : List Value → Env
  | [] => []
  | v :: vs => (i, [], v) :: envOf (i + 1) vs
theorem look_envOf : ∀ {vs : List Value} {i j : Nat} {gs : Guards} {v : Value}, look j (envOf i vs) = some (gs, v) → gs = [] ∧ ∃ m, j = i + m ∧ vs[m]? = some v
  | u :: vs, i, j, gs, v, h => by
    unfold envOf look at h
    cases hb : Nat.beq j i with
    | true =>
      simp only [hb, cond_true, Option.some.injEq, Prod.mk.injEq] at h
      exact ⟨h.1.symm, 0, Nat.eq_of_beq_eq_true hb, by simp [h.2]⟩
    | false =>
      simp only [hb, cond_false] at h
      obtain ⟨h1, m, h2, h3⟩ := look_envOf h
      exact ⟨h1, m + 1, by omega, by simpa using h3⟩
def envO (i : Nat) : List Value → Env → Option Env
  | [], acc => some acc
  | v :: vs, acc => envO (i + 1) vs ((i, [], v) :: acc)
theorem envO_sub {E' : Env} : ∀ (vs : List Value) (i : Nat) (acc E : Env), Sub acc E → (∀ m v, vs[m]? = some v → look (i + m) E = some ([], v)) → envO i vs acc = some E' → Sub E' E
  | [], i, acc, E, h, _, e => by
    obtain rfl := Option.some.inj e
    exact h
  | v :: vs, i, acc, E, h, hv, e => by
    unfold envO at e
    exact envO_sub vs (i + 1) ((i, [], v) :: acc) E ⟨hv 0 v rfl, h⟩ (fun m u hu => by have := hv (m + 1) u (by simpa using hu); rwa [show i + 1 + m = i + (m + 1) from by omega]) e
theorem envOf_get : ∀ (vs : List Value) (i m : Nat) (v : Value), vs[m]? = some v → look (i + m) (envOf i vs) = some ([], v)
  | u :: vs, i, 0, v, h => by
    obtain rfl : u = v := by simpa using h
    unfold envOf look
    simp
  | u :: vs, i, m + 1, v, h => by
    unfold envOf look
    have hb : Nat.beq (i + (m + 1)) i = false := by
      cases hb : Nat.beq (i + (m + 1)) i with
      | false => rfl
      | true => have := Nat.eq_of_beq_eq_true hb; omega
    rw [hb]
    have := envOf_get vs (i + 1) m v (by simpa using h)
    rw [show i + (m + 1) = i + 1 + m from by omega]
    exact this
theorem holds_enter0 {args : Array Value} (hN : Nat.ble args.size N = true) (he : envOf 0 args.toList = E) : Holds { tmps := args ++ Array.replicate (N - args.size) undef, defers := [] } N E [] := by
  have hle := Nat.le_of_ble_eq_true hN
  refine ⟨by simp; omega, fun i gs v hl => ?_, rfl⟩
  rw [← he] at hl
  obtain ⟨rfl, m, h1, h2⟩ := look_envOf hl
  rw [if_pos gnil]
  have hm : m < args.size := by
    have := (List.getElem?_eq_some_iff.1 h2).1
    simpa using this
  have : i = m := by omega
  subst this
  rw [Array.getElem?_append_left hm, ← Array.getElem?_toList]
  exact h2
theorem holds_enter {args : Array Value} (hN : Nat.ble args.size N = true) (he : envO 0 args.toList [] = some E) : Holds { tmps := args ++ Array.replicate (N - args.size) undef, defers := [] } N E [] :=
  (holds_enter0 hN rfl).sub (envO_sub _ 0 [] _ trivial (fun m v h => envOf_get _ 0 m v h) he)
theorem enter {f : FuncId} {fn : Func} {c : Code} {args : Array Value} {R : Ending → World → Prop} (hf : P.funcs[f]? = some fn) (hb : fn.body = some c) (hn : fn.ntmps = N) (hN : Nat.ble args.size N = true) (he : envO 0 args.toList [] = some E)
    (h : Z N E [] (c.wpIn Fence.wide 0 P (bodyPost P fn R)) w) : Calls P f args w R := SX.enter hf hb (by rw [hn]; exact h _ (holds_enter hN he))
theorem enterM {f : FuncId} {fn : Func} {c : Code} {args : Array Value} {R : Ending → World → Prop} (hf : P.funcs[f]? = some fn) (hb : fn.body = some c) (hn : fn.ntmps = N) (hN : Nat.ble args.size N = true) (he : envO 0 args.toList [] = some E)
    (h : Z N E [] (c.wpIn Fence.wide 0 P (bodyPostM Fence.wide 0 P fn R)) w) : Calls P f args w R := SX.enterM hf hb (by rw [hn]; exact h _ (holds_enter hN he))

/-- the results -/
def RV (P : Program) (w : World) (E : Env) : List ResultVar → List Value → Prop
  | [], [] => True
  | .tmp t :: rs, v :: vs => ev E [] (.tmp t) = some v ∧ RV P w E rs vs
  | .cell t T :: rs, v :: vs => (∃ q, ev E [] (.tmp t) = some (.pointer (some q)) ∧ (loadVar T q).run P w = .ok v w) ∧ RV P w E rs vs
  | _, _ => False
def pack : List Value → Value
  | [v] => v
  | vs => .tuple vs.toArray
def resF (tmps : Array Value) : ResultVar → Sem Value
  | .tmp t => Pure.pure (tmps.getD t undef)
  | .cell a t => do loadVar t (← asAddr (tmps.getD a undef))
theorem results_eq {fn : Func} {tmps : Array Value} : results fn tmps = (do let vs ← fn.results.mapM (resF tmps); Pure.pure (if h : vs.size = 1 then vs[0] else .tuple vs)) := rfl
theorem RV.run (ha : Holds a N E D) : ∀ {rs : List ResultVar} {vs : List Value}, RV P w E rs vs → (rs.mapM (resF a.tmps)).run P w = .ok vs w
  | [], [], _ => by simp
  | .tmp t :: rs, v :: vs, h => by
    have h1 := ev0 ha h.1
    simp only [Act.eval] at h1
    rw [List.mapM_cons, Sem.run_bind]
    simp only [resF, h1, Sem.run_pure, Result.andThen_ok, Sem.run_bind, RV.run ha h.2]
  | .cell t T :: rs, v :: vs, h => by
    obtain ⟨q, h1, h2⟩ := h.1
    have h1 := ev0 ha h1
    simp only [Act.eval] at h1
    rw [List.mapM_cons, Sem.run_bind]
    simp only [resF, h1, asAddr, Sem.run_pure, Result.andThen_ok, Sem.run_bind, h2, RV.run ha h.2]
  | [], _ :: _, h => h.elim
  | .tmp _ :: _, [], h => h.elim
  | .cell _ _ :: _, [], h => h.elim
theorem results_run {fn : Func} (ha : Holds a N E D) {vs : List Value} (h : RV P w E fn.results.toList vs) (hv : pack vs = v) : (results fn a.tmps).run P w = .ok v w := by
  have h1 := RV.run ha h
  rw [results_eq, Sem.run_bind]
  have h2 : ∀ (f : ResultVar → Sem Value), (fn.results.mapM f) = (do let l ← fn.results.toList.mapM f; Pure.pure l.toArray) := fun f => by
    rw [Array.mapM_eq_mapM_toList]
    simp [Functor.map]
  rw [h2, Sem.run_bind, h1]
  simp only [Result.andThen_ok, Sem.run_pure]
  subst hv
  cases vs with
  | nil => rfl
  | cons v vs => cases vs with
    | nil => rfl
    | cons u us => rfl
theorem out {fn : Func} {R : Ending → World → Prop} {vs : List Value} (h : RV P w E fn.results.toList vs) (hv : pack vs = v) (hR : R (.returned v) w) : Z N E [] (bodyPost P fn R .ret) w :=
  fun a ha => ⟨ha.defers, v, results_run ha h hv, hR⟩
theorem outn {fn : Func} {R : Ending → World → Prop} {vs : List Value} (h : RV P w E fn.results.toList vs) (hv : pack vs = v) (hR : R (.returned v) w) : Z N E [] (bodyPost P fn R .normal) w :=
  fun a ha => ⟨ha.defers, v, results_run ha h hv, hR⟩
theorem out1 {fn : Func} {R : Ending → World → Prop} {v : Value} (h : RV P w E fn.results.toList [v]) (hR : R (.returned v) w) : Z N E [] (bodyPost P fn R .ret) w := out h rfl hR
theorem out1n {fn : Func} {R : Ending → World → Prop} {v : Value} (h : RV P w E fn.results.toList [v]) (hR : R (.returned v) w) : Z N E [] (bodyPost P fn R .normal) w := outn h rfl hR
theorem out0 {fn : Func} {R : Ending → World → Prop} (h : RV P w E fn.results.toList []) (hR : R (.returned (.tuple #[])) w) : Z N E [] (bodyPost P fn R .ret) w := out h rfl hR
theorem out0n {fn : Func} {R : Ending → World → Prop} (h : RV P w E fn.results.toList []) (hR : R (.returned (.tuple #[])) w) : Z N E [] (bodyPost P fn R .normal) w := outn h rfl hR
theorem out2 {fn : Func} {R : Ending → World → Prop} {v u : Value} (h : RV P w E fn.results.toList [v, u]) (hR : R (.returned (.tuple #[v, u])) w) : Z N E [] (bodyPost P fn R .ret) w := out h rfl hR
theorem out2n {fn : Func} {R : Ending → World → Prop} {v u : Value} (h : RV P w E fn.results.toList [v, u]) (hR : R (.returned (.tuple #[v, u])) w) : Z N E [] (bodyPost P fn R .normal) w := outn h rfl hR
theorem out3 {fn : Func} {R : Ending → World → Prop} {v u x : Value} (h : RV P w E fn.results.toList [v, u, x]) (hR : R (.returned (.tuple #[v, u, x])) w) : Z N E [] (bodyPost P fn R .ret) w := out h rfl hR
theorem out3n {fn : Func} {R : Ending → World → Prop} {v u x : Value} (h : RV P w E fn.results.toList [v, u, x]) (hR : R (.returned (.tuple #[v, u, x])) w) : Z N E [] (bodyPost P fn R .normal) w := outn h rfl hR
theorem outp {fn : Func} {R : Ending → World → Prop} {ch : List PanicEntry} (hR : R (.panicked ch) w) : Z N E [] (bodyPost P fn R (.panic ch)) w := fun a ha => ⟨ha.defers, hR⟩

/-! ## regions that draw their order -/
def flags (m : Nat) : List Nat → Array Bool
  | [] => Array.replicate m false
  | i :: is => (flags m is).setIfInBounds i true
/-- what is left of the region, when those of done have come -/
def wpD (F : Fence) (n : Nat) (P : Program) (ops : Array Oper) (Q : Exit → Act → World → Prop) (S : World → Prop) (Dn : Nat → Bool) (done : List Nat) : Act → World → Prop :=
  SX.wpAnyS F n P .any ops (SX.NP Q) S Dn (ops.size - done.length) (flags ops.size done)

theorem draw {S : World → Prop} (Dn : Nat → Bool) (hm : P.follows .mixedOrders = true) (h : Z N E D (wpD F n P ops Q S Dn []) w.drew) : Z N E D ((Code.region id ops true).wpIn F n P Q) w :=
  fun a ha => SX.region_begin S Dn hm (h a ha)
/-- nothing but what the list L tells is leant on -/
theorem drawK (Dn : Nat → Bool) (hm : P.follows .mixedOrders = true) (hs : SX.St w0 M w L) (h : ∀ w', SX.St w0 M w' L → Z N E D (wpD F n P ops Q (SX.Keep w0 M L) Dn []) w') : Z N E D ((Code.region id ops true).wpIn F n P Q) w :=
  draw Dn hm (h _ hs.drew)

def left (ops : Array Oper) (done : List Nat) : Bool := Nat.blt done.length ops.size
theorem fuel_eq {done : List Nat} {i : Nat} (h : left ops done = true) : ops.size - done.length = (ops.size - (i :: done).length) + 1 := by
  have := Nat.le_of_ble_eq_true h
  simp only [List.length_cons]
  omega

theorem t [Wide F] {done : List Nat} (i : Nat) (hi : ops[i]? = some o) (hG : effG ops E o = some G) (hd : o.dst = some d) (hc : chk N d E G = true) (hm : (left ops done && SX.mayTake .any ops Dn (flags ops.size done) i) = true)
    (hS : S w) (y : Yd P N D S E G o.op v) (h : Z N ((d, G, v) :: E) D (wpD F n P ops Q S Dn (i :: done)) w) : Z N E D (wpD F n P ops Q S Dn done) w := by
  classical
  simp only [Bool.and_eq_true] at hm
  intro a ha
  obtain ⟨h1, h2, h3⟩ := chk_spec hc
  have hw := wanted_of (ops := ops) (o := o) ha hG
  unfold wpD
  rw [fuel_eq (i := i) hm.1]
  have hmt := hm.2
  have hQ : ∀ u : Value, ∀ c a w, SX.NP Q (.panic c) (a.put o.dst u) w → SX.NP Q (.panic c) a w := fun u c a w h => h.elim
  by_cases hg : gholds a G
  · exact SX.take i (fun f => Wide.fn f) hi hmt (hQ v) (hw.2 hg) (fun w hS => y.2 a ha hg o rfl w hS) hS (by
      rw [hd]
      exact h _ (ha.put h1 h2 h3 (by rw [if_pos hg])))
  · exact SX.takeNot i (fun f => Wide.fn f) hi hmt (hQ undef) (by
      cases hb : Region.wanted o (yielded ops a.tmps) with
      | false => rfl
      | true => exact absurd (hw.1 hb) hg) hS (by
      rw [hd]
      exact h _ (ha.put h1 h2 h3 (by rw [if_neg hg])))

/-- pure operations, one behind the other -/
def bulkT (ops : Array Oper) (N : Nat) : List Nat → Env → Option Env
  | [], E => some E
  | i :: is, E => match ops[i]? with
    | some o => match effG ops E o with
      | some G => match o.dst with
        | some d => bif chk N d E G then (match pure1 E G o.op with
          | some v => bulkT ops N is ((d, G, v) :: E)
          | none => none) else none
        | none => none
      | none => none
    | none => none
def takes (ops : Array Oper) (Dn : Nat → Bool) : List Nat → List Nat → Bool
  | [], _ => true
  | i :: is, done => left ops done && SX.mayTake .any ops Dn (flags ops.size done) i && takes ops Dn is (i :: done)
def adv : List Nat → List Nat → List Nat
  | [], done => done
  | i :: is, done => adv is (i :: done)
theorem tb [Wide F] {E' : Env} {done' : List Nat} : ∀ (is : List Nat) {done : List Nat} {E : Env} (hm : takes ops Dn is done = true) (hb : bulkT ops N is E = some E') (hS : S w) (hd : adv is done = done')
    (h : Z N E' D (wpD F n P ops Q S Dn done') w), Z N E D (wpD F n P ops Q S Dn done) w
  | [], done, E, hm, hb, hS, hd, h => by
    obtain rfl := Option.some.inj hb
    subst hd
    exact h
  | i :: is, done, E, hm, hb, hS, hd, h => by
    unfold takes at hm
    simp only [Bool.and_eq_true] at hm
    unfold bulkT at hb
    cases hi : ops[i]? with
    | none => rw [hi] at hb; cases hb
    | some o =>
      rw [hi] at hb
      simp only at hb
      cases hG : effG ops E o with
      | none => rw [hG] at hb; cases hb
      | some G =>
        rw [hG] at hb
        simp only at hb
        cases hdd : o.dst with
        | none => rw [hdd] at hb; cases hb
        | some d =>
          rw [hdd] at hb
          simp only at hb
          cases hc : chk N d E G with
          | false => rw [hc] at hb; cases hb
          | true =>
            rw [hc] at hb
            simp only [cond_true] at hb
            cases hp : pure1 E G o.op with
            | none => rw [hp] at hb; cases hb
            | some v =>
              rw [hp] at hb
              exact t i hi hG hdd hc (by rw [hm.1.1, hm.1.2]; rfl) hS (Yd.pure hp) (tb is hm.2 hb hS hd h)
/-- number i alone may come -/
theorem tn [Wide F] {done : List Nat} (i : Nat) (hi : ops[i]? = some o) (hm : left ops done = true) (hr : Region.ready .any ops (flags ops.size done) = [i]) (hG : effG ops E o = some G) (ht : GTrue E G)
    (h : ZO F n P N E D o (fun a' w' => (Dn i = true → S w') ∧ wpD F n P ops Q S Dn (i :: done) a' w') (SX.NP Q) w) : Z N E D (wpD F n P ops Q S Dn done) w := by
  intro a ha
  unfold wpD
  rw [fuel_eq (i := i) hm]
  exact SX.next i hi hr ((wanted_of (ops := ops) (o := o) ha hG).2 (ht.holds ha)) (h a ha)
theorem tk {done : List Nat} {i : Nat} (hS : Dn i = true → S w) (h : Z N E D (wpD F n P ops Q S Dn (i :: done)) w) : Z N E D (fun a' w' => (Dn i = true → S w') ∧ wpD F n P ops Q S Dn (i :: done) a' w') w := fun a ha => ⟨hS, h a ha⟩
theorem td {done : List Nat} (hm : Nat.beq (ops.size - done.length) 0 = true) (hr : Region.ready .any ops (flags ops.size done) = []) (h : Z N E D (Q .normal) w) : Z N E D (wpD F n P ops Q S Dn done) w := by
  intro a ha
  unfold wpD
  rw [Nat.eq_of_beq_eq_true hm]
  exact SX.done hr (h a ha)
end Z
end Go.Proofs.Yteabcdmgklhijaa
