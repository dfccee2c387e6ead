/- The laws of arithmetic, addresses, loads; what changes memory; calls. -/
import Derived.Test.YteabcdmgklhijaaZo
namespace Go.Proofs.Yteabcdmgklhijaa
open Go.RowKit
set_option linter.unusedVariables false
set_option linter.unusedSimpArgs false
namespace Z
variable {N : Nat} {E : Env} {D : List Deferred} {a : Act} {G : Guards} {F : Fence} {n : Nat} {P : Program} {S : World → Prop} {ops : Array Oper} {o : Oper} {v : Value}
variable {K : Act → World → Prop} {Q : Exit → Act → World → Prop} {w w0 : World} {rest : List Oper} {M : List Nat} {L : List SX.Ent}
variable {x y : Operand} {k k' : IntKind} {p q c : Int} {T T' : TypeId}

theorem wi64 {n : Int} (h : -9223372036854775808 ≤ n ∧ n ≤ 9223372036854775807) : IntKind.i64.wrap n = n := by rw [IntKind.wrap_i64]; omega
theorem wrap_in {k : IntKind} {n : Int} (h : k.min ≤ n) (h' : n ≤ k.max) : k.wrap n = n := by
  cases k <;> simp only [IntKind.wrap, IntKind.min, IntKind.max, IntKind.signed, IntKind.bits] at * <;> simp at * <;> omega
theorem wu64 {n : Int} (h : 0 ≤ n ∧ n ≤ 18446744073709551615) : IntKind.u64.wrap n = n := wrap_in h.1 h.2
theorem wu8 {n : Int} (h : 0 ≤ n ∧ n ≤ 255) : IntKind.u8.wrap n = n := wrap_in h.1 h.2
theorem wu16 {n : Int} (h : 0 ≤ n ∧ n ≤ 65535) : IntKind.u16.wrap n = n := wrap_in h.1 h.2
theorem wu32 {n : Int} (h : 0 ≤ n ∧ n ≤ 4294967295) : IntKind.u32.wrap n = n := wrap_in h.1 h.2
theorem wi32 {n : Int} (h : -2147483648 ≤ n ∧ n ≤ 2147483647) : IntKind.i32.wrap n = n := wrap_in h.1 h.2

theorem tmodn {p q : Int} (h : 0 ≤ p) : p.tmod q = p % q := Int.tmod_eq_emod_of_nonneg h
theorem qi64 {p q : Int} (h : 0 ≤ p ∧ p ≤ 9223372036854775807) (hq : 0 < q) : IntKind.i64.wrap (p.tdiv q) = p / q := by
  have h1 : p.tdiv q = p / q := Int.tdiv_eq_ediv_of_nonneg h.1
  have h2 : 0 ≤ p / q := Int.ediv_nonneg h.1 (by omega)
  have h3 : p / q ≤ p := Int.ediv_le_self _ h.1
  rw [h1]
  exact wi64 ⟨by omega, by omega⟩
theorem qu64 {p q : Int} (h : 0 ≤ p ∧ p ≤ 18446744073709551615) (hq : 0 < q) : IntKind.u64.wrap (p.tdiv q) = p / q := by
  have h1 : p.tdiv q = p / q := Int.tdiv_eq_ediv_of_nonneg h.1
  have h2 : 0 ≤ p / q := Int.ediv_nonneg h.1 (by omega)
  have h3 : p / q ≤ p := Int.ediv_le_self _ h.1
  rw [h1]
  exact wu64 ⟨by omega, by omega⟩
theorem shrl {p q c : Int} {k : IntKind} (h : (2 : Int) ^ (min q.toNat k.bits) = c) : p.fdiv (2 ^ (min q.toNat k.bits)) = p / c := by
  rw [h, Int.fdiv_eq_ediv_of_nonneg]
  rw [← h]
  exact Int.le_of_lt (Int.pow_pos (by decide))
theorem shll {p q c d : Int} {k : IntKind} (h : (2 : Int) ^ (min q.toNat k.bits) = c) (hw : k.wrap (p * c) = d) : k.wrap (p * 2 ^ (min q.toNat k.bits)) = d := by rw [h, hw]
theorem Yd.bin {op : BinOp} {u u' : Value} (hx : ev E G x = some u) (hy : ev E G y = some u') (hr : GH E G → ∀ w, (do eqGuard op T x y u u'; binOp op T u u' : Sem Value).run P w = .ok v w) : Yd P N D S E G (.binOp op T x y T') v := by
  refine ⟨fun c e => (by cases e), fun a ha hg o ho w _ => ?_⟩
  have h1 := ev_eval ha hg hx
  have h2 := ev_eval ha hg hy
  have h3 := hr (GH_of' ha hg) w
  simp only [execOp, ho, h1, h2]
  rw [Sem.run_bind, h3]
  rfl

theorem Yd.arith {op : BinOp} (hx : ev E G x = some (.int k p)) (hy : ev E G y = some (.int k' q)) (ho : op ≠ .eql) (hn : op ≠ .neq) (hr : GH E G → ∀ w, (binOp op T (.int k p) (.int k' q)).run P w = .ok v w) :
    Yd P N D S E G (.binOp op T x y T') v :=
  Yd.bin hx hy fun hG w => by
    have : eqGuard op T x y (.int k p) (.int k' q) = Pure.pure () := by cases op <;> first | rfl | exact absurd rfl ho | exact absurd rfl hn
    rw [this]
    exact hr hG w

theorem Yd.add (hx : ev E G x = some (.int k p)) (hy : ev E G y = some (.int k q)) (hw : GH E G → k.wrap (p + q) = c) : Yd P N D S E G (.binOp .add T x y T') (.int k c) :=
  Yd.arith hx hy (by simp) (by simp) fun hG w => by simp [binOp, Op.intArith, hw hG]
theorem Yd.sub (hx : ev E G x = some (.int k p)) (hy : ev E G y = some (.int k q)) (hw : GH E G → k.wrap (p - q) = c) : Yd P N D S E G (.binOp .sub T x y T') (.int k c) :=
  Yd.arith hx hy (by simp) (by simp) fun hG w => by simp [binOp, Op.intArith, hw hG]
theorem Yd.mul (hx : ev E G x = some (.int k p)) (hy : ev E G y = some (.int k q)) (hw : GH E G → k.wrap (p * q) = c) : Yd P N D S E G (.binOp .mul T x y T') (.int k c) :=
  Yd.arith hx hy (by simp) (by simp) fun hG w => by simp [binOp, Op.intArith, hw hG]
theorem Yd.quo (hx : ev E G x = some (.int k p)) (hy : ev E G y = some (.int k q)) (hq : GH E G → q ≠ 0) (hw : GH E G → k.wrap (p.tdiv q) = c) : Yd P N D S E G (.binOp .quo T x y T') (.int k c) :=
  Yd.arith hx hy (by simp) (by simp) fun hG w => by simp [binOp, Op.intDiv, hw hG, hq hG]
theorem Yd.rem (hx : ev E G x = some (.int k p)) (hy : ev E G y = some (.int k q)) (hq : GH E G → q ≠ 0) (hw : GH E G → p.tmod q = c) : Yd P N D S E G (.binOp .rem T x y T') (.int k c) :=
  Yd.arith hx hy (by simp) (by simp) fun hG w => by simp [binOp, Op.intDiv, hw hG, hq hG]
theorem Yd.shl (hx : ev E G x = some (.int k p)) (hy : ev E G y = some (.int k' q)) (hq : GH E G → 0 ≤ q) (hw : GH E G → k.wrap (p * 2 ^ (min q.toNat k.bits)) = c) : Yd P N D S E G (.binOp .shl T x y T') (.int k c) :=
  Yd.arith hx hy (by simp) (by simp) fun hG w => by
    have := hq hG
    simp [binOp, Op.shift, hw hG, show ¬ q < 0 from by omega]
theorem Yd.shr (hx : ev E G x = some (.int k p)) (hy : ev E G y = some (.int k' q)) (hq : GH E G → 0 ≤ q) (hw : GH E G → p.fdiv (2 ^ (min q.toNat k.bits)) = c) : Yd P N D S E G (.binOp .shr T x y T') (.int k c) :=
  Yd.arith hx hy (by simp) (by simp) fun hG w => by
    have := hq hG
    simp [binOp, Op.shift, hw hG, show ¬ q < 0 from by omega]
theorem Yd.and (hx : ev E G x = some (.int k p)) (hy : ev E G y = some (.int k q)) (hw : GH E G → k.wrap ((BitVec.ofInt k.bits p &&& BitVec.ofInt k.bits q).toNat) = c) : Yd P N D S E G (.binOp .and T x y T') (.int k c) :=
  Yd.arith hx hy (by simp) (by simp) fun hG w => by simp [binOp, Op.intBits, ← hw hG]
theorem Yd.or (hx : ev E G x = some (.int k p)) (hy : ev E G y = some (.int k q)) (hw : GH E G → k.wrap ((BitVec.ofInt k.bits p ||| BitVec.ofInt k.bits q).toNat) = c) : Yd P N D S E G (.binOp .or T x y T') (.int k c) :=
  Yd.arith hx hy (by simp) (by simp) fun hG w => by simp [binOp, Op.intBits, ← hw hG]
theorem Yd.xor (hx : ev E G x = some (.int k p)) (hy : ev E G y = some (.int k q)) (hw : GH E G → k.wrap ((BitVec.ofInt k.bits p ^^^ BitVec.ofInt k.bits q).toNat) = c) : Yd P N D S E G (.binOp .xor T x y T') (.int k c) :=
  Yd.arith hx hy (by simp) (by simp) fun hG w => by simp [binOp, Op.intBits, ← hw hG]

theorem Yd.neg (hx : ev E G x = some (.int k p)) (hw : GH E G → k.wrap (0 - p) = c) : Yd P N D S E G (.unOp .neg T x) (.int k c) := by
  refine ⟨fun c e => (by cases e), fun a ha hg o ho w _ => ?_⟩
  have h1 := ev_eval ha hg hx
  have h2 := hw (GH_of' ha hg)
  rw [Int.zero_sub] at h2
  simp [execOp, ho, h1, Op.unary, Op.intArith, h2]

/-- an operation of one operand -/
theorem Yd.conv {u : Value} (hx : ev E G x = some u) (hr : GH E G → ∀ w, (Go.convert T T' u).run P w = .ok v w) : Yd P N D S E G (.convert T T' x) v := by
  refine ⟨fun c e => (by cases e), fun a ha hg o ho w _ => ?_⟩
  have h1 := ev_eval ha hg hx
  have h3 := hr (GH_of' ha hg) w
  simp [execOp, ho, h1, h3]
theorem Yd.convI (hx : ev E G x = some (.int k p)) (hs : ∃ d, P.underlying T = some d) (ht : P.underlying T' = some (.int k')) (hw : GH E G → k'.wrap p = c) : Yd P N D S E G (.convert T T' x) (.int k' c) :=
  Yd.conv hx fun hG w => by
    obtain ⟨d, hd⟩ := hs
    have h1 := hw hG
    simp only [Go.convert, Sem.run_bind, run_underlying hd, run_underlying ht, Result.andThen_ok]
    cases d <;> simp [Conv.intToInt, h1]

theorem Yd.field {f : Nat} {u : Value} (hx : ev E G x = some u) (hr : ∀ w, (Instr.field T u f).run P w = .ok v w) : Yd P N D S E G (.field T x f) v := by
  refine ⟨fun c e => (by cases e), fun a ha hg o ho w _ => ?_⟩
  simp [execOp, ho, ev_eval ha hg hx, hr]
theorem Yd.iface {u : Value} (hx : ev E G x = some u) (hr : ∀ w, (Instr.makeInterface T u).run P w = .ok v w) : Yd P N D S E G (.makeInterface T x) v := by
  refine ⟨fun c e => (by cases e), fun a ha hg o ho w _ => ?_⟩
  simp [execOp, ho, ev_eval ha hg hx, hr]
theorem Yd.index {u u' : Value} (hx : ev E G x = some u) (hy : ev E G y = some u') (hr : GH E G → ∀ w, (Instr.index T u u').run P w = .ok v w) : Yd P N D S E G (.index T x y) v := by
  refine ⟨fun c e => (by cases e), fun a ha hg o ho w _ => ?_⟩
  have := hr (GH_of' ha hg) w
  simp [execOp, ho, ev_eval ha hg hx, ev_eval ha hg hy, this]
def okNil : Value → Bool
  | .pointer none | .nilIface | .nilFunc => false
  | .func (.method _) _ _ => false
  | _ => true
theorem Yd.nilc {u : Value} (hx : ev E G x = some u) (hu : okNil u = true) : Yd P N D S E G (.nilCheck x) u := by
  refine ⟨fun c e => (by cases e), fun a ha hg o ho w _ => ?_⟩
  have h1 := ev_eval ha hg hx
  cases u with
  | pointer q => cases q <;> first | (simp [okNil] at hu; done) | simp [execOp, ho, h1]
  | func f c d => cases f <;> first | (simp [okNil] at hu; done) | simp [execOp, ho, h1]
  | _ => first | (simp [okNil] at hu; done) | simp [execOp, ho, h1]

def evp (E : Env) (G : Guards) : List (Nat × Operand) → Option (List (Nat × Value))
  | [] => some []
  | (i, x) :: xs => match ev E G x with
    | some v => match evp E G xs with
      | some vs => some ((i, v) :: vs)
      | none => none
    | none => none
theorem evp_eval (h : Holds a N E D) (hg : gholds a G) : ∀ {xs : List (Nat × Operand)} {vs : List (Nat × Value)}, evp E G xs = some vs → (xs.map fun (i, x) => (i, a.eval x)) = vs
  | [], vs, e => by obtain rfl : [] = vs := by simpa [evp] using e
                    rfl
  | (i, x) :: xs, vs, e => by
    simp only [evp] at e
    cases h1 : ev E G x with
    | none => rw [h1] at e; cases e
    | some v =>
      rw [h1] at e
      simp only at e
      cases h2 : evp E G xs with
      | none => rw [h2] at e; cases e
      | some us =>
        rw [h2] at e
        obtain rfl : (i, v) :: us = vs := by simpa using e
        rw [List.map_cons, evp_eval h hg h2]
        show (i, a.eval x) :: us = _
        rw [ev_eval h hg h1]
theorem evp_arr (h : Holds a N E D) (hg : gholds a G) {xs : Array (Nat × Operand)} {vs : List (Nat × Value)} (e : evp E G xs.toList = some vs) : (xs.map fun (i, x) => (i, a.eval x)) = vs.toArray := by
  rw [← evp_eval h hg e]
  apply Array.ext'
  simp

theorem Yd.build {ps : Array (Nat × Operand)} {us : List (Nat × Value)} (hx : evp E G ps.toList = some us) (hr : ∀ w, (Instr.build T us.toArray).run P w = .ok v w) : Yd P N D S E G (.build T ps) v := by
  refine ⟨fun c e => (by cases e), fun a ha hg o ho w _ => ?_⟩
  have := evp_arr ha hg hx
  simp only [execOp, ho, this]
  rw [Sem.run_bind, hr]
  rfl

theorem add_none (b off m : Nat) : (⟨b, off, none⟩ : Addr).add m = ⟨b, off + m, none⟩ := by
  unfold Addr.add
  split
  · rename_i h; rw [h]; rfl
  · rfl

/-- the address of element j of a slice -/
theorem Yd.elem {b off nn cc s : Nat} {j : Int} {e : TypeId} (hx : ev E G x = some (.slice (some ⟨b, off, none⟩) nn cc)) (hi : ev E G y = some (.int k j)) (ht : P.underlying T = some (.slice e))
    (hs : ∀ w, (sizeOf e).run P w = .ok s w) (hb : GH E G → 0 ≤ j ∧ j < nn) : Yd P N D S E G (.indexAddr T x y) (.pointer (some ⟨b, off + j.toNat * s, none⟩)) := by
  refine ⟨fun c e => (by cases e), fun a ha hg o ho w _ => ?_⟩
  have h1 := ev_eval ha hg hx
  have h2 := ev_eval ha hg hi
  have h3 := hb (GH_of' ha hg)
  simp [execOp, ho, h1, h2, Instr.indexAt, asIntOf, run_underlying ht, h3, hs, add_none]

/-- the address of element j of an array -/
theorem Yd.elemA {b off nn s : Nat} {j : Int} {e : TypeId} (hx : ev E G x = some (.pointer (some ⟨b, off, none⟩))) (hi : ev E G y = some (.int k j)) (ht : P.underlying T = some (.array nn e))
    (hs : ∀ w, (sizeOf e).run P w = .ok s w) (hb : GH E G → 0 ≤ j ∧ j < nn) : Yd P N D S E G (.indexAddr T x y) (.pointer (some ⟨b, off + j.toNat * s, none⟩)) := by
  refine ⟨fun c e => (by cases e), fun a ha hg o ho w _ => ?_⟩
  have h1 := ev_eval ha hg hx
  have h2 := ev_eval ha hg hi
  have h3 := hb (GH_of' ha hg)
  simp [execOp, ho, h1, h2, Instr.indexAt, Instr.sureAddr, asIntOf, run_underlying ht, h3, hs, add_none]

/-- field f of type T lies at cell m -/
def fieldB (P : Program) (T : TypeId) (f m : Nat) : Bool :=
  match P.underlying T with
  | some (.struct fs) => match fs[f]? with
    | some fd => Nat.beq fd.offset m && (match P.info? fd.type with
      | some i => !Nat.beq i.size 0
      | none => false)
    | none => false
  | _ => false

theorem Yd.fieldA {b off f m : Nat} (hx : ev E G x = some (.pointer (some ⟨b, off, none⟩))) (hf : fieldB P T f m = true) : Yd P N D S E G (.fieldAddr T x f) (.pointer (some ⟨b, off + m, none⟩)) := by
  refine ⟨fun c e => (by cases e), fun a ha hg o ho w _ => ?_⟩
  have h1 := ev_eval ha hg hx
  unfold fieldB at hf
  split at hf
  · rename_i fs hu
    split at hf
    · rename_i fd hfd
      simp only [Bool.and_eq_true] at hf
      have h2 := Nat.eq_of_beq_eq_true hf.1
      cases hq : P.info? fd.type with
      | none => simp [hq] at hf
      | some i =>
        have hsz : i.size ≠ 0 := fun e => by
          have := hf.2
          rw [hq] at this
          simp [e] at this
        simp [execOp, ho, h1, Instr.fieldAt, run_underlying hu, hfd, Instr.sureAddr, fieldPlace, sizeOf, typeInfo, hq, hsz, h2, add_none]
    · cases hf
  · cases hf

theorem Yd.lenS {A : Option Addr} {nn cc : Nat} {e : TypeId} (hx : ev E G x = some (.slice A nn cc)) (ht : P.underlying T = some (.slice e)) : Yd P N D S E G (.call { callee := .builtin .len, args := #[x], argTypes := #[T] }) (.int .i64 nn) := by
  refine ⟨fun c e => (by cases e), fun a ha hg o ho w _ => ?_⟩
  have h1 := ev_eval ha hg hx
  simp [execOp, ho, h1, resolve, invoke, builtin, Builtin.len_, run_underlying ht, goInt]
theorem Yd.capS {A : Option Addr} {nn cc : Nat} {e : TypeId} (hx : ev E G x = some (.slice A nn cc)) (ht : P.underlying T = some (.slice e)) : Yd P N D S E G (.call { callee := .builtin .cap, args := #[x], argTypes := #[T] }) (.int .i64 cc) := by
  refine ⟨fun c e => (by cases e), fun a ha hg o ho w _ => ?_⟩
  have h1 := ev_eval ha hg hx
  simp [execOp, ho, h1, resolve, invoke, builtin, Builtin.cap_, run_underlying ht, goInt]
/-- a builtin that reckons -/
theorem Yd.bi {b : Builtin} {as : Array Operand} {ts : Array TypeId} {us : List Value} (hx : evs E G as.toList = some us) (hr : ∀ w cs, (builtin b ts T cs us.toArray).run P w = .ok (.value v) w) (hT : o.type = T) (ho : o.op = .call { callee := .builtin b, args := as, argTypes := ts }) :
    ∀ a, Holds a N E D → gholds a G → ∀ w, (execOp a.eval o).run P w = .ok (.value v) w := fun a ha hg w => by
  have h1 := evs_eval ha hg hx
  have h2 : as.map a.eval = us.toArray := by rw [← h1]; apply Array.ext'; simp
  simp [execOp, ho, resolve, invoke, h2, hT, hr]

def mins (k : IntKind) : Int → List Value → Option Int
  | p, [] => some p
  | p, .int k' q :: r => bif sameK k k' then mins k (min p q) r else none
  | _, _ => none
def maxs (k : IntKind) : Int → List Value → Option Int
  | p, [] => some p
  | p, .int k' q :: r => bif sameK k k' then maxs k (max p q) r else none
  | _, _ => none
theorem mins_run : ∀ (l : List Value) (p : Int), mins k p l = some c → (l.foldlM Builtin.min2 (.int k p)).run P w = .ok (.int k c) w
  | [], p, h => by obtain rfl := Option.some.inj h; rfl
  | u :: r, p, h => by
    cases u <;> simp only [mins] at h <;> first | cases h | skip
    rename_i k' q
    cases hk : sameK k k' with
    | false => rw [hk] at h; cases h
    | true =>
      rw [hk] at h
      obtain rfl := sameK_eq hk
      have e : (if q < p then q else p) = min p q := by rw [Int.min_def]; split <;> split <;> omega
      rw [List.foldlM_cons, Sem.run_bind]
      simp only [Builtin.min2, Sem.run_pure, Result.andThen_ok, e]
      exact mins_run r _ h
theorem maxs_run : ∀ (l : List Value) (p : Int), maxs k p l = some c → (l.foldlM Builtin.max2 (.int k p)).run P w = .ok (.int k c) w
  | [], p, h => by obtain rfl := Option.some.inj h; rfl
  | u :: r, p, h => by
    cases u <;> simp only [maxs] at h <;> first | cases h | skip
    rename_i k' q
    cases hk : sameK k k' with
    | false => rw [hk] at h; cases h
    | true =>
      rw [hk] at h
      obtain rfl := sameK_eq hk
      have e : (if q > p then q else p) = max p q := by rw [Int.max_def]; split <;> split <;> omega
      rw [List.foldlM_cons, Sem.run_bind]
      simp only [Builtin.max2, Sem.run_pure, Result.andThen_ok, e]
      exact maxs_run r _ h
theorem Yd.min {as : Array Operand} {ts : Array TypeId} {us : List Value} (hx : evs E G as.toList = some (.int k p :: us)) (hm : mins k p us = some c) : Yd P N D S E G (.call { callee := .builtin .min, args := as, argTypes := ts }) (.int k c) :=
  ⟨fun c e => (by cases e), fun a ha hg o ho w _ => Yd.bi (D := D) hx (fun w cs => by
    simp only [builtin, Builtin.min_, Sem.run_bind, mins_run us p hm]; rfl) rfl ho a ha hg w⟩
theorem Yd.max {as : Array Operand} {ts : Array TypeId} {us : List Value} (hx : evs E G as.toList = some (.int k p :: us)) (hm : maxs k p us = some c) : Yd P N D S E G (.call { callee := .builtin .max, args := as, argTypes := ts }) (.int k c) :=
  ⟨fun c e => (by cases e), fun a ha hg o ho w _ => Yd.bi (D := D) hx (fun w cs => by
    simp only [builtin, Builtin.max_, Sem.run_bind, maxs_run us p hm]; rfl) rfl ho a ha hg w⟩

/-! ## loads -/
theorem Yd.load {q : Addr} (hp : ev E G x = some (.pointer (some q))) (hagg : ∀ w, (isAgg T).run P w = .ok false w) (hc : GH E G → ∀ w, S w → w.cell? q = some v) : Yd P N D S E G (.load T x) v := by
  refine ⟨fun c e => (by cases e), fun a ha hg o ho w hS => ?_⟩
  have h1 := ev_eval ha hg hp
  have h2 := hc (GH_of' ha hg) w hS
  simp [execOp, ho, h1, Instr.loadAt, Instr.sureAddr, loadVar, hagg, h2]
theorem Yd.loadA {b off : Nat} (cs : List Value) (hp : ev E G x = some (.pointer (some ⟨b, off, none⟩))) (hagg : ∀ w, (isAgg T).run P w = .ok true w)
    (hc : GH E G → ∀ w, S w → ∀ j u, cs[j]? = some u → w.cell? ⟨b, off + j, none⟩ = some u) (hsz : ∀ w, (sizeOf T).run P w = .ok cs.length w) : Yd P N D S E G (.load T x) (.agg cs.toArray) := by
  refine ⟨fun c e => (by cases e), fun a ha hg o ho w hS => ?_⟩
  have h1 := ev_eval ha hg hp
  have h2 : (loadVar T ⟨b, off, none⟩).run P w = .ok (.agg cs.toArray) w := by
    simp [loadVar, hagg, hsz, run_loadCells_list w ⟨b, off, none⟩ cs (fun j u hu => by rw [add_none]; exact hc (GH_of' ha hg) w hS j u hu)]
  simp [execOp, ho, h1, Instr.loadAt, Instr.sureAddr, h2]

/-- element i, in a form that reckons -/
def nth : List Value → Nat → Option Value
  | [], _ => none
  | v :: _, 0 => some v
  | _ :: l, i + 1 => nth l i
theorem nth_eq : ∀ {l : List Value} {i : Nat}, nth l i = l[i]?
  | [], i => by simp [nth]
  | v :: l, 0 => rfl
  | v :: l, i + 1 => by simpa [nth] using nth_eq (l := l) (i := i)
theorem cellB {g i : Nat} {T : TypeId} {cs : Array Value} (hm : SX.Ent.blk g T cs ∈ L) (hv : nth cs.toList i = some v) : ∀ w, SX.Keep w0 M L w → w.cell? ⟨g, i, none⟩ = some v := fun _ h => h.blk hm (by rw [nth_eq] at hv; simpa using hv)
theorem cellR {g kk cc size m T i : Nat} {xs : List Value} (hm : SX.Ent.row (.slice (some ⟨g, 0, none⟩) kk cc) T size m xs ∈ L) (hv : xs[i]? = some v) : ∀ w, SX.Keep w0 M L w → w.cell? ⟨g, i, none⟩ = some v := fun _ h => h.row hm hv
theorem cellO {b i : Nat} (hb : b < w0.heap.size) (hM : b ∉ M) (hv : w0.cell? ⟨b, i, none⟩ = some v) : ∀ w, SX.Keep w0 M L w → w.cell? ⟨b, i, none⟩ = some v := fun _ h => h.old (p := ⟨b, i, none⟩) hb hM hv
theorem keepS (hs : SX.St w0 M w L) : SX.Keep w0 M L w := ⟨L, hs, fun _ h => h⟩
end Z
end Go.Proofs.Yteabcdmgklhijaa
