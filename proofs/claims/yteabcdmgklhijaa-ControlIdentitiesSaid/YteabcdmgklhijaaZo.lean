/- The laws of single operations over an environment. -/
import Derived.Test.YteabcdmgklhijaaZ
namespace Go.Proofs.Yteabcdmgklhijaa
open Go.RowKit
set_option linter.unusedVariables false
set_option linter.unusedSimpArgs false
namespace Z

/-- a fence that lets everything in -/
class Wide (F : Fence) : Prop where
  fn : ∀ f, F.fn f
  depth : F.depth = none
instance : Wide Fence.wide := ⟨fun _ => trivial, rfl⟩
instance {F : Fence} [h : Wide F] (l : Nat) : Wide (F.inRound l) := ⟨fun f => h.fn f, h.depth⟩

variable {N : Nat} {E : Env} {D : List Deferred} {a : Act} {G : Guards} {F : Fence} {n : Nat} {P : Program} {S : World → Prop} {ops : Array Oper} {o : Oper} {v : Value}
variable {K : Act → World → Prop} {Q : Exit → Act → World → Prop} {w w0 : World} {rest : List Oper} {M : List Nat} {L : List SX.Ent}

/-- may slot d be written under the guards G? -/
def chk (N d : Nat) (E : Env) (G : Guards) : Bool := Nat.blt d N && (free d E && G.all fun g => !Nat.beq g.1 d)
theorem chk_spec {d : Nat} (h : chk N d E G = true) : Nat.blt d N = true ∧ free d E = true ∧ ∀ g ∈ G, g.1 ≠ d := by
  simp only [chk, Bool.and_eq_true, List.all_eq_true] at h
  refine ⟨h.1, h.2.1, fun g hg e => ?_⟩
  have := h.2.2 g hg
  rw [e, Nat.beq_refl] at this
  cases this

theorem upon_val [Wide F] {o : Oper} {a : Act} (hd : ∀ c, o.op ≠ .defer c) (hr : (execOp a.eval o).run P w = .ok (.value v) w) (hK : K (a.put o.dst v) w) : o.wpIn F n P a w K Q := by
  refine ⟨fun f _ => Wide.fn f, ?_⟩
  rw [Oper.semAt_plain F _ o hd, hr]
  exact hK

open Classical in
/-- An operation that yields a value and leaves the world alone. -/
theorem l [Wide F] {d : Nat} (hG : effG ops E o = some G) (hd : o.dst = some d) (hc : chk N d E G = true) (hS : S w) (y : Yd P N D S E G o.op v)
    (h : Z N ((d, G, v) :: E) D (wpListIn F n P ops Q rest) w) : Z N E D (wpListIn F n P ops Q (o :: rest)) w := by
  intro a ha
  obtain ⟨h1, h2, h3⟩ := chk_spec hc
  have hw := wanted_of (ops := ops) (o := o) ha hG
  unfold wpListIn
  by_cases hg : gholds a G
  · rw [if_pos (hw.2 hg)]
    refine upon_val y.1 (y.2 a ha hg o rfl w hS) ?_
    rw [hd]
    exact h _ (ha.put h1 h2 h3 (by rw [if_pos hg]))
  · rw [if_neg (fun e => hg (hw.1 e))]
    refine ⟨fun f _ => Wide.fn f, ?_⟩
    rw [hd]
    exact h _ (ha.put h1 h2 h3 (by rw [if_neg hg]))

/-! ## pure operations -/
def cmp (op : BinOp) (a b : Int) : Option Value :=
  match op with
  | .eql => some (.bool (a == b))
  | .neq => some (.bool (a != b))
  | .lss => some (.bool (decide (a < b)))
  | .leq => some (.bool (decide (a ≤ b)))
  | .gtr => some (.bool (decide (b < a)))
  | .geq => some (.bool (decide (b ≤ a)))
  | _ => none

def sameK : IntKind → IntKind → Bool
  | .i8, .i8 | .i16, .i16 | .i32, .i32 | .i64, .i64 | .u8, .u8 | .u16, .u16 | .u32, .u32 | .u64, .u64 => true
  | _, _ => false
theorem sameK_eq {k k' : IntKind} (h : sameK k k' = true) : k = k' := by cases k <;> cases k' <;> first | rfl | cases h

def pickV (E : Env) (G : Guards) (s : Nat) (t : Bool) (x y : Operand) : Option Value :=
  match x with
  | .const (.bool true) => match ev E ((s, false) :: G) y with
    | some (.bool u) => some (.bool (t || u))
    | _ => none
  | _ => match y with
    | .const (.bool false) => match ev E ((s, true) :: G) x with
      | some (.bool u) => some (.bool (t && u))
      | _ => none
    | _ => none

def pure1 (E : Env) (G : Guards) : Op → Option Value
  | .move x => ev E G x
  | .assign x => ev E G x
  | .pick c x y => match c with
    | .tmp s => match ev E G (.tmp s) with
      | some (.bool t) => pickV E G s t x y
      | _ => none
    | _ => none
  | .binOp op _ x y _ => match ev E G x with
    | some (.int k a) => match ev E G y with
      | some (.int k' b) => bif sameK k k' then cmp op a b else none
      | _ => none
    | _ => none
  | .unOp op _ x => match op with
    | .not => match ev E G x with
      | some (.bool b) => some (.bool (!b))
      | _ => none
    | _ => none
  | .extract x i => match ev E G x with
    | some (.tuple vs) => vs.toList[i]?
    | _ => none
  | .makeFunc fn first cap => match evs E G first.toList with
    | some f => match evs E G cap.toList with
      | some c => some (.func fn f.toArray c.toArray)
      | none => none
    | none => none
  | _ => none

theorem gholds_cons {s : Nat} {b : Bool} (h : gholds a G) (hs : a.tmps[s]? = some (.bool b)) : gholds a ((s, b) :: G) := fun g hg => by
  rcases List.mem_cons.1 hg with rfl | hg
  · exact hs
  · exact h g hg

theorem tmps_of_eval {s : Nat} {b : Bool} (h : a.eval (.tmp s) = .bool b) : a.tmps[s]? = some (.bool b) := by
  simp only [Act.eval, Array.getD_eq_getD_getElem?] at h
  cases hs : a.tmps[s]? with
  | none => rw [hs] at h; simp [undef] at h
  | some u => rw [hs] at h; simp only [Option.getD_some] at h; rw [h]

theorem pickV_spec (ha : Holds a N E D) (hg : gholds a G) {s : Nat} {t : Bool} {x y : Operand} (hs : a.eval (.tmp s) = .bool t) (h : pickV E G s t x y = some v) : (if t then a.eval x else a.eval y) = v := by
  have ht := tmps_of_eval hs
  unfold pickV at h
  split at h
  · split at h
    · rename_i u hy
      obtain rfl := Option.some.inj h
      cases t with
      | true => rfl
      | false => simpa using ev_eval ha (gholds_cons hg ht) hy
    · cases h
  · split at h
    · split at h
      · rename_i u hx
        obtain rfl := Option.some.inj h
        cases t with
        | false => rfl
        | true => simpa using ev_eval ha (gholds_cons hg ht) hx
      · cases h
    · cases h

theorem Yd.pure {op : Op} (h : pure1 E G op = some v) : Yd P N D S E G op v := by
  refine ⟨fun c e => (by subst e; cases h), fun a ha hg o ho w _ => ?_⟩
  unfold pure1 at h
  split at h
  · simp [execOp, ho, ev_eval ha hg h]
  · simp [execOp, ho, ev_eval ha hg h]
  · split at h
    · split at h
      · rename_i t ht
        have h1 := ev_eval ha hg ht
        have h2 := pickV_spec ha hg h1 h
        simp only [execOp, ho, h1, asBool]
        simp only [Sem.run_bind, Sem.run_pure, Result.andThen_ok, h2]
      · cases h
    · cases h
  · split at h
    · rename_i k x hx
      split at h
      · rename_i k' y hy
        cases hk : sameK k k' with
        | false => rw [hk] at h; cases h
        | true =>
          rw [hk] at h
          obtain rfl := sameK_eq hk
          have h1 := ev_eval ha hg hx
          have h2 := ev_eval ha hg hy
          simp only [cond_true] at h
          unfold cmp at h
          split at h <;> first | (obtain rfl := Option.some.inj h; simp [execOp, ho, h1, h2, eqGuard, binOp, Op.intCmp]; done) | cases h
      · cases h
    · cases h
  · split at h
    · split at h
      · rename_i b hx
        obtain rfl := Option.some.inj h
        simp [execOp, ho, ev_eval ha hg hx, Op.unary]
      · cases h
    · cases h
  · rename_i x i
    split at h
    · rename_i vs hx
      have h2 : vs[i]? = some v := by rw [← Array.getElem?_toList]; exact h
      simp [execOp, ho, ev_eval ha hg hx, Instr.extract, h2]
    · cases h
  · split at h
    · rename_i f hf
      split at h
      · rename_i c hc
        obtain rfl := Option.some.inj h
        have h1 := evs_eval ha hg hf
        have h2 := evs_eval ha hg hc
        have e : ∀ xs : Array Operand, xs.map a.eval = (xs.toList.map a.eval).toArray := fun xs => by apply Array.ext'; simp
        simp [execOp, ho, Instr.makeFunc, ← h1, ← h2, e]
      · cases h
    · cases h
  · cases h

theorem Yd.pickT {c x y : Operand} (hc : ev E G c = some (.bool true)) (hx : ev E G x = some v) : Yd P N D S E G (.pick c x y) v := by
  refine ⟨fun c e => (by cases e), fun a ha hg o ho w _ => ?_⟩
  have h1 := ev_eval ha hg hc
  have h2 := ev_eval ha hg hx
  simp [execOp, ho, h1, h2, asBool]
theorem Yd.pickF {c x y : Operand} (hc : ev E G c = some (.bool false)) (hx : ev E G y = some v) : Yd P N D S E G (.pick c x y) v := by
  refine ⟨fun c e => (by cases e), fun a ha hg o ho w _ => ?_⟩
  have h1 := ev_eval ha hg hc
  have h2 := ev_eval ha hg hx
  simp [execOp, ho, h1, h2, asBool]

/-- so many pure operations in a row -/
def bulk (ops : Array Oper) (N : Nat) : Nat → List Oper → Env → Option (List Oper × Env)
  | 0, l, E => some (l, E)
  | k + 1, [], E => none
  | k + 1, o :: l, E => match effG ops E o with
    | some G => match o.dst with
      | some d => bif chk N d E G then (match pure1 E G o.op with
        | some v => bulk ops N k l ((d, G, v) :: E)
        | none => none) else none
      | none => none
    | none => none

theorem lb [Wide F] (k : Nat) {l l' : List Oper} {E' : Env} (hb : bulk ops N k l E = some (l', E')) (h : Z N E' D (wpListIn F n P ops Q l') w) : Z N E D (wpListIn F n P ops Q l) w := by
  induction k generalizing l E with
  | zero =>
    obtain ⟨rfl, rfl⟩ : l = l' ∧ E = E' := by simpa [bulk] using hb
    exact h
  | succ k ih =>
    cases l with
    | nil => cases hb
    | cons o l =>
      unfold bulk at hb
      cases hG : effG ops E o with
      | none => rw [hG] at hb; cases hb
      | some G =>
        rw [hG] at hb
        simp only at hb
        cases hd : o.dst with
        | none => rw [hd] at hb; cases hb
        | some d =>
          rw [hd] at hb
          simp only at hb
          cases hc : chk N d E G with
          | false => rw [hc] at hb; cases hb
          | true =>
            rw [hc] at hb
            simp only [cond_true] at hb
            cases hp : pure1 E G o.op with
            | none => rw [hp] at hb; cases hb
            | some v =>
              rw [hp] at hb
              exact Z.l (S := fun _ => True) hG hd hc trivial (Yd.pure hp) (ih hb)

end Z
end Go.Proofs.Yteabcdmgklhijaa
