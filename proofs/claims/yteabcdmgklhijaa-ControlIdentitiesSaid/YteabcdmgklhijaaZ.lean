/- Walking by an environment: which slot holds which value, under which guards; each operation by a law of its own, no hypothesis used as a rule. -/
import Derived.Test.YteabcdmgklhijaaSxMore
namespace Go.Proofs.Yteabcdmgklhijaa
open Go.RowKit
set_option linter.unusedVariables false
set_option linter.unusedSimpArgs false
namespace Z

abbrev Guards := List (Nat × Bool)
/-- slot, guards, value -/
abbrev Env := List (Nat × Guards × Value)

def look (i : Nat) : Env → Option (Guards × Value)
  | [] => none
  | (j, gs, v) :: E => bif Nat.beq i j then some (gs, v) else look i E

def beqB : Bool → Bool → Bool
  | true, b => b
  | false, b => !b
def inG (g : Nat × Bool) : Guards → Bool
  | [] => false
  | h :: H => bif Nat.beq g.1 h.1 && beqB g.2 h.2 then true else inG g H
def subG : Guards → Guards → Bool
  | [], _ => true
  | g :: G, H => bif inG g H then subG G H else false

theorem beqB_eq : ∀ {a b : Bool}, beqB a b = true → a = b := by decide
theorem inG_mem {g : Nat × Bool} : ∀ {H : Guards}, inG g H = true → g ∈ H
  | h :: H, e => by
    unfold inG at e
    cases hb : (Nat.beq g.1 h.1 && beqB g.2 h.2) with
    | true =>
      simp only [Bool.and_eq_true] at hb
      have h1 := Nat.eq_of_beq_eq_true hb.1
      have h2 := beqB_eq hb.2
      have : g = h := Prod.ext h1 h2
      rw [this]
      exact List.mem_cons_self
    | false =>
      rw [hb] at e
      exact List.mem_cons_of_mem _ (inG_mem e)
theorem subG_mem : ∀ {G H : Guards}, subG G H = true → ∀ g ∈ G, g ∈ H
  | [], _, _, g, hg => by cases hg
  | g0 :: G, H, e, g, hg => by
    unfold subG at e
    cases hb : inG g0 H with
    | true =>
      rw [hb] at e
      rcases List.mem_cons.1 hg with rfl | hg
      · exact inG_mem hb
      · exact subG_mem e g hg
    | false => rw [hb] at e; cases e

def gholds (a : Act) (G : Guards) : Prop := ∀ g ∈ G, a.tmps[g.1]? = some (.bool g.2)

open Classical in
/-- The frame of an activation: N slots, of which E tells some. -/
structure Holds (a : Act) (N : Nat) (E : Env) (D : List Deferred) : Prop where
  size : a.tmps.size = N
  get : ∀ i gs v, look i E = some (gs, v) → a.tmps[i]? = some (if gholds a gs then v else undef)
  defers : a.defers = D

def Z (N : Nat) (E : Env) (D : List Deferred) (G : Act → World → Prop) (w : World) : Prop := ∀ a, Holds a N E D → G a w

/-- an operand's value, where the guards G hold -/
def ev (E : Env) (G : Guards) : Operand → Option Value
  | .tmp t => match look t E with
    | some (gs, v) => bif subG gs G then some v else none
    | none => none
  | .const v => some v
  | .global g => some (.pointer (some ⟨g, 0, none⟩))
  | .func f => some (.func (.func f) #[] #[])

def evs (E : Env) (G : Guards) : List Operand → Option (List Value)
  | [] => some []
  | x :: xs => match ev E G x with
    | some v => match evs E G xs with
      | some vs => some (v :: vs)
      | none => none
    | none => none

variable {N : Nat} {E : Env} {D : List Deferred} {a : Act} {G : Guards}

theorem gholds.mono {H : Guards} (h : gholds a H) (hs : subG G H = true) : gholds a G := fun g hg => h g (subG_mem hs g hg)

theorem ev_eval (h : Holds a N E D) (hg : gholds a G) {x : Operand} {v : Value} (hx : ev E G x = some v) : a.eval x = v := by
  cases x with
  | tmp t =>
    simp only [ev] at hx
    cases hl : look t E with
    | none => rw [hl] at hx; cases hx
    | some p =>
      obtain ⟨gs, u⟩ := p
      rw [hl] at hx
      simp only at hx
      cases hs : subG gs G with
      | false => rw [hs] at hx; cases hx
      | true =>
        rw [hs] at hx
        obtain rfl : u = v := by simpa using hx
        have := h.get t gs u hl
        rw [if_pos (hg.mono hs)] at this
        simp [Act.eval, Array.getD_eq_getD_getElem?, this]
  | const u => simpa [ev, Act.eval] using hx
  | global g => simpa [ev, Act.eval] using hx
  | func f => simpa [ev, Act.eval] using hx

theorem evs_eval (h : Holds a N E D) (hg : gholds a G) : ∀ {xs : List Operand} {vs : List Value}, evs E G xs = some vs → xs.map a.eval = vs
  | [], vs, e => by obtain rfl : [] = vs := by simpa [evs] using e
                    rfl
  | x :: xs, vs, e => by
    simp only [evs] at e
    cases h1 : ev E G x with
    | none => rw [h1] at e; cases e
    | some v =>
      rw [h1] at e
      simp only at e
      cases h2 : evs E G xs with
      | none => rw [h2] at e; cases e
      | some us =>
        rw [h2] at e
        obtain rfl : v :: us = vs := by simpa using e
        rw [List.map_cons, ev_eval h hg h1, evs_eval h hg h2]

/-- dst may be written: it is a slot, and no guard of an entry -/
def free (d : Nat) : Env → Bool
  | [] => true
  | e :: E => bif e.2.1.any (fun g => Nat.beq g.1 d) then false else free d E

theorem free_spec {d : Nat} : ∀ {E : Env}, free d E = true → ∀ i gs v, look i E = some (gs, v) → ∀ g ∈ gs, g.1 ≠ d
  | (j, hs, u) :: E, h, i, gs, v, hl, g, hg => by
    unfold free at h
    cases hb : hs.any (fun g => Nat.beq g.1 d) with
    | true => simp only [hb, cond_true] at h; cases h
    | false =>
      simp only [hb, cond_false] at h
      unfold look at hl
      cases hi : Nat.beq i j with
      | false =>
        simp only [hi, cond_false] at hl
        exact free_spec h i gs v hl g hg
      | true =>
        simp only [hi, cond_true, Option.some.injEq, Prod.mk.injEq] at hl
        intro hd
        have h1 := List.any_eq_false.1 hb g (by rw [hl.1]; exact hg)
        exact h1 (by rw [hd]; exact Nat.beq_refl d)

theorem gholds_put {d : Nat} {v : Value} (hd : ∀ g ∈ G, g.1 ≠ d) : gholds (a.put (some d) v) G ↔ gholds a G := by
  unfold gholds
  refine forall_congr' fun g => forall_congr' fun hg => ?_
  have := hd g hg
  simp only [Act.put]
  rw [Array.getElem?_setIfInBounds_ne (Ne.symm this)]

open Classical in
theorem Holds.put (h : Holds a N E D) {d : Nat} {v u : Value} (hN : Nat.blt d N = true) (hf : free d E = true) (hG : ∀ g ∈ G, g.1 ≠ d) (hu : u = if gholds a G then v else undef) :
    Holds (a.put (some d) u) N ((d, G, v) :: E) D := by
  have hlt : d < N := by
    have := Nat.le_of_ble_eq_true hN
    omega
  refine ⟨by simp [Act.put, h.size], fun i gs x hl => ?_, h.defers⟩
  unfold look at hl
  cases hi : Nat.beq i d with
  | true =>
    rw [hi] at hl
    obtain ⟨rfl, rfl⟩ : G = gs ∧ v = x := by simpa using hl
    obtain rfl := Nat.eq_of_beq_eq_true hi
    rw [gholds_put hG, hu.symm]
    simp only [Act.put]
    rw [Array.getElem?_setIfInBounds_self_of_lt (by rw [h.size]; exact hlt)]
  | false =>
    rw [hi] at hl
    have hne : d ≠ i := fun e => by rw [e, Nat.beq_refl] at hi; cases hi
    rw [gholds_put (free_spec hf i gs x hl)]
    simp only [Act.put]
    rw [Array.getElem?_setIfInBounds_ne hne]
    exact h.get i gs x hl

/-- E' tells no more than E -/
def Sub : Env → Env → Prop
  | [], _ => True
  | e :: E', E => look e.1 E = some e.2 ∧ Sub E' E

theorem Sub.look : ∀ {E' E : Env}, Sub E' E → ∀ i p, look i E' = some p → look i E = some p
  | (j, gs, u) :: E', E, h, i, p, hl => by
    unfold Z.look at hl
    cases hi : Nat.beq i j with
    | true =>
      simp only [hi, cond_true] at hl
      obtain rfl := Nat.eq_of_beq_eq_true hi
      rw [← hl]
      exact h.1
    | false =>
      simp only [hi, cond_false] at hl
      exact Sub.look h.2 i p hl

theorem Holds.sub {E' : Env} (h : Holds a N E D) (hs : Sub E' E) : Holds a N E' D :=
  ⟨h.size, fun i gs v hl => h.get i gs v (hs.look i _ hl), h.defers⟩

/-- the entries of the slots is -/
def keepO (E : Env) : List Nat → Env → Option Env
  | [], acc => some acc
  | i :: is, acc => match look i E with
    | some (gs, v) => keepO E is ((i, gs, v) :: acc)
    | none => keepO E is acc
theorem keepO_sub (E : Env) {E' : Env} : ∀ (is : List Nat) (acc : Env), Sub acc E → keepO E is acc = some E' → Sub E' E
  | [], acc, h, e => by
    obtain rfl := Option.some.inj e
    exact h
  | i :: is, acc, h, e => by
    unfold keepO at e
    cases hl : look i E with
    | none => rw [hl] at e; exact keepO_sub E is acc h e
    | some p => rw [hl] at e; exact keepO_sub E is ((i, p.1, p.2) :: acc) ⟨hl, h⟩ e

variable {K : Act → World → Prop} {w : World}

theorem forget {E' : Env} (hs : Sub E' E) (h : Z N E' D K w) : Z N E D K w := fun a ha => h a (ha.sub hs)
theorem only (is : List Nat) {E' : Env} (he : keepO E is [] = some E') (h : Z N E' D K w) : Z N E D K w := forget (keepO_sub E is [] trivial he) h

/-! ## operations that yield a value and leave the world alone -/
section
variable {P : Program} {S : World → Prop} {ops : Array Oper} {o : Oper} {v : Value}

/-- Where E holds and the guards G do, operation o yields v in every world of S, and leaves it. -/
def Yd (P : Program) (N : Nat) (D : List Deferred) (S : World → Prop) (E : Env) (G : Guards) (op : Op) (v : Value) : Prop :=
  (∀ c, op ≠ .defer c) ∧ ∀ a, Holds a N E D → gholds a G → ∀ o : Oper, o.op = op → ∀ w, S w → (execOp a.eval o).run P w = .ok (.value v) w

/-- the guards under which o runs -/
def effG (ops : Array Oper) (E : Env) (o : Oper) : Option Guards :=
  match o.guard with
  | none => some []
  | some (j, b) => match ops[j]? with
    | some oj => match oj.dst with
      | some s => match look s E with
        | some (gs, _) => some ((s, b) :: gs)
        | none => none
      | none => none
    | none => none

theorem wanted_of (h : Holds a N E D) (hG : effG ops E o = some G) : Region.wanted o (yielded ops a.tmps) = true ↔ gholds a G := by
  unfold effG at hG
  unfold Region.wanted
  cases hg : o.guard with
  | none =>
    rw [hg] at hG
    obtain rfl : [] = G := by simpa using hG
    simp [gholds]
  | some jb =>
    obtain ⟨j, b⟩ := jb
    rw [hg] at hG
    simp only at hG ⊢
    cases hj : ops[j]? with
    | none => rw [hj] at hG; cases hG
    | some oj =>
      rw [hj] at hG
      simp only at hG
      cases hd : oj.dst with
      | none => rw [hd] at hG; cases hG
      | some s =>
        rw [hd] at hG
        simp only at hG
        cases hl : look s E with
        | none => rw [hl] at hG; cases hG
        | some p =>
          obtain ⟨gs, u⟩ := p
          rw [hl] at hG
          obtain rfl : (s, b) :: gs = G := by simpa using hG
          have hget := h.get s gs u hl
          refine ⟨fun hb g hgm => ?_, fun hh => ?_⟩
          · by_cases hgs : gholds a gs
            · rcases List.mem_cons.1 hgm with rfl | hgm
              · have hx : ∀ x, a.tmps[s]? = some x → a.tmps[s]? = some (.bool b) := fun x ht => by
                  rw [ht]
                  cases x <;> simp [yielded, hj, hd, ht] at hb
                  rw [hb]
                cases ht : a.tmps[s]? with
                | none => simp [yielded, hj, hd, ht] at hb
                | some x => exact ht.symm.trans (hx x ht)
              · exact hgs g hgm
            · rw [if_neg hgs] at hget
              simp [yielded, hj, hd, hget, undef] at hb
          · have := hh (s, b) List.mem_cons_self
            simp only at this
            simp [yielded, hj, hd, this]

/-- What G says, in E's words. -/
def GH (E : Env) : Guards → Prop
  | [] => True
  | g :: G => (match look g.1 E with | some (_, .bool t) => t = g.2 | _ => True) ∧ GH E G

theorem GH_of (h : Holds a N E D) : ∀ {G : Guards}, gholds a G → (∀ g ∈ G, ∀ gs v, look g.1 E = some (gs, v) → gholds a gs) → GH E G
  | [], _, _ => trivial
  | g :: G, hg, hp => by
    refine ⟨?_, GH_of h (fun x hx => hg x (List.mem_cons_of_mem _ hx)) (fun x hx => hp x (List.mem_cons_of_mem _ hx))⟩
    have h1 := hg g List.mem_cons_self
    cases hl : look g.1 E with
    | none => trivial
    | some p =>
      obtain ⟨gs, v⟩ := p
      have h2 := h.get _ gs v hl
      rw [if_pos (hp g List.mem_cons_self gs v hl), h1] at h2
      simp only [Option.some.injEq] at h2
      subst h2
      rfl

/-- as `GH_of`, with the parents' guards told by what the frame holds: a slot that is a bool was set. -/
theorem GH_of' (h : Holds a N E D) {G : Guards} (hg : gholds a G) : GH E G := by
  refine GH_of h hg fun g hgm gs v hl => ?_
  have h1 := hg g hgm
  have h2 := h.get _ gs v hl
  rw [h1] at h2
  by_cases hh : gholds a gs
  · exact hh
  · rw [if_neg hh] at h2
    simp [undef] at h2
end
end Z
end Go.Proofs.Yteabcdmgklhijaa
