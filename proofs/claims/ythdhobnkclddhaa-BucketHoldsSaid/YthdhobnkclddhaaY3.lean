/- Part 3 of the proofs that lead to the statement. -/
import Derived.Test.YthdhobnkclddhaaY2
import Derived.SizedLaws
import Derived.ScopeJumps
/- Arguments of any shape, asz they read, with what is known of their sizes. -/
namespace Go.Proofs.Ythdhobnkclddhaa
open Go.ChangeShapes Go.WideShapes Go.ChangeAt Go.RowKit
set_option linter.unusedVariables false
set_option linter.unusedSimpArgs false

/-- the cells cs read asz a value of type t, none of its slices larger than an address space -/
def Rw (P : Program) (W : World) (t : TypeId) (cs : List Value) : Prop :=
  ∃ (H : Type) (enc : TypeId × Value → H) (fuel : Nat) (x : DataW H × List MemPlace), DataW.trod enc P W 0 (fun _ => true) true fuel t cs = some x ∧ ∀ n ∈ x.1.weights P t, n ≤ reachBytes

variable {P : Program} {W : World} {t e : TypeId} {cs : List Value} {k : IntKind}

theorem Rw.rd (h : Rw P W t cs) : Rd P W t cs := by
  obtain ⟨H, enc, fuel, x, h, -⟩ := h
  exact ⟨H, enc, fuel, x, h⟩
theorem Rw.of {H : Type} {enc : TypeId × Value → H} {v : Value} {d : DataW H} {p : List MemPlace} {ts : List TypeId} {ds : List (DataW H)} (j : Nat) (hsz : (DataW.weightsEach P ts ds).all (· ≤ reachBytes) = true) (h : DataW.Trod enc P W 0 (fun _ => true) true t v d p) (ht : ts[j]? = some t) (hd : ds[j]? = some d) : Rw P W t v.cells.toList := by
  obtain ⟨fuel, h⟩ := h
  refine ⟨H, enc, fuel, _, h, fun n hn => ?_⟩
  have := List.all_eq_true.1 hsz n (DataW.weights_mem_each ht hd n hn)
  simpa using this
theorem Rw.int (ht : P.underlying t = some (.int k)) (h : Rw P W t cs) : ∃ n, cs = [.int k n] ∧ (Lit.int k n).wf = true := Rd.int ht h.rd
theorem Rw.bool (ht : P.underlying t = some .bool) (h : Rw P W t cs) : ∃ b, cs = [.bool b] := Rd.bool ht h.rd
theorem Rw.field {fs : Array Field} (ht : P.underlying t = some (.struct fs)) (h : Rw P W t cs) :
    cs.length = P.cellsOf t ∧ ∀ (i : Nat) (f : Field), fs[i]? = some f → Rw P W f.type ((cs.drop f.offset).take (P.cellsOf f.type)) := by
  obtain ⟨H, enc, fuel, x, h, hw⟩ := h
  obtain ⟨xs, n, _, rfl, h1, h2, h3⟩ := DataW.trod_struct ht h
  refine ⟨h1, fun i f hf => ?_⟩
  have h4 := h3 i f hf
  have hi : i < xs.length := by
    rw [h2]
    exact (Array.getElem?_eq_some_iff.1 hf).1
  rw [List.getElem?_eq_getElem hi] at h4
  refine ⟨H, enc, n, _, h4, fun m hm => hw m ?_⟩
  simp only [DataW.weights, ht]
  refine DataW.weights_mem_each (j := i) ?_ ?_ m hm
  · rw [List.getElem?_map, Array.getElem?_toList, hf]; rfl
  · rw [List.getElem?_map, List.getElem?_eq_getElem hi]; rfl
theorem Rw.weightsAll {H : Type} : ∀ {l : List (DataW H)} {d : DataW H}, d ∈ l → ∀ n ∈ d.weights P e, n ∈ DataW.weightsAll P e l
  | d0 :: l, d, hd, n, hn => by
    simp only [DataW.weightsAll, List.mem_append]
    rcases List.mem_cons.1 hd with rfl | hd
    · exact .inl hn
    · exact .inr (Rw.weightsAll hd n hn)
theorem Rw.array {n : Nat} (ht : P.underlying t = some (.array n e)) (h : Rw P W t cs) :
    cs.length = P.cellsOf t ∧ ∀ i, i < n → Rw P W e ((cs.drop (i * P.cellsOf e)).take (P.cellsOf e)) := by
  obtain ⟨H, enc, fuel, x, h, hw⟩ := h
  obtain ⟨xs, m, _, rfl, h1, h2, h3⟩ := DataW.trod_array ht h
  refine ⟨h1, fun i hi => ?_⟩
  have h4 := h3 i hi
  rw [List.getElem?_eq_getElem (by omega)] at h4
  refine ⟨H, enc, m, _, h4, fun q hq => hw q ?_⟩
  simp only [DataW.weights, ht]
  exact Rw.weightsAll (List.mem_map_of_mem (List.getElem_mem (by omega))) q hq
theorem Rw.slice (ht : P.underlying t = some (.slice e)) (h : Rw P W t cs) :
    cs = [.slice none 0 0] ∨ ∃ (a : Addr) (len cap : Nat) (rows : List (List Value)), cs = [.slice (some a) len cap] ∧ len ≤ cap ∧ cap ≤ maxLen ∧ len * P.bytesOf e ≤ reachBytes ∧ rows.length = len ∧
      ∀ i r, rows[i]? = some r → W.cells? 0 (a.add (i * P.cellsOf e)) (P.cellsOf e) = some r ∧ Rw P W e r := by
  obtain ⟨H, enc, fuel, x, h, hw⟩ := h
  rcases DataW.trod_slice ht h with ⟨h1, _⟩ | ⟨a, len, cap, elems, rest, n, _, h1, rfl, _, h2, h3, h4, h5, _⟩
  · exact .inl h1
  · have hb : len * P.bytesOf e ≤ reachBytes := by
      have h6 := hw ((elems.length + rest.length) * P.bytesOf e) (by simp [DataW.weights, ht])
      refine Nat.le_trans (Nat.mul_le_mul_right _ ?_) h6
      omega
    refine .inr ⟨a, len, cap, (List.range len).map fun i => (W.cells? 0 (a.add (i * P.cellsOf e)) (P.cellsOf e)).getD [], h1, h2, h3, hb, by simp, fun i r hr => ?_⟩
    rw [List.getElem?_map] at hr
    obtain ⟨i', hi', hr⟩ := Option.map_eq_some_iff.1 hr
    have hi : i < len := by
      have := (List.getElem?_eq_some_iff.1 hi').1
      simpa using this
    rw [List.getElem?_range hi] at hi'
    obtain rfl : i = i' := by simpa using hi'
    have h6 := h5 i hi
    rw [List.getElem?_eq_getElem (by omega)] at h6
    obtain ⟨r', h7, h8⟩ := Option.bind_eq_some_iff.1 h6
    rw [h7] at hr
    obtain rfl : r' = r := by simpa using hr
    refine ⟨h7, H, enc, n, _, h8, fun q hq => hw q ?_⟩
    simp only [DataW.weights, ht, List.mem_cons, List.mem_append]
    exact .inr (.inl (Rw.weightsAll (List.mem_map_of_mem (List.getElem_mem (by omega))) q hq))
/-- a slice whose elements decode -/
theorem Rw.rows {α : Type} {A : Option Addr} {n c : Nat} (enc : α → List Value) (Good : α → Prop) (ht : P.underlying t = some (.slice e)) (hpos : 0 < P.cellsOf e)
    (dec : ∀ r, Rw P W e r → ∃ x, r = enc x ∧ Good x) (hsz : ∀ x, (enc x).length = P.cellsOf e) (h : Rw P W t [.slice A n c]) :
    ∃ xs : List α, xs.length = n ∧ n ≤ c ∧ c ≤ maxLen ∧ n * P.bytesOf e ≤ reachBytes ∧ (∀ x ∈ xs, Good x) ∧ Sl W A (xs.flatMap enc) := by
  rcases Rw.slice ht h with h1 | ⟨a, len, cap, rows, h1, h2, h3, hw, h4, h5⟩
  · simp only [List.cons.injEq, Value.slice.injEq, and_true] at h1
    obtain ⟨rfl, rfl, rfl⟩ := h1
    exact ⟨[], rfl, Nat.le_refl _, Nat.zero_le _, by simp, by simp, fun hp => by simp at hp⟩
  · simp only [List.cons.injEq, Value.slice.injEq, and_true] at h1
    obtain ⟨rfl, rfl, rfl⟩ := h1
    have key : ∀ (l : List (List Value)), (∀ r ∈ l, Rw P W e r) → ∃ xs : List α, l = xs.map enc ∧ ∀ x ∈ xs, Good x := by
      intro l
      induction l with
      | nil => intro _; exact ⟨[], rfl, by simp⟩
      | cons r l ih =>
        intro hl
        obtain ⟨x, rfl, hx⟩ := dec r (hl r (by simp))
        obtain ⟨xs, rfl, hxs⟩ := ih (fun r hr => hl r (by simp [hr]))
        exact ⟨x :: xs, rfl, fun y hy => by
          rcases List.mem_cons.1 hy with rfl | hy
          · exact hx
          · exact hxs y hy⟩
    obtain ⟨xs, hxs, hG⟩ := key rows (fun r hr => by
      obtain ⟨i, hi⟩ := List.getElem?_of_mem hr
      exact (h5 i r hi).2)
    have hlen : xs.length = n := by rw [← h4, hxs, List.length_map]
    refine ⟨xs, hlen, h2, h3, hw, hG, fun hp => ?_⟩
    -- the cells, one by one
    have hcell : ∀ (i : Nat) (x : α), xs[i]? = some x → ∀ (j : Nat) (u : Value), (enc x)[j]? = some u → W.cell? ((a.add (i * P.cellsOf e)).add j) = some u := by
      intro i x hx j u hu
      have hr : rows[i]? = some (enc x) := by
        rw [hxs, List.getElem?_map, hx]
        rfl
      exact (cells_len (h5 i _ hr).1).2 j u hu
    have hn0 : 0 < n := by
      rw [← hlen]
      cases xs with
      | nil => simp at hp
      | cons x xs => simp
    -- the address has no spot
    have hspot : a.spot = none := by
      have hx0 : xs[0]? = some (xs[0]'(by omega)) := List.getElem?_eq_getElem (by omega)
      have hl0 := hsz (xs[0]'(by omega))
      have := hcell 0 _ hx0 0 _ (List.getElem?_eq_getElem (by omega))
      have e0 : (a.add (0 * P.cellsOf e)).add 0 = a := by simp [Addr.add]
      rw [e0] at this
      unfold World.cell? at this
      split at this
      · cases hs : a.spot with
        | none => rfl
        | some s => simp [hs] at this
      · cases this
    obtain ⟨b, off, sp⟩ := a
    simp only at hspot
    subst hspot
    have hadd : ∀ o m, (⟨b, o, none⟩ : Addr).add m = ⟨b, o + m, none⟩ := fun o m => by
      unfold Addr.add
      split
      · rename_i h; rw [h]; rfl
      · rfl
    have hall : ∀ (ys : List α) (i : Nat), (∀ j, j < ys.length → xs[i + j]? = ys[j]?) → i + ys.length ≤ n → ∀ m u, (ys.flatMap enc)[m]? = some u → W.cell? ⟨b, off + (i * P.cellsOf e + m), none⟩ = some u := by
      intro ys
      induction ys with
      | nil => intro i _ _ m u hu; simp at hu
      | cons y ys ih =>
        intro i hy hle m u hu
        simp only [List.length_cons] at hle
        rw [List.flatMap_cons] at hu
        have hyl := hsz y
        by_cases hm : m < P.cellsOf e
        · rw [List.getElem?_append_left (by omega)] at hu
          have h0 := hy 0 (by simp)
          simp at h0
          have := hcell i y h0 m u hu
          rw [hadd, hadd] at this
          rw [← Nat.add_assoc]
          exact this
        · rw [List.getElem?_append_right (by omega), hyl] at hu
          have := ih (i + 1) (fun j hj => by
            have := hy (j + 1) (by simp; omega)
            rw [show i + 1 + j = i + (j + 1) from by omega, this]
            simp) (by omega) (m - P.cellsOf e) u hu
          rw [Nat.add_mul, Nat.one_mul] at this
          rw [show i * P.cellsOf e + m = i * P.cellsOf e + P.cellsOf e + (m - P.cellsOf e) from by omega]
          exact this
    have hfin := hall xs 0 (fun j _ => by simp) (by omega)
    simp only [Nat.zero_mul, Nat.zero_add] at hfin
    refine ⟨b, off, rfl, ?_, fun j u hu => hfin j u hu⟩
    have hpp : 0 < (xs.flatMap enc).length := hp
    have := hfin 0 _ (List.getElem?_eq_getElem hpp)
    exact World.block_lt_of_cell? _ _ this
end Go.Proofs.Ythdhobnkclddhaa

/- The Z engine: a scope with one label that the run jumps forward to. -/
namespace Go.Proofs.Ythdhobnkclddhaa
open Go.RowKit
set_option linter.unusedVariables false
set_option linter.unusedSimpArgs false

namespace Z
variable {P : Program} {N : Nat} {E : Env} {D : List Deferred} {w : World} {Q : Exit → Act → World → Prop}

/-- first the code in order; every jump to the label brings 'envm' and 'I'; then the code behind the label, where nobody jumps -/
theorem scopeJ {ι : Type} {c rest : Code} (l : Nat) (hf : findLabel c l = some rest) (is : List Nat) {E0 : Env} (hk : keepO E is [] = some E0) (envm : ι → Env) (I : ι → World → Prop)
    (first : Z N E D (c.wpIn Fence.wide 0 P (Exit.jump l (fun a' w' => ∃ j, Holds a' N (envm j ++ E0) D ∧ I j w') Q)) w)
    (pass : ∀ j w, I j w → Z N (envm j ++ E0) D (rest.wpIn Fence.wide 0 P (Exit.noGoto Q)) w) : Z N E D ((Code.scope c).wpIn Fence.wide 0 P Q) w := fun a ha =>
  wpIn_wide.2 (wp_scope_jumps l _ (fun _ _ => 0) hf (wpIn_wide.1 (first a ha)) (fun a' w' hJ => by
    obtain ⟨j, h1, h2⟩ := hJ
    refine wpIn_wide.1 (wpIn_mono (pass j w' h2 a' h1) fun e a1 w1 hq => ?_)
    cases e with
    | normal => exact hq
    | exit _ => exact hq
    | goto _ => exact hq.elim
    | ret => exact hq
    | panic _ => exact hq
    | outgrown => exact hq))
section
variable {l : Nat} {J : Act → World → Prop}
theorem gjump (h : Z N E D J w) : Z N E D (Exit.jump l J Q (.goto l)) w := fun a ha => ⟨rfl, h a ha⟩
theorem njump (h : Z N E D (Q .normal) w) : Z N E D (Exit.jump l J Q .normal) w := h
theorem rjump (h : Z N E D (Q .ret) w) : Z N E D (Exit.jump l J Q .ret) w := h
theorem xjump {id : Nat} (h : Z N E D (Q (.exit id)) w) : Z N E D (Exit.jump l J Q (.exit id)) w := h
theorem pjump {ch : List PanicEntry} (h : Z N E D (Q (.panic ch)) w) : Z N E D (Exit.jump l J Q (.panic ch)) w := h
end
end Z
end Go.Proofs.Ythdhobnkclddhaa
