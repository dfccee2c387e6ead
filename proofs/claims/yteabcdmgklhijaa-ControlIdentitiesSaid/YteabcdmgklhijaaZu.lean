/- Appends from any slice, comparisons with nil, strings of bytes, slices beside what is lent. -/
import Derived.Test.YteabcdmgklhijaaZt
import Derived.Laws.BytesString
namespace Go.Proofs.Yteabcdmgklhijaa
open Go.RowKit
set_option linter.unusedVariables false
set_option linter.unusedSimpArgs false
namespace Z
variable {N : Nat} {E E' : Env} {D : List Deferred} {a : Act} {G : Guards} {F : Fence} {n : Nat} {P : Program} {S : World → Prop} {ops : Array Oper} {o : Oper} {v : Value}
variable {K : Act → World → Prop} {Q : Exit → Act → World → Prop} {w w' w0 : World} {rest : List Oper} {M : List Nat} {L L1 L2 : List SX.Ent} {x y : Operand} {d : Nat} {T T' : TypeId} {k : IntKind}

/-- v is a slice that reads xs, in blocks that were there and are not of M -/
def _root_.Go.Proofs.Yteabcdmgklhijaa.Sx (w : World) (M : List Nat) (A : Option Addr) (xs : List Value) : Prop :=
  0 < xs.length → ∃ b off, A = some ⟨b, off, none⟩ ∧ b < w.heap.size ∧ b ∉ M ∧ ∀ j u, xs[j]? = some u → w.cell? ⟨b, off + j, none⟩ = some u

theorem _root_.Go.Proofs.Yteabcdmgklhijaa.Sx.sl {w : World} {A : Option Addr} {xs : List Value} (h : Sx w M A xs) : Sl w A xs := fun hp => by
  obtain ⟨b, off, e, hb, _, hc⟩ := h hp
  exact ⟨b, off, e, hb, hc⟩
theorem _root_.Go.Proofs.Yteabcdmgklhijaa.Sl.sx {w : World} {A : Option Addr} {xs : List Value} (h : Sl w A xs) : Sx w [] A xs := fun hp => by
  obtain ⟨b, off, e, hb, hc⟩ := h hp
  exact ⟨b, off, e, hb, by simp, hc⟩
/-- what was there is there still -/
theorem _root_.Go.Proofs.Yteabcdmgklhijaa.Sx.st {A : Option Addr} {xs : List Value} (h : Sx w0 M A xs) (hs : SX.St w0 M w L) : Sl w A xs := fun hp => by
  obtain ⟨b, off, e, hb, hM, hc⟩ := h hp
  exact ⟨b, off, e, Nat.lt_of_lt_of_le hb hs.size, fun j u hu => (hs.oldcell (p := ⟨b, off + j, none⟩) hb hM).trans (hc j u hu)⟩
/-- .. and apart from what is lent -/
theorem _root_.Go.Proofs.Yteabcdmgklhijaa.Sx.lent {A : Option Addr} {xs : List Value} (h : Sx w0 M A xs) (hs : SX.St w0 M w (L1 ++ L2)) : Sx w (SX.idsOf L1) A xs := fun hp => by
  obtain ⟨b, off, e, hb, hM, hc⟩ := h hp
  refine ⟨b, off, e, Nat.lt_of_lt_of_le hb hs.size, fun hin => ?_, fun j u hu => (hs.oldcell (p := ⟨b, off + j, none⟩) hb hM).trans (hc j u hu)⟩
  have : b ∈ SX.idsOf (L1 ++ L2) := by simp only [SX.idsOf, List.flatMap_append, List.mem_append]; exact .inl hin
  rcases hs.new b this with h1 | h1
  · omega
  · exact hM h1
theorem _root_.Go.Proofs.Yteabcdmgklhijaa.Sx.some {A : Option Addr} {xs : List Value} (h : Sx w M A xs) (hp : 0 < xs.length) : ∃ b off, A = Option.some ⟨b, off, none⟩ ∧ Sx w M (Option.some ⟨b, off, none⟩) xs := by
  obtain ⟨b, off, e, hb, hM, hc⟩ := h hp
  subst e
  exact ⟨b, off, rfl, h⟩
/-- a row of ours, apart from what is lent -/
theorem row_lent {g kk cc T size m j : Nat} {xs : List Value} (hs : SX.St w0 M w (L1 ++ L2)) (hj : L2[j]? = some (SX.Ent.row (.slice (some ⟨g, 0, none⟩) kk cc) T size m xs)) : Sx w (SX.idsOf L1) (some ⟨g, 0, none⟩) xs := fun hp => by
  have hj' : (L1 ++ L2)[L1.length + j]? = some (SX.Ent.row (.slice (some ⟨g, 0, none⟩) kk cc) T size m xs) := by
    rw [List.getElem?_append_right (by omega)]
    simpa using hj
  have hr : w.ownsRow 0 T size (.slice (some ⟨g, 0, none⟩) kk cc) m xs := hs.get hj'
  have hlt := (hr.lt g rfl).2
  refine ⟨g, 0, rfl, hlt, fun hin => ?_, fun i u hu => by simpa using SX.row_cell hs hj' hu⟩
  have hn := hs.nodup
  simp only [SX.idsOf, List.flatMap_append] at hn
  refine (List.nodup_append.1 hn).2.2 g hin g ?_ rfl
  exact List.mem_flatMap.2 ⟨_, List.mem_of_getElem? hj, by simp [SX.Ent.row, Value.ownBlock]⟩
theorem row_lentv {T size m j kk cc : Nat} {A : Option Addr} {xs : List Value} (hs : SX.St w0 M w (L1 ++ L2)) (hj : L2[j]? = some (SX.Ent.row (.slice A kk cc) T size m xs)) : Sx w (SX.idsOf L1) A xs := fun hp => by
  have hj' : (L1 ++ L2)[L1.length + j]? = some (SX.Ent.row (.slice A kk cc) T size m xs) := by
    rw [List.getElem?_append_right (by omega)]
    simpa using hj
  have hr : w.ownsRow 0 T size (.slice A kk cc) m xs := hs.get hj'
  rcases hr.2 with ⟨hv, h⟩ | ⟨g, cap, cur, hv, _⟩
  · have := hr.1
    rw [h] at this
    simp at this
    rw [this] at hp
    cases hp
  · simp only [Value.slice.injEq] at hv
    obtain ⟨rfl, rfl, rfl⟩ := hv
    exact row_lent hs hj hp

/-- elements of a borrowed slice -/
theorem cellX {b off : Nat} {xs : List Value} {i : Nat} {u : Value} (h : Sx w0 M (some ⟨b, off, none⟩) xs) (hu : xs[i]? = some u) : ∀ w, SX.Keep w0 M L w → w.cell? ⟨b, off + i, none⟩ = some u := by
  obtain ⟨b', off', e, hb, hM, hc⟩ := h (by have := (List.getElem?_eq_some_iff.1 hu).1; omega)
  simp only [Option.some.injEq, Addr.mk.injEq, and_true] at e
  obtain ⟨rfl, rfl⟩ := e
  exact cellO hb hM (hc i u hu)
theorem cellXi {b off : Nat} {l : List Int} {i : Int} (h : Sx w0 M (some ⟨b, off, none⟩) (ints k l)) (h0 : 0 ≤ i) (hi : i < l.length) : ∀ w, SX.Keep w0 M L w → w.cell? ⟨b, off + i.toNat * 1, none⟩ = some (.int k (elt l i)) := by
  rw [Nat.mul_one]
  exact cellX h (ints_get h0 hi)
theorem flat_get {α β : Type} {enc : α → List β} {s : Nat} (hs : ∀ x, (enc x).length = s) : ∀ {xs : List α} {i j : Nat} {x : α}, xs[i]? = some x → j < s → (xs.flatMap enc)[i * s + j]? = (enc x)[j]?
  | [], i, j, x, h, _ => by simp at h
  | y :: xs, 0, j, x, h, hj => by
    obtain rfl : y = x := by simpa using h
    have := hs y
    rw [List.flatMap_cons, Nat.zero_mul, Nat.zero_add, List.getElem?_append_left (by omega)]
  | y :: xs, i + 1, j, x, h, hj => by
    have := hs y
    rw [List.flatMap_cons, List.getElem?_append_right (by rw [Nat.add_mul]; omega), this, show (i + 1) * s + j - s = i * s + j from by rw [Nat.add_mul]; omega]
    exact flat_get hs (by simpa using h) hj
theorem flat_length {α β : Type} {enc : α → List β} {s : Nat} (hs : ∀ x, (enc x).length = s) : ∀ {xs : List α}, (xs.flatMap enc).length = xs.length * s
  | [] => by simp
  | y :: xs => by rw [List.flatMap_cons, List.length_append, flat_length hs, hs y, List.length_cons, Nat.add_mul]; omega
/-- a field of an element of a borrowed slice of structs -/
theorem cellXf {α : Type} {enc : α → List Value} {s : Nat} {xs : List α} {b off : Nat} {i : Nat} {j : Nat} {x : α} {u : Value} (h : Sx w0 M (some ⟨b, off, none⟩) (xs.flatMap enc)) (hs : ∀ x, (enc x).length = s) (hx : xs[i]? = some x) (hj : (enc x)[j]? = some u) :
    ∀ w, SX.Keep w0 M L w → w.cell? ⟨b, off + (i : Int).toNat * s + j, none⟩ = some u := by
  have hjs : j < s := by
    have := (List.getElem?_eq_some_iff.1 hj).1
    rwa [hs x] at this
  rw [Nat.add_assoc, Int.toNat_natCast]
  exact cellX h ((flat_get hs hx hjs).trans hj)

/-! ## appends -/
theorem append_rowG {s z : Operand} {T' t : TypeId} {A : Option Addr} {k m c size bytes : Nat} {xs news : List Value} {j : Nat} {i0 : TypeInfo} {zv : Value} (ho : o.op = .call { callee := .builtin .append, args := #[s, z], argTypes := #[t, t] }) (hs : SX.St w0 M w L)
    (ht : P.underlying t = some (.slice T')) (hi : P.info? T' = some i0) (hz : i0.zero = some zv) (hsize : i0.size = size) (hby : i0.bytes = bytes) (hzs : zv.cells.size = size) (hpos : 0 < size)
    (hv : a.eval s = v) (hx : a.eval z = .slice A m c) (hj : L[j]? = some (SX.Ent.row v T' size k xs)) (hl : news.length = m * size) (hn : Sl w A news)
    (h1 : ∀ u ∈ news, u.oneCell' = true) (h63 : k + m ≤ maxLen) (hbytes : (k + m) * bytes ≤ 140737488355328)
    (hK : ∀ v' w', SX.St w0 M w' (L.set j (SX.Ent.row v' T' size (k + m) (xs ++ news))) → K (a.put o.dst v') w') (hF : ∀ f, F.fn f) :
    o.wpIn F n P a w K Q := by
  have hr : w.ownsRow 0 T' size v k xs := hs.get hj
  have run : ∃ v' w', (Builtin.append_ #[t, t] o.type #[v, .slice A m c]).run P w = .ok v' w' ∧ w'.ownsRow 0 T' size v' (k + m) (xs ++ news) ∧ w.grownBy w' v.ownBlock ∧ (v'.ownBlock = v.ownBlock ∨ v'.ownBlock = some w.heap.size) := by
    cases A with
    | none =>
      have hm : m = 0 := by
        by_cases hm : m = 0
        · exact hm
        · exfalso
          obtain ⟨b, off, e, _⟩ := hn (by rw [hl]; exact Nat.mul_pos (by omega) hpos)
          cases e
      subst hm
      have hne : news = [] := List.eq_nil_of_length_eq_zero (by simpa using hl)
      subst hne
      have hrun : (Builtin.append_ #[t, t] o.type #[v, .slice none 0 c]).run P w = .ok v w := by
        rcases hr.2 with ⟨rfl, rfl⟩ | ⟨g, cap, cur, rfl, _, _, h2, _⟩
        · simp [Builtin.append_, run_underlying ht, sizeOf, typeInfo, hi, Builtin.lenOf, Builtin.firstCells]
        · simp [Builtin.append_, run_underlying ht, sizeOf, typeInfo, hi, Builtin.lenOf, Builtin.firstCells, h2, storeCells]
      refine ⟨v, w, hrun, by simpa using hr, ?_, .inl rfl⟩
      exact ⟨rfl, rfl, rfl, Nat.le_refl _, fun _ _ _ => rfl⟩
    | some ad =>
      have hnews : ∀ i u, news[i]? = some u → w.cell? (ad.add i) = some u := fun i u hu => by
        obtain ⟨b, off, e, _, hc⟩ := hn (by have := (List.getElem?_eq_some_iff.1 hu).1; omega)
        obtain rfl := Option.some.inj e
        rw [add_none]
        exact hc i u hu
      obtain ⟨v', w', h2, h3, h4, _, h5⟩ := run_append_own_at (P := P) w 0 t o.type T' i0 zv size bytes ht hi hz hsize hby hzs hpos v k xs hr ad m c news hl hnews h1 h63 hbytes (Nat.zero_le _)
      exact ⟨v', w', h2, h3, h4, h5⟩
  obtain ⟨v', w', hrun, h2, h3, h5⟩ := run
  refine ⟨fun f _ => hF f, ?_⟩
  rw [Oper.semAt_plain F _ _ (by intro c hc; rw [ho] at hc; cases hc)]
  simp only [execOp, ho, resolve, invoke, builtin, Sem.run_bind, Sem.run_pure, Result.andThen_ok, List.map_toArray, List.map_cons, List.map_nil, hv, hx, hrun]
  refine hK v' w' (SX.St.back hj ((hs.front hj).step h3.os h3.tape h3.output h3.size (fun b hb hne => h3.block b hb (fun e => hne ?_)) ?_ (fun b hb => ?_) h2))
  · simp [SX.Ent.row, ← e]
  · cases h : v'.ownBlock <;> simp [SX.Ent.row, h]
  · have hb' : v'.ownBlock = some b := by
      cases h : v'.ownBlock with
      | none => simp [SX.Ent.row, h] at hb
      | some q => simp [SX.Ent.row, h] at hb; rw [hb]
    rcases h5 with h5 | h5
    · left
      rw [h5] at hb'
      simp [SX.Ent.row, hb']
    · right
      rw [h5] at hb'
      simp only [Option.some.injEq] at hb'
      omega
theorem ZO.appendG [Wide F] {s z : Operand} {T' t : TypeId} {A : Option Addr} {kk m c size bytes : Nat} {xs news : List Value} {j : Nat} {i0 : TypeInfo} {zv : Value}
    (ho : o.op = .call { callee := .builtin .append, args := #[s, z], argTypes := #[t, t] }) (hd : o.dst = some d) (hc : chk N d E [] = true) (hs : SX.St w0 M w L)
    (ht : P.underlying t = some (.slice T')) (hi : P.info? T' = some i0) (hz : i0.zero = some zv) (hsize : i0.size = size) (hby : i0.bytes = bytes) (hzs : zv.cells.size = size) (hpos : 0 < size)
    (hv : ev E [] s = some v) (hx : ev E [] z = some (.slice A m c)) (hj : L[j]? = some (SX.Ent.row v T' size kk xs)) (hn : Sl w A news) (hl : news.length = m * size)
    (h1 : ∀ u ∈ news, u.oneCell' = true) (h63 : kk + m ≤ maxLen) (hbytes : (kk + m) * bytes ≤ 140737488355328)
    (h : ∀ v' w', SX.St w0 M w' (L.set j (SX.Ent.row v' T' size (kk + m) (xs ++ news))) → Z N ((d, [], v') :: E) D K w') : ZO F n P N E D o K Q w := by
  intro a ha
  obtain ⟨c1, c2, c3⟩ := chk_spec hc
  refine append_rowG ho hs ht hi hz hsize hby hzs hpos (ev0 ha hv) (ev0 ha hx) hj hl hn h1 h63 hbytes (fun v' w' hs' => ?_) (fun f => Wide.fn f)
  rw [hd]
  exact h v' w' hs' _ (ha.put c1 c2 c3 (by rw [if_pos gnil]))
/-- []T{} -/
theorem ZO.empty [Wide F] (ho : o.op = .buildSlice T 0 #[]) (hd : o.dst = some d) (hc : chk N d E [] = true) (ht : P.underlying T = some (.slice T')) {s : Nat} (hsz : ∀ w, (sizeOf T').run P w = .ok s w) (hs : SX.St w0 M w L)
    (h : ∀ g w', SX.St w0 M w' (SX.Ent.row (.slice (some ⟨g, 0, none⟩) 0 0) T' s 0 [] :: L) → Z N ((d, [], .slice (some ⟨g, 0, none⟩) 0 0) :: E) D K w') : ZO F n P N E D o K Q w := by
  refine ZO.value (v := .slice (some ⟨w.heap.size, 0, none⟩) 0 0) (w' := w.alloc (.cells #[] T')) (by intro c e; rw [ho] at e; cases e) hd hc (fun a ha => ?_) (h _ _ ?_)
  · have e0 : Array.range 0 = #[] := Array.eq_empty_of_size_eq_zero (by simp)
    simp [execOp, ho, Instr.buildSlice, run_underlying ht, hsz, Instr.fill, newRow, e0]
  · exact SX.St.asRow (hs.alloc (.cells #[] T')) (by simp) (Nat.zero_le _)
theorem ints_one {l : List Int} : ∀ u ∈ ints k l, u.oneCell' = true := fun u hu => by
  simp only [ints, List.mem_map] at hu
  obtain ⟨z, _, rfl⟩ := hu
  rfl

/-! ## comparisons with nil -/
theorem eqIn_slice (q : Nat) {A : Option Addr} {nn cc : Nat} {e : TypeId} (ht : P.underlying T = some (.slice e)) : (Op.equalIn (q + 1) T (.slice A nn cc) (.slice none 0 0)).run P w = .ok A.isNone w := by
  cases A <;> simp [Op.equalIn, run_underlying ht]
theorem eqIn_ptr (q : Nat) {A : Option Addr} {e : TypeId} (ht : P.underlying T = some (.pointer e)) : (Op.equalIn (q + 1) T (.pointer A) (.pointer none)).run P w = .ok A.isNone w := by
  cases A <;> simp [Op.equalIn, run_underlying ht]
theorem Yd.sliceNil {A : Option Addr} {nn cc : Nat} {e : TypeId} (hx : ev E G x = some (.slice A nn cc)) (hy : y = .const (.slice none 0 0)) (ht : P.underlying T = some (.slice e)) : Yd P N D S E G (.binOp .eql T x y T') (.bool A.isNone) :=
  Yd.bin hx (by rw [hy]; rfl) fun _ w => by
    have : eqGuard .eql T x y (.slice A nn cc) (.slice none 0 0) = Pure.pure () := rfl
    rw [this]
    simp only [binOp]
    simp [Op.equal, Op.maxDepth, eqIn_slice 9999 ht]
theorem Yd.sliceNnil {A : Option Addr} {nn cc : Nat} {e : TypeId} (hx : ev E G x = some (.slice A nn cc)) (hy : y = .const (.slice none 0 0)) (ht : P.underlying T = some (.slice e)) : Yd P N D S E G (.binOp .neq T x y T') (.bool (!A.isNone)) :=
  Yd.bin hx (by rw [hy]; rfl) fun _ w => by
    have : eqGuard .neq T x y (.slice A nn cc) (.slice none 0 0) = Pure.pure () := rfl
    rw [this]
    simp only [binOp]
    simp [Op.equal, Op.maxDepth, eqIn_slice 9999 ht]
theorem Yd.ptrNil {A : Option Addr} {e : TypeId} (hx : ev E G x = some (.pointer A)) (hy : y = .const (.pointer none)) (ht : P.underlying T = some (.pointer e)) : Yd P N D S E G (.binOp .eql T x y T') (.bool A.isNone) :=
  Yd.bin hx (by rw [hy]; rfl) fun _ w => by
    have : eqGuard .eql T x y (.pointer A) (.pointer none) = Pure.pure () := rfl
    rw [this]
    simp only [binOp]
    simp [Op.equal, Op.maxDepth, eqIn_ptr 9999 ht]
theorem Yd.ptrNnil {A : Option Addr} {e : TypeId} (hx : ev E G x = some (.pointer A)) (hy : y = .const (.pointer none)) (ht : P.underlying T = some (.pointer e)) : Yd P N D S E G (.binOp .neq T x y T') (.bool (!A.isNone)) :=
  Yd.bin hx (by rw [hy]; rfl) fun _ w => by
    have : eqGuard .neq T x y (.pointer A) (.pointer none) = Pure.pure () := rfl
    rw [this]
    simp only [binOp]
    simp [Op.equal, Op.maxDepth, eqIn_ptr 9999 ht]

/-! ## strings of bytes -/
def strOf (l : List Int) : ByteArray := l.foldl (fun r n => r.push (UInt8.ofNat n.toNat)) ByteArray.empty
theorem strOf_list (l : List Int) : (strOf l).data.toList = l.map fun n => UInt8.ofNat n.toNat := by
  have : ∀ (l : List Int) (r : ByteArray), (l.foldl (fun r n => r.push (UInt8.ofNat n.toNat)) r).data.toList = r.data.toList ++ l.map fun n => UInt8.ofNat n.toNat := by
    intro l
    induction l with
    | nil => intro r; simp
    | cons x l ih => intro r; rw [List.foldl_cons, ih]; simp [ByteArray.push]
  unfold strOf
  simpa using this l ByteArray.empty
theorem strOf_inj {l m : List Int} (hl : ∀ x ∈ l, 0 ≤ x ∧ x < 256) (hm : ∀ x ∈ m, 0 ≤ x ∧ x < 256) (h : strOf l = strOf m) : l = m := by
  have h1 := congrArg (fun s : ByteArray => s.data.toList) h
  simp only [strOf_list] at h1
  have : ∀ (l m : List Int), (∀ x ∈ l, 0 ≤ x ∧ x < 256) → (∀ x ∈ m, 0 ≤ x ∧ x < 256) → (l.map fun n => UInt8.ofNat n.toNat) = (m.map fun n => UInt8.ofNat n.toNat) → l = m := by
    intro l
    induction l with
    | nil => intro m _ _ h; cases m <;> simp_all
    | cons x l ih =>
      intro m hl hm h
      cases m with
      | nil => simp at h
      | cons y m =>
        simp only [List.map_cons, List.cons.injEq] at h
        have hx := hl x (by simp)
        have hy := hm y (by simp)
        have e := congrArg UInt8.toNat h.1
        simp [UInt8.toNat_ofNat] at e
        have : x = y := by omega
        rw [this, ih m (fun z hz => hl z (by simp [hz])) (fun z hz => hm z (by simp [hz])) h.2]
  exact this l m hl hm h1
theorem Yd.b2s {A : Option Addr} {nn cc : Nat} {l : List Int} {e : TypeId} (hx : ev E G x = some (.slice A nn cc)) (ht : P.underlying T = some (.slice e)) (he : P.underlying e = some (.int .u8)) (ht' : P.underlying T' = some .string)
    (hl : l.length = nn) (hc : ∀ w, S w → Sl w A (ints .u8 l)) : Yd P N D S E G (.convert T T' x) (.string (strOf l)) := by
  refine ⟨fun c e => (by cases e), fun a ha hg o ho w hS => ?_⟩
  have h1 := ev_eval ha hg hx
  have hsl := hc w hS
  have hrun : (Conv.bytesToString (.slice A nn cc)).run P w = .ok (.string (strOf l)) w := by
    cases A with
    | none =>
      have : l = [] := by
        cases l with
        | nil => rfl
        | cons x l =>
          obtain ⟨b, off, e, _⟩ := hsl (by simp [ints])
          cases e
      subst this
      simp [Conv.bytesToString, strOf]
    | some ad =>
      refine run_bytesToString w ad nn cc l ?_
      by_cases hp : 0 < l.length
      · obtain ⟨b, off, e, _, hcell⟩ := hsl (by simpa [ints] using hp)
        obtain rfl := Option.some.inj e
        have := run_loadCells_list (P := P) w ⟨b, off, none⟩ (l.map (Value.int .u8)) (fun j u hu => by rw [add_none]; exact hcell j u hu)
        simpa [hl] using this
      · have : l = [] := List.eq_nil_of_length_eq_zero (by omega)
        subst this
        simp at hl
        subst hl
        rfl
  simp only [execOp, ho, h1, Go.convert, Sem.run_bind, run_underlying ht, run_underlying ht', run_underlying he, Result.andThen_ok, hrun, Sem.run_pure]
theorem Yd.strEq {s t : ByteArray} (hx : ev E G x = some (.string s)) (hy : ev E G y = some (.string t)) : Yd P N D S E G (.binOp .eql T x y T') (.bool (s.toList == t.toList)) :=
  Yd.bin hx hy fun _ w => by
    have : eqGuard .eql T x y (.string s) (.string t) = Pure.pure () := rfl
    rw [this]
    simp [binOp, Op.stringOp]
theorem str_eq {l m : List Int} (hl : ∀ x ∈ l, 0 ≤ x ∧ x < 256) (hm : ∀ x ∈ m, 0 ≤ x ∧ x < 256) : ((strOf l).toList == (strOf m).toList) = decide (l = m) := by
  by_cases h : l = m
  · subst h; simp
  · rw [decide_eq_false h]
    cases hb : ((strOf l).toList == (strOf m).toList) with
    | false => rfl
    | true =>
      exfalso
      apply h
      refine strOf_inj hl hm ?_
      have := eq_of_beq hb
      rw [ByteArray.toList_eq, ByteArray.toList_eq] at this
      exact ByteArray.ext (Array.ext' this)
end Z
end Go.Proofs.Yteabcdmgklhijaa
