/- qam.Demodulate. -/
import Derived.Test.YthncbdoiilgnhaaQmF
namespace Go.Proofs.Ythncbdoiilgnhaa
open Go.RowKit
set_option linter.unusedSimpArgs false
set_option linter.unusedVariables false
attribute [local go_sem] Oper.semAt_some

/-- is the point in range -/
def ins (p : Int × Int) : Bool := decide (-1048576 ≤ min p.1 p.2) && decide (max p.1 p.2 ≤ 1048576)

set_option maxRecDepth 100000 in
set_option maxHeartbeats 400000 in
theorem inside_any (x y : Int) (w : World) : Calls Try.prog 35 #[.agg #[.int .i64 x, .int .i64 y]] w (SX.Ret fun v w' => v = .bool (ins (x, y)) ∧ SX.St w [] w' []) := by
  refine SX.enter Try.func35 rfl ?_
  simp only [Try.ntmps35, List.size_toArray, List.length_cons, List.length_nil, Nat.reduceAdd, Nat.reduceSub, Array.replicate_succ, Array.replicate_zero, List.push_toArray, List.append_toArray, List.nil_append, List.cons_append]
  have hs := SX.St.start w
  gi_wp2_with (first
    | (refine SX.lsm rfl rfl ?_; first | (refine SX.load_blk rfl (by assumption) (by first | (simp; done) | fail) (by rfl) (by first | exact SX.at0 | exact SX.at1 | exact SX.at2 | exact SX.at3 | exact SX.at4 | exact SX.at5) (by rfl) ?_) | (refine SX.load_old rfl (by assumption) (by first | (simp; done) | fail) (by rfl) (by assumption) (by first | (simp; done) | fail) (by assumption) ?_) | (refine SX.store_blk rfl (by assumption) (by first | (simp; done) | fail) (by rfl) (by first | (go_simp; exact rfl) | fail) (by rfl) (by first | exact SX.at0 | exact SX.at1 | exact SX.at2 | exact SX.at3 | exact SX.at4 | exact SX.at5) (by first | (simp; done) | fail) ?_; intro w1 hs1; simp only [List.set_cons_zero, List.set_cons_succ, List.setIfInBounds_toArray] at hs1) | (refine SX.alc_ptr rfl (by assumption) (by first | (intro W; go_simp; exact rfl) | fail) ?_; intro g1 w1 hs1) | (refine SX.alc_slice rfl (by assumption) (by first | (intro W; go_simp; exact rfl) | fail) ?_; intro g1 w1 hs1) | (refine SX.store_agg rfl (by assumption) (by rfl) (by first | (go_simp; exact rfl) | fail) (by kernel_rfl) (by first | (simp [Value.oneCell']; done) | fail) (by first | exact SX.at0 | exact SX.at1 | exact SX.at2 | exact SX.at3 | exact SX.at4 | exact SX.at5) (by rfl) ?_; intro w1 hs1; simp only [List.set_cons_zero, List.set_cons_succ, List.setIfInBounds_toArray] at hs1) | (refine SX.load_aggB rfl (by assumption) (by first | (simp; done) | fail) (by rfl) (by first | exact SX.at0 | exact SX.at1 | exact SX.at2 | exact SX.at3 | exact SX.at4 | exact SX.at5) (by kernel_rfl) ?_))
    | (refine SX.lsmw rfl (by rfl) ?_; first | (refine SX.load_blk rfl (by assumption) (by first | (simp; done) | fail) (by rfl) (by first | exact SX.at0 | exact SX.at1 | exact SX.at2 | exact SX.at3 | exact SX.at4 | exact SX.at5) (by rfl) ?_) | (refine SX.load_old rfl (by assumption) (by first | (simp; done) | fail) (by rfl) (by assumption) (by first | (simp; done) | fail) (by assumption) ?_) | (refine SX.store_blk rfl (by assumption) (by first | (simp; done) | fail) (by rfl) (by first | (go_simp; exact rfl) | fail) (by rfl) (by first | exact SX.at0 | exact SX.at1 | exact SX.at2 | exact SX.at3 | exact SX.at4 | exact SX.at5) (by first | (simp; done) | fail) ?_; intro w1 hs1; simp only [List.set_cons_zero, List.set_cons_succ, List.setIfInBounds_toArray] at hs1) | (refine SX.alc_ptr rfl (by assumption) (by first | (intro W; go_simp; exact rfl) | fail) ?_; intro g1 w1 hs1) | (refine SX.alc_slice rfl (by assumption) (by first | (intro W; go_simp; exact rfl) | fail) ?_; intro g1 w1 hs1) | (refine SX.store_agg rfl (by assumption) (by rfl) (by first | (go_simp; exact rfl) | fail) (by kernel_rfl) (by first | (simp [Value.oneCell']; done) | fail) (by first | exact SX.at0 | exact SX.at1 | exact SX.at2 | exact SX.at3 | exact SX.at4 | exact SX.at5) (by rfl) ?_; intro w1 hs1; simp only [List.set_cons_zero, List.set_cons_succ, List.setIfInBounds_toArray] at hs1) | (refine SX.load_aggB rfl (by assumption) (by first | (simp; done) | fail) (by rfl) (by first | exact SX.at0 | exact SX.at1 | exact SX.at2 | exact SX.at3 | exact SX.at4 | exact SX.at5) (by kernel_rfl) ?_)))
  all_goals
    go_ret
    refine ⟨_, rfl, congrArg Value.bool ?_, hs1.tl⟩
    rw [Bool.eq_iff_iff]
    simp [ins]
    omega

set_option maxRecDepth 100000 in
set_option maxHeartbeats 400000 in
theorem outside_any (x y : Int) (w : World) : Calls Try.prog 34 #[.agg #[.int .i64 x, .int .i64 y]] w (SX.Ret fun v w' => v = .bool (!ins (x, y)) ∧ SX.St w [] w' []) := by
  refine SX.enter Try.func34 rfl ?_
  simp only [Try.ntmps34, List.size_toArray, List.length_cons, List.length_nil, Nat.reduceAdd, Nat.reduceSub, Array.replicate_succ, Array.replicate_zero, List.push_toArray, List.append_toArray, List.nil_append, List.cons_append]
  have hs := SX.St.start w
  gi_wp2_with (first
    | (refine SX.lsm rfl rfl ?_; first | (refine SX.load_blk rfl (by assumption) (by first | (simp; done) | fail) (by rfl) (by first | exact SX.at0 | exact SX.at1 | exact SX.at2 | exact SX.at3 | exact SX.at4 | exact SX.at5) (by rfl) ?_) | (refine SX.load_old rfl (by assumption) (by first | (simp; done) | fail) (by rfl) (by assumption) (by first | (simp; done) | fail) (by assumption) ?_) | (refine SX.store_blk rfl (by assumption) (by first | (simp; done) | fail) (by rfl) (by first | (go_simp; exact rfl) | fail) (by rfl) (by first | exact SX.at0 | exact SX.at1 | exact SX.at2 | exact SX.at3 | exact SX.at4 | exact SX.at5) (by first | (simp; done) | fail) ?_; intro w1 hs1; simp only [List.set_cons_zero, List.set_cons_succ, List.setIfInBounds_toArray] at hs1) | (refine SX.alc_ptr rfl (by assumption) (by first | (intro W; go_simp; exact rfl) | fail) ?_; intro g1 w1 hs1) | (refine SX.alc_slice rfl (by assumption) (by first | (intro W; go_simp; exact rfl) | fail) ?_; intro g1 w1 hs1) | (refine SX.store_agg rfl (by assumption) (by rfl) (by first | (go_simp; exact rfl) | fail) (by kernel_rfl) (by first | (simp [Value.oneCell']; done) | fail) (by first | exact SX.at0 | exact SX.at1 | exact SX.at2 | exact SX.at3 | exact SX.at4 | exact SX.at5) (by rfl) ?_; intro w1 hs1; simp only [List.set_cons_zero, List.set_cons_succ, List.setIfInBounds_toArray] at hs1) | (refine SX.load_aggB rfl (by assumption) (by first | (simp; done) | fail) (by rfl) (by first | exact SX.at0 | exact SX.at1 | exact SX.at2 | exact SX.at3 | exact SX.at4 | exact SX.at5) (by kernel_rfl) ?_))
    | (refine SX.lsc rfl rfl ?_; refine SX.wp_calls (fun _ => trivial) rfl rfl (by rfl) Try.call35 (by go_simp; rfl) ?_; refine (SX.call (inside_any x y _)).mono ?_; rintro e w3 ⟨v, rfl, rfl, hs3⟩; have hs4 := hs1.call hs3; refine ⟨_, rfl, ?_⟩))
  go_ret
  exact ⟨_, rfl, rfl, hs4.sub (List.nil_sublist _)⟩

/-- point z -/
def ptAt (l : List (Int × Int)) (z : Int) : Int × Int := l.getD z.toNat (0, 0)

theorem pcells_get : ∀ (l : List (Int × Int)) (i : Nat), i < l.length → (pcells l)[i * 2]? = some (.int .i64 (ptAt l (i : Nat)).1) ∧ (pcells l)[i * 2 + 1]? = some (.int .i64 (ptAt l (i : Nat)).2)
  | [], i, h => absurd h (Nat.not_lt_zero _)
  | a :: l, 0, _ => by simp [pcells, ptAt]
  | a :: l, i + 1, h => by
    have ih := pcells_get l i (by simpa using h)
    have e : pcells (a :: l) = .int .i64 a.1 :: .int .i64 a.2 :: pcells l := by simp [pcells]
    rw [e, show (i + 1) * 2 = i * 2 + 1 + 1 from by omega]
    simp only [List.getElem?_cons_succ]
    refine ⟨ih.1.trans ?_, ih.2.trans ?_⟩ <;> simp [ptAt]

theorem Sl.pt {w : World} {A : Option Addr} {ps : List (Int × Int)} (h : Sl w A (pcells ps)) {z : Int} (h0 : 0 ≤ z) (hz : z < ps.length) :
    ∃ b off, A = some ⟨b, off, none⟩ ∧ b < w.heap.size ∧ ∀ j u, [Value.int .i64 (ptAt ps z).1, .int .i64 (ptAt ps z).2][j]? = some u → w.cell? ⟨b, off + z.toNat * 2 + j, none⟩ = some u := by
  obtain ⟨b, off, rfl, hb, hc⟩ := h (by rw [pcells_length]; omega)
  have hg := pcells_get ps z.toNat (by omega)
  rw [Int.toNat_of_nonneg h0] at hg
  refine ⟨b, off, rfl, hb, fun j u hu => ?_⟩
  rw [Nat.add_assoc]
  refine hc _ _ ?_
  match j, hu with
  | 0, hu => rw [Nat.add_zero, hg.1]; exact hu
  | 1, hu => rw [hg.2]; exact hu
  | j + 2, hu => simp at hu

/-- no element before z has p -/
def noneUptoP (l : List (Int × Int)) (p : Int × Int → Bool) (z : Int) : Prop := ∀ j : Int, 0 ≤ j → j < z → p (ptAt l j) = false

theorem any_of_uptoP {l : List (Int × Int)} {p : Int × Int → Bool} (h : noneUptoP l p l.length) : l.any p = false := by
  rw [List.any_eq_false]
  intro x hx
  obtain ⟨i, hi, rfl⟩ := List.getElem_of_mem hx
  have := h i (by omega) (by omega)
  simp [ptAt, hi] at this
  simp [this]
theorem any_of_ptP {l : List (Int × Int)} {p : Int × Int → Bool} {z : Int} (h0 : 0 ≤ z) (h1 : z < l.length) (h : p (ptAt l z) = true) : l.any p = true := by
  rw [List.any_eq_true]
  have hz : z.toNat < l.length := by omega
  exact ⟨l[z.toNat], List.getElem_mem hz, by simpa [ptAt, hz] using h⟩
theorem ptAt_mem {l : List (Int × Int)} {z : Int} (h0 : 0 ≤ z) (h1 : z < l.length) : ptAt l z ∈ l := by
  have hz : z.toNat < l.length := by omega
  simp [ptAt, hz]

set_option maxRecDepth 100000 in
set_option maxHeartbeats 400000 in
theorem indexFuncP (A : Option Addr) (n c : Nat) (bs : List (Int × Int)) (w : World) (hr : Sl w A (pcells bs)) (hl : bs.length = n) (hn : n ≤ 9223372036854775807) (k : FuncId) (cap : Array Value)
    (hk : ∀ args w, (callFunc k args).run Try.prog w = .ok (.enter k args) w) (p : Int × Int → Bool) (hp : ∀ x ∈ bs, ∀ W, SX.St w [] W [] → Calls Try.prog k (Value.agg #[.int .i64 x.1, .int .i64 x.2] :: cap.toList).toArray W (SX.Ret fun v w' => v = .bool (p x) ∧ SX.St W [] w' [])) :
    Calls Try.prog 43 #[.slice A n c, .func (.func k) #[] cap] w (SX.Ret fun v w' => ∃ z : Int, v = .int .i64 z ∧ decide (0 ≤ z) = bs.any p ∧ -1 ≤ z ∧ z < n ∧ SX.St w [] w' []) := by
  have HP := Lib.hid hp
  have HL := Lib.hid hl
  have HK := Lib.hid hk
  clear hp hl hk
  refine SX.enter Try.func43 rfl ?_
  simp only [Try.ntmps43, List.size_toArray, List.length_cons, List.length_nil, Nat.reduceAdd, Nat.reduceSub, Array.replicate_succ, Array.replicate_zero, List.push_toArray, List.append_toArray, List.nil_append, List.cons_append]
  gi_wp2
  gi_loopw [8] (fun i wr => ∃ z : Int, i = .int .i64 z ∧ 0 ≤ z ∧ z ≤ n ∧ noneUptoP bs p z ∧ SX.St w [] wr []) (fun i _ => n - (intOf i).toNat)
  case atStart => exact ⟨0, rfl, by omega, by omega, fun j h1 h2 => by omega, SX.St.start w⟩
  case round =>
    obtain ⟨z, rfl, hz0, hzn, hno, hs⟩ := hrel
    by_cases hlt : z < n
    · obtain ⟨b, off, rfl, hb, hc⟩ := hr.pt (z := z) hz0 (by rw [HL.out]; exact hlt)
      have HC := Lib.hid (fun j u hu => (hs.oldcell (p := ⟨b, off + z.toNat * 2 + j, none⟩) hb (by simp)).trans (hc j u hu))
      clear hr hc
      have hcall := Lib.hid (HP.out (ptAt bs z) (ptAt_mem hz0 (by rw [HL.out]; exact hlt)) wr hs)
      gi_wp2_with (first
        | (refine SX.lsm rfl rfl ?_; first | (refine SX.load_blk rfl (by assumption) (by first | (simp; done) | fail) (by rfl) (by first | exact SX.at0 | exact SX.at1 | exact SX.at2 | exact SX.at3 | exact SX.at4 | exact SX.at5) (by rfl) ?_) | (refine SX.load_old rfl (by assumption) (by first | (simp; done) | fail) (by rfl) (by assumption) (by first | (simp; done) | fail) (by assumption) ?_) | (refine SX.store_blk rfl (by assumption) (by first | (simp; done) | fail) (by rfl) (by first | (go_simp; exact rfl) | fail) (by rfl) (by first | exact SX.at0 | exact SX.at1 | exact SX.at2 | exact SX.at3 | exact SX.at4 | exact SX.at5) (by first | (simp; done) | fail) ?_; intro w1 hs1; simp only [List.set_cons_zero, List.set_cons_succ, List.setIfInBounds_toArray] at hs1) | (refine SX.alc_ptr rfl (by assumption) (by first | (intro W; go_simp; exact rfl) | fail) ?_; intro g1 w1 hs1) | (refine SX.alc_slice rfl (by assumption) (by first | (intro W; go_simp; exact rfl) | fail) ?_; intro g1 w1 hs1))
        | (refine SX.lsm rfl rfl ?_; refine SX.load_agg _ rfl (by first | (simp; done) | fail) (by kernel_rfl) (by rfl) HC.out ?_)
        | (refine SX.lsc rfl rfl (SX.wp_calls (fun _ => trivial) rfl rfl (by rfl) HK.out (by go_simp; rfl) ?_); refine (SX.call hcall.out).mono ?_; rintro e w1 ⟨v, rfl, rfl, hs1⟩; refine ⟨_, rfl, ?_⟩))
      · have hpt : p (ptAt bs z) = true := by assumption
        go_ret
        exact ⟨_, rfl, z, rfl, by rw [any_of_ptP hz0 (by rw [HL.out]; exact hlt) hpt]; simpa using hz0, by omega, hlt, hs.call hs1⟩
      · have hpt : p (ptAt bs z) = false := by assumption
        go_roundw
        case rel =>
          refine ⟨z + 1, by go_num, by omega, by omega, fun j h1 h2 => ?_, hs.call hs1⟩
          rcases Int.lt_or_le j z with h | h
          · exact hno j h1 h
          · obtain rfl : j = z := by omega
            exact hpt
        case measure => simp [intOf]; omega
    · have e : z = n := by omega
      have HE := Lib.hid e
      clear e
      gi_wp2
      go_ret
      exact ⟨_, rfl, -1, rfl, by rw [any_of_uptoP (by rw [HL.out, ← HE.out]; exact hno)]; rfl, by omega, by omega, hs⟩

set_option maxRecDepth 100000 in
set_option maxHeartbeats 400000 in
theorem containsFuncP (A : Option Addr) (n c : Nat) (bs : List (Int × Int)) (w : World) (hr : Sl w A (pcells bs)) (hl : bs.length = n) (hn : n ≤ 9223372036854775807) (k : FuncId) (cap : Array Value)
    (hk : ∀ args w, (callFunc k args).run Try.prog w = .ok (.enter k args) w) (p : Int × Int → Bool) (hp : ∀ x ∈ bs, ∀ W, SX.St w [] W [] → Calls Try.prog k (Value.agg #[.int .i64 x.1, .int .i64 x.2] :: cap.toList).toArray W (SX.Ret fun v w' => v = .bool (p x) ∧ SX.St W [] w' [])) :
    Calls Try.prog 33 #[.slice A n c, .func (.func k) #[] cap] w (SX.Ret fun v w' => v = .bool (bs.any p) ∧ SX.St w [] w' []) := by
  have HC := Lib.hid (indexFuncP A n c bs w hr hl hn k cap hk p hp)
  clear hr hp hk
  refine SX.enter Try.func33 rfl ?_
  simp only [Try.ntmps33, List.size_toArray, List.length_cons, List.length_nil, Nat.reduceAdd, Nat.reduceSub, Array.replicate_succ, Array.replicate_zero, List.push_toArray, List.append_toArray, List.nil_append, List.cons_append]
  gi_wp2_with (first
    | (refine SX.lsc rfl rfl (SX.wp_calls (fun _ => trivial) rfl rfl (by rfl) Try.call43 (by go_simp; rfl) ?_); refine (SX.call HC.out).mono ?_; rintro e w1 ⟨v, rfl, z, rfl, hz, h1, h2, hs1⟩; have HZ := Lib.hid hz; clear hz; refine ⟨_, rfl, ?_⟩))
  all_goals
    go_ret
    refine ⟨_, rfl, ?_, by assumption⟩
    rw [← HZ.out]
    simp [*]
end Go.Proofs.Ythncbdoiilgnhaa
