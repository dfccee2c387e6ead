/- Part 2 of the proofs that lead to the statement. -/
import Derived.Test.YthncbdoiilgnhaaY1
import Derived.Test.YthncbdoiilgnhaaRows
import Derived.Laws.Tables
/- The functions of package qam, asz far asz they modulate. -/
namespace Go.Proofs.Ythncbdoiilgnhaa
open Go.RowKit
set_option linter.unusedSimpArgs false
set_option linter.unusedVariables false

theorem info5 : (Try.prog.info? 5).map (fun i => (i.zero, i.size, i.bytes)) = some (some (.int .u8 0), 1, 1) := by kernel_rfl
theorem mixed : Try.prog.follows .mixedOrders = true := by kernel_rfl

def lev : List Int → Int
  | [] => 0
  | b :: r => (1 - 2 * b) * (2 ^ r.length - lev r)

theorem lev_bd : ∀ (bs : List Int), (∀ b ∈ bs, b = 0 ∨ b = 1) → -(2 : Int) ^ bs.length < lev bs ∧ lev bs < 2 ^ bs.length
  | [], _ => by simp [lev]
  | b :: r, h => by
    have ih := lev_bd r (fun x hx => h x (by simp [hx]))
    have hp : (2 : Int) ^ (b :: r).length = 2 * 2 ^ r.length := by simp [Int.pow_succ, Int.mul_comm]
    rw [hp]
    simp only [lev]
    rcases h b (by simp) with rfl | rfl
    · simp only [Int.mul_zero, Int.sub_zero, Int.one_mul]; omega
    · simp only [Int.mul_one, Int.reduceSub, Int.reduceNeg, Int.neg_mul, Int.one_mul]; omega

theorem elt_zero (x : Int) (r : List Int) : elt (x :: r) 0 = x := rfl

set_option maxRecDepth 100000 in
set_option maxHeartbeats 400000 in
theorem level_nil (A : Option Addr) (c : Nat) (w : World) :
    Calls Try.prog 29 #[.slice A 0 c] w (SX.Ret fun v w' => v = .int .i64 0 ∧ SX.St w [] w' []) := by
  refine SX.enter Try.func29 rfl ?_
  simp only [Try.ntmps29, List.size_toArray, List.length_cons, List.length_nil, Nat.reduceAdd, Nat.reduceSub, Array.replicate_succ, Array.replicate_zero, List.push_toArray, List.append_toArray, List.nil_append, List.cons_append]
  gi_wp2
  go_ret
  exact ⟨_, rfl, rfl, SX.St.start w⟩

set_option maxRecDepth 100000 in
set_option maxHeartbeats 400000 in
theorem level_any : ∀ (bs : List Int) (A : Option Addr) (c n : Nat) (w : World) (hr : Sl w A (ints .u8 bs)) (hl : bs.length = n) (hn : n ≤ 3) (hnc : n ≤ c) (hb : ∀ b ∈ bs, b = 0 ∨ b = 1), 
    Calls Try.prog 29 #[.slice A n c] w (SX.Ret fun v w' => v = .int .i64 (lev bs) ∧ SX.St w [] w' []) := by
  intro bs
  induction bs with
  | nil =>
    intro A c n w hr hl hn hnc hb
    subst hl
    exact level_nil A c w
  | cons x r ih =>
    intro A c n w hr hl hn hnc hb
    have ih' := fun A W (hr : Sl W A (ints .u8 r)) => ih A (c - 1) (n - 1) W hr (by simp at hl; omega) (by omega) (by omega) (fun b hb' => hb b (by simp [hb']))
    obtain ⟨b, off, rfl, hbb, hc⟩ := hr.at (i := 0) (by omega) (by simp only [List.length_cons]; omega)
    have hbd := lev_bd r (fun b hb' => hb b (by simp [hb']))
    have hlev : Hid (lev (x :: r) = (1 - 2 * x) * (2 ^ r.length - lev r)) := Lib.hid rfl
    have hx : x = 0 ∨ x = 1 := hb x (by simp)
    have hrl : r.length = 0 ∨ r.length = 1 ∨ r.length = 2 := by simp at hl; omega
    have hn' : n = r.length + 1 := by simp at hl; omega
    subst hn'
    have ht := hr.tail hnc
    have hnc' : ((r.length + 1 : Nat) : Int) ≤ c := by omega
    have hc2 : ¬ c = 0 := by omega
    clear hr hl ih
    rw [elt_zero] at hc
    generalize hv : lev r = y at *
    rcases hx with rfl | rfl <;> rcases hrl with e | e | e <;> (rw [e] at hbd hlev hnc hnc' hn ih' ⊢) <;> simp only [Nat.zero_add, Nat.reduceAdd, Nat.reduceSub, Nat.add_sub_cancel, Nat.sub_self] at hlev hnc hnc' ih' ⊢ <;> simp at hbd
    all_goals
      have IH := Lib.hid ih'
      clear ih'
      clear e hv
      obtain ⟨hy1, hy2⟩ := hbd
      refine SX.enter Try.func29 rfl ?_
      simp only [Try.ntmps29, List.size_toArray, List.length_cons, List.length_nil, Nat.reduceAdd, Nat.reduceSub, Array.replicate_succ, Array.replicate_zero, List.push_toArray, List.append_toArray, List.nil_append, List.cons_append]
      gi_wp2
      have hs := (SX.St.start w).drew
      refine SX.region_begin (SX.Keep w [] []) (fun _ => true) mixed ?_
      have hK : SX.Keep w [] [] w.drew := ⟨_, hs, by simp⟩
      refine SX.take 0 (fun _ => trivial) (by simp only [List.getElem?_toArray, List.getElem?_cons_succ, List.getElem?_cons_zero]; rfl) (by kernel_rfl) (by exact fun _ _ _ h => h) (by rfl) (by intro w' _; go_simp; (try go_bits); rfl) hK ?_
      simp only [Act.put, List.setIfInBounds_toArray, List.set_cons_succ, List.set_cons_zero]
      refine SX.take 1 (fun _ => trivial) (by simp only [List.getElem?_toArray, List.getElem?_cons_succ, List.getElem?_cons_zero]; rfl) (by kernel_rfl) (by exact fun _ _ _ h => h) (by rfl) (by intro w' _; go_simp; (try go_bits); rfl) hK ?_
      simp only [Act.put, List.setIfInBounds_toArray, List.set_cons_succ, List.set_cons_zero]
      refine SX.take 2 (fun _ => trivial) (by simp only [List.getElem?_toArray, List.getElem?_cons_succ, List.getElem?_cons_zero]; rfl) (by kernel_rfl) (by exact fun _ _ _ h => h) (by rfl) (by exact SX.y_load rfl (by first | (simp; done) | fail) rfl (fun _ hk => hk.old hbb (by simp) hc)) hK ?_
      simp only [Act.put, List.setIfInBounds_toArray, List.set_cons_succ, List.set_cons_zero]
      refine SX.take 3 (fun _ => trivial) (by simp only [List.getElem?_toArray, List.getElem?_cons_succ, List.getElem?_cons_zero]; rfl) (by kernel_rfl) (by exact fun _ _ _ h => h) (by rfl) (by intro w' _; go_simp; (try go_bits); rfl) hK ?_
      simp only [Act.put, List.setIfInBounds_toArray, List.set_cons_succ, List.set_cons_zero]
      refine SX.take 4 (fun _ => trivial) (by simp only [List.getElem?_toArray, List.getElem?_cons_succ, List.getElem?_cons_zero]; rfl) (by kernel_rfl) (by exact fun _ _ _ h => h) (by rfl) (by intro w' _; go_simp; (try go_bits); rfl) hK ?_
      simp only [Act.put, List.setIfInBounds_toArray, List.set_cons_succ, List.set_cons_zero]
      refine SX.take 5 (fun _ => trivial) (by simp only [List.getElem?_toArray, List.getElem?_cons_succ, List.getElem?_cons_zero]; rfl) (by kernel_rfl) (by exact fun _ _ _ h => h) (by rfl) (by intro w' _; go_simp; (try go_bits); rfl) hK ?_
      simp only [Act.put, List.setIfInBounds_toArray, List.set_cons_succ, List.set_cons_zero]
      refine SX.take 6 (fun _ => trivial) (by simp only [List.getElem?_toArray, List.getElem?_cons_succ, List.getElem?_cons_zero]; rfl) (by kernel_rfl) (by exact fun _ _ _ h => h) (by rfl) (by intro w' _; go_simp; (try go_bits); rfl) hK ?_
      simp only [Act.put, List.setIfInBounds_toArray, List.set_cons_succ, List.set_cons_zero]
      refine SX.take 7 (fun _ => trivial) (by simp only [List.getElem?_toArray, List.getElem?_cons_succ, List.getElem?_cons_zero]; rfl) (by kernel_rfl) (by exact fun _ _ _ h => h) (by rfl) (by intro w' _; go_simp; (try go_bits); rfl) hK ?_
      simp only [Act.put, List.setIfInBounds_toArray, List.set_cons_succ, List.set_cons_zero]
      refine SX.take 8 (fun _ => trivial) (by simp only [List.getElem?_toArray, List.getElem?_cons_succ, List.getElem?_cons_zero]; rfl) (by kernel_rfl) (by exact fun _ _ _ h => h) (by rfl) (by intro w' _; go_simp; (try go_bits); rfl) hK ?_
      simp only [Act.put, List.setIfInBounds_toArray, List.set_cons_succ, List.set_cons_zero]
      refine SX.take 9 (fun _ => trivial) (by simp only [List.getElem?_toArray, List.getElem?_cons_succ, List.getElem?_cons_zero]; rfl) (by kernel_rfl) (by exact fun _ _ _ h => h) (by rfl) (by intro w' _; go_simp; (try go_bits); rfl) hK ?_
      simp only [Act.put, List.setIfInBounds_toArray, List.set_cons_succ, List.set_cons_zero]
      refine SX.take 10 (fun _ => trivial) (by simp only [List.getElem?_toArray, List.getElem?_cons_succ, List.getElem?_cons_zero]; rfl) (by kernel_rfl) (by exact fun _ _ _ h => h) (by rfl) (by intro w' _; go_simp; (try go_bits); rfl) hK ?_
      simp only [Act.put, List.setIfInBounds_toArray, List.set_cons_succ, List.set_cons_zero]
      refine SX.take 11 (fun _ => trivial) (by simp only [List.getElem?_toArray, List.getElem?_cons_succ, List.getElem?_cons_zero]; rfl) (by kernel_rfl) (by exact fun _ _ _ h => h) (by rfl) (by intro w' _; go_simp; (try go_bits); rfl) hK ?_
      simp only [Act.put, List.setIfInBounds_toArray, List.set_cons_succ, List.set_cons_zero]
      refine SX.next 12 (by simp only [List.getElem?_toArray, List.getElem?_cons_succ, List.getElem?_cons_zero]; rfl) (by kernel_rfl) (by rfl) ?_
      refine SX.wp_calls (fun _ => trivial) rfl (by rfl) (by rfl) Try.call29 (by go_simp; rfl) ?_
      refine (SX.call (IH.out _ _ (ht.st hs))).mono ?_
      rintro e w1 ⟨v, rfl, rfl, hs1'⟩
      have hs1 := hs.call hs1'
      have hK : SX.Keep w [] [] w1 := ⟨_, hs1, by simp⟩
      refine ⟨_, rfl, fun _ => hK, ?_⟩
      simp only [Act.put, List.setIfInBounds_toArray, List.set_cons_succ, List.set_cons_zero]
      refine SX.take 13 (fun _ => trivial) (by simp only [List.getElem?_toArray, List.getElem?_cons_succ, List.getElem?_cons_zero]; rfl) (by kernel_rfl) (by exact fun _ _ _ h => h) (by rfl) (by intro w' _; go_simp; (try go_bits); rfl) hK ?_
      simp only [Act.put, List.setIfInBounds_toArray, List.set_cons_succ, List.set_cons_zero]
      refine SX.take 14 (fun _ => trivial) (by simp only [List.getElem?_toArray, List.getElem?_cons_succ, List.getElem?_cons_zero]; rfl) (by kernel_rfl) (by exact fun _ _ _ h => h) (by rfl) (by intro w' _; go_simp; (try go_bits); rfl) hK ?_
      simp only [Act.put, List.setIfInBounds_toArray, List.set_cons_succ, List.set_cons_zero]
      refine SX.take 15 (fun _ => trivial) (by simp only [List.getElem?_toArray, List.getElem?_cons_succ, List.getElem?_cons_zero]; rfl) (by kernel_rfl) (by exact fun _ _ _ h => h) (by rfl) (by intro w' _; go_simp; (try go_bits); rfl) hK ?_
      simp only [Act.put, List.setIfInBounds_toArray, List.set_cons_succ, List.set_cons_zero]
      refine SX.done (by kernel_rfl) ?_
      gi_wp2
      all_goals
        go_ret
        refine ⟨_, rfl, ?_, hs1⟩
        rw [hlev.out]
        simp
/-- k elements of l, every second one, from s on -/
def evn (l : List Int) (s k : Nat) : List Int := (List.range k).map fun j => elt l (s + 2 * j : Nat)

theorem evn_succ (bs : List Int) (f k : Nat) : evn bs f (k + 1) = evn bs f k ++ [elt bs (f + 2 * k : Nat)] := by
  simp [evn, List.range_succ]
theorem evn_length (bs : List Int) (f k : Nat) : (evn bs f k).length = k := by simp [evn]

set_option maxRecDepth 100000 in
set_option maxHeartbeats 400000 in
theorem part_any (A : Option Addr) (n c : Nat) (bs : List Int) (f q : Nat) (w : World) (hr : Sl w A (ints .u8 bs)) (hl : bs.length = n) (hn : n = 2 * q) (hq : 1 ≤ q) (hn6 : n ≤ 6) (hf2 : f ≤ 1) :
    Calls Try.prog 30 #[.slice A n c, .int .i64 f] w (SX.Ret fun v w' => ∃ g cap, v = .slice (some ⟨g, 0, none⟩) q cap ∧ q ≤ cap ∧ cap ≤ maxLen ∧ SX.St w [] w' [SX.Ent.row (.slice (some ⟨g, 0, none⟩) q cap) 5 1 q (ints .u8 (evn bs f q))]) := by
  obtain ⟨i0, hi, hz0, hz1, hz2⟩ := info_parts info5
  have HN := Lib.hid hn
  clear hn
  refine SX.enter Try.func30 rfl ?_
  simp only [Try.ntmps30, List.size_toArray, List.length_cons, List.length_nil, Nat.reduceAdd, Nat.reduceSub, Array.replicate_succ, Array.replicate_zero, List.push_toArray, List.append_toArray, List.nil_append, List.cons_append]
  gi_wp2
  gi_loopw [4, 5] (fun v i wr => ∃ (k : Nat) (z : Int), i = .int .i64 z ∧ Hid (z = f + 2 * k) ∧ 0 ≤ z ∧ z ≤ n + 1 ∧ k ≤ q ∧ SX.St w [] wr [SX.Ent.row v 5 1 k (ints .u8 (evn bs f k))]) (fun _ i _ => n + 2 - (intOf i).toNat)
  case atStart => exact ⟨0, f, rfl, Lib.hid (by simp), by omega, by have := HN.out; omega, by omega, (SX.St.start w).nil _ _⟩
  case round =>
    obtain ⟨k, z, rfl, hz, hzl, hzu, hkq, hs⟩ := hrel
    have hk : k ≤ 301 := by have := HN.out; omega
    by_cases hlt : z < n
    · obtain ⟨b, off, rfl, hb, hc⟩ := hr.at (i := z) hzl (by omega)
      clear hr
      gi_wp2_with (first
        | (refine SX.lsm rfl rfl ?_; first | (refine SX.load_blk rfl (by assumption) (by first | (simp; done) | fail) (by rfl) (by first | exact SX.at0 | exact SX.at1 | exact SX.at2 | exact SX.at3 | exact SX.at4 | exact SX.at5) (by rfl) ?_) | (refine SX.load_old rfl (by assumption) (by first | (simp; done) | fail) (by rfl) (by assumption) (by first | (simp; done) | fail) (by assumption) ?_) | (refine SX.store_blk rfl (by assumption) (by first | (simp; done) | fail) (by rfl) (by first | (go_simp; exact rfl) | fail) (by rfl) (by first | exact SX.at0 | exact SX.at1 | exact SX.at2 | exact SX.at3 | exact SX.at4 | exact SX.at5) (by first | (simp; done) | fail) ?_; intro w1 hs1; simp only [List.set_cons_zero, List.set_cons_succ, List.setIfInBounds_toArray] at hs1) | (refine SX.alc_ptr rfl (by assumption) (by first | (intro W; go_simp; exact rfl) | fail) ?_; intro g1 w1 hs1) | (refine SX.alc_slice rfl (by assumption) (by first | (intro W; go_simp; exact rfl) | fail) ?_; intro g1 w1 hs1))
        | (refine SX.lsa rfl rfl (SX.append_blk (j := 1) (j' := 0) rfl (by assumption) Try.underlying23 hi hz0 hz1 hz2 rfl (by decide) (by rfl) (by rfl) (by rfl) (by rfl) (by rfl) (by simp [Value.oneCell']) (by decide) (by unfold maxLen; omega) (by omega) ?_); intro g2 cap2 w2 hs2))
      go_roundw
      case rel =>
        refine ⟨k + 1, z + 2, by go_num, Lib.hid (by have := hz.out; omega), by omega, by omega, by have := hz.out; have := HN.out; omega, ?_⟩
        have e : elt bs z = elt bs (f + 2 * k : Nat) := by rw [hz.out]; rfl
        rw [evn_succ, ← e]
        simpa [ints] using hs2
      case measure => simp [intOf]; omega
    · clear hr
      gi_wp2
      go_ret
      obtain rfl : k = q := by have := hz.out; have := HN.out; omega
      obtain ⟨g, cap, rfl, h1, h2⟩ := row_form (j := 0) hs rfl hq
      exact ⟨_, rfl, g, cap, rfl, h1, h2, hs⟩

set_option maxRecDepth 100000 in
set_option maxHeartbeats 400000 in
theorem big_any (x : Int) (w : World) : Calls Try.prog 27 #[.int .u8 x] w (SX.Ret fun v w' => v = .bool (decide (1 < x)) ∧ SX.St w [] w' []) := by
  refine SX.enter Try.func27 rfl ?_
  simp only [Try.ntmps27, List.size_toArray, List.length_cons, List.length_nil, Nat.reduceAdd, Nat.reduceSub, Array.replicate_succ, Array.replicate_zero, List.push_toArray, List.append_toArray, List.nil_append, List.cons_append]
  have hs := SX.St.start w
  gi_wp2_with (first | (refine SX.lsm rfl rfl ?_; first | (refine SX.load_blk rfl (by assumption) (by first | (simp; done) | fail) (by rfl) (by first | exact SX.at0 | exact SX.at1 | exact SX.at2 | exact SX.at3 | exact SX.at4 | exact SX.at5) (by rfl) ?_) | (refine SX.load_old rfl (by assumption) (by first | (simp; done) | fail) (by rfl) (by assumption) (by first | (simp; done) | fail) (by assumption) ?_) | (refine SX.store_blk rfl (by assumption) (by first | (simp; done) | fail) (by rfl) (by first | (go_simp; exact rfl) | fail) (by rfl) (by first | exact SX.at0 | exact SX.at1 | exact SX.at2 | exact SX.at3 | exact SX.at4 | exact SX.at5) (by first | (simp; done) | fail) ?_; intro w1 hs1; simp only [List.set_cons_zero, List.set_cons_succ, List.setIfInBounds_toArray] at hs1) | (refine SX.alc_ptr rfl (by assumption) (by first | (intro W; go_simp; exact rfl) | fail) ?_; intro g1 w1 hs1) | (refine SX.alc_slice rfl (by assumption) (by first | (intro W; go_simp; exact rfl) | fail) ?_; intro g1 w1 hs1)))
  all_goals
    go_ret
    exact ⟨_, rfl, by simp [*], by assumption⟩

/-- no element before z has p -/
def noneUpto (l : List Int) (p : Int → Bool) (z : Int) : Prop := ∀ j : Int, 0 ≤ j → j < z → p (elt l j) = false

theorem any_of_upto {l : List Int} {p : Int → Bool} (h : noneUpto l p l.length) : l.any p = false := by
  rw [List.any_eq_false]
  intro x hx
  obtain ⟨i, hi, rfl⟩ := List.getElem_of_mem hx
  have := h i (by omega) (by omega)
  simp [elt, hi] at this
  simp [this]
theorem any_of_elt {l : List Int} {p : Int → Bool} {z : Int} (h0 : 0 ≤ z) (h1 : z < l.length) (h : p (elt l z) = true) : l.any p = true := by
  rw [List.any_eq_true]
  have hz : z.toNat < l.length := by omega
  exact ⟨l[z.toNat], List.getElem_mem hz, by simpa [elt, hz] using h⟩
theorem elt_mem {l : List Int} {z : Int} (h0 : 0 ≤ z) (h1 : z < l.length) : elt l z ∈ l := by
  have hz : z.toNat < l.length := by omega
  simp [elt, hz]

end Go.Proofs.Ythncbdoiilgnhaa

/- slices.Chunk over bytes. -/
namespace Go.Proofs.Ythncbdoiilgnhaa
open Go.RowKit
set_option linter.unusedSimpArgs false
set_option linter.unusedVariables false

theorem range_prefix {j q : Nat} (h : j < q) : List.range (j + 1) <+: List.range q := by
  refine ⟨(List.range (q - (j + 1))).map (j + 1 + ·), ?_⟩
  rw [← List.range_add]
  congr 1
  omega

set_option maxRecDepth 100000 in
set_option maxHeartbeats 400000 in
theorem chunk_any (A : Option Addr) (n c : Nat) (m : Int) (hm : 1 ≤ m) (w : World) :
    Calls Try.prog 28 #[.slice A n c, .int .i64 m] w (SX.Ret fun v w' => ∃ g1 g2, v = .func (.func 42) #[] #[.pointer (some ⟨g1, 0, none⟩), .pointer (some ⟨g2, 0, none⟩)] ∧
      SX.St w [] w' [SX.Ent.blk g2 3 #[.int .i64 m], SX.Ent.blk g1 23 #[.slice A n c]]) := by
  refine SX.enter Try.func28 rfl ?_
  simp only [Try.ntmps28, List.size_toArray, List.length_cons, List.length_nil, Nat.reduceAdd, Nat.reduceSub, Array.replicate_succ, Array.replicate_zero, List.push_toArray, List.append_toArray, List.nil_append, List.cons_append]
  have hs := SX.St.start w
  gi_wp2_with (first | (refine SX.lsm rfl rfl ?_; first | (refine SX.load_blk rfl (by assumption) (by first | (simp; done) | fail) (by rfl) (by first | exact SX.at0 | exact SX.at1 | exact SX.at2 | exact SX.at3 | exact SX.at4 | exact SX.at5) (by rfl) ?_) | (refine SX.load_old rfl (by assumption) (by first | (simp; done) | fail) (by rfl) (by assumption) (by first | (simp; done) | fail) (by assumption) ?_) | (refine SX.store_blk rfl (by assumption) (by first | (simp; done) | fail) (by rfl) (by first | (go_simp; exact rfl) | fail) (by rfl) (by first | exact SX.at0 | exact SX.at1 | exact SX.at2 | exact SX.at3 | exact SX.at4 | exact SX.at5) (by first | (simp; done) | fail) ?_; intro w1 hs1; simp only [List.set_cons_zero, List.set_cons_succ, List.setIfInBounds_toArray] at hs1) | (refine SX.alc_ptr rfl (by assumption) (by first | (intro W; go_simp; exact rfl) | fail) ?_; intro g1 w1 hs1) | (refine SX.alc_slice rfl (by assumption) (by first | (intro W; go_simp; exact rfl) | fail) ?_; intro g1 w1 hs1)))
  go_ret
  exact ⟨_, rfl, _, _, rfl, hs1⟩

set_option maxRecDepth 100000 in
set_option maxHeartbeats 400000 in
theorem chunk_seq (A : Option Addr) (b off n c q g1 g2 : Nat) (m : Nat) (hm : 1 ≤ m) (hm6 : m ≤ 6) (hn : n = q * m) (hA : 0 < n → A = some ⟨b, off, none⟩) (hnc : n ≤ c) (hn6 : n ≤ 600) (hc : (c : Int) ≤ 9223372036854775807) :
    SX.SeqC Try.prog 42 #[.pointer (some ⟨g1, 0, none⟩), .pointer (some ⟨g2, 0, none⟩)] (fun (j : Nat) args Lx => Lx = [] ∧ args = #[.slice (some ⟨b, off + j * m, none⟩) m m])
      [SX.Ent.blk g2 3 #[.int .i64 m], SX.Ent.blk g1 23 #[.slice A n c]] (fun _ _ => True) (List.range q) := by
  intro l w0 M I Ix W L0 _ hY h0 hs
  refine SX.enter Try.func42 rfl ?_
  simp only [Try.ntmps42, List.size_toArray, List.length_cons, List.length_nil, Nat.reduceAdd, Nat.reduceSub, Array.replicate_succ, Array.replicate_zero, List.push_toArray, List.append_toArray, List.nil_append, List.cons_append]
  have HY := Lib.hid hY
  have HN := Lib.hid hn
  clear hY hn
  gi_wp2
  gi_loopw [4] (fun i wr => ∃ (j : Nat) (z : Int), i = .int .i64 z ∧ Hid (z = j * m) ∧ 0 ≤ z ∧ z ≤ n ∧ j ≤ q ∧ ∃ L, I (List.range j) L ∧ SX.St w0 M wr (L ++ [SX.Ent.blk g2 3 #[.int .i64 m], SX.Ent.blk g1 23 #[.slice A n c]])) (fun i _ => n - (intOf i).toNat)
  case atStart => exact ⟨0, 0, rfl, Lib.hid (by simp), by omega, by omega, by omega, L0, h0, hs⟩
  case round =>
    clear hs h0
    obtain ⟨j, z, rfl, hz, hz0, hzn, hjq, L, hi, hs0⟩ := hrel
    have hs := hs0.perm (List.perm_append_comm (l₁ := [SX.Ent.blk g2 3 #[.int .i64 m], SX.Ent.blk g1 23 #[.slice A n c]]) (l₂ := L))
    simp only [List.cons_append, List.nil_append] at hs
    by_cases hlt : z < n
    · obtain rfl := hA (by omega)
      gi_wp2_with (first | (refine SX.lsm rfl rfl ?_; first | (refine SX.load_blk rfl (by assumption) (by first | (simp; done) | fail) (by rfl) (by first | exact SX.at0 | exact SX.at1 | exact SX.at2 | exact SX.at3 | exact SX.at4 | exact SX.at5) (by rfl) ?_) | (refine SX.load_old rfl (by assumption) (by first | (simp; done) | fail) (by rfl) (by assumption) (by first | (simp; done) | fail) (by assumption) ?_) | (refine SX.store_blk rfl (by assumption) (by first | (simp; done) | fail) (by rfl) (by first | (go_simp; exact rfl) | fail) (by rfl) (by first | exact SX.at0 | exact SX.at1 | exact SX.at2 | exact SX.at3 | exact SX.at4 | exact SX.at5) (by first | (simp; done) | fail) ?_; intro w1 hs1; simp only [List.set_cons_zero, List.set_cons_succ, List.setIfInBounds_toArray] at hs1) | (refine SX.alc_ptr rfl (by assumption) (by first | (intro W; go_simp; exact rfl) | fail) ?_; intro g1 w1 hs1) | (refine SX.alc_slice rfl (by assumption) (by first | (intro W; go_simp; exact rfl) | fail) ?_; intro g1 w1 hs1)))
      have hj' : j < q := by
        rcases Nat.lt_or_ge j q with h | h
        · exact h
        · exfalso
          have e : j = q := by omega
          have h1 := hz.out
          have h2 := HN.out
          rw [e] at h1
          rw [h2] at hlt
          simp at hlt
          omega
      have hzm : z + m ≤ n := by
        have h1 := hz.out
        have h2 := HN.out
        have h3 : (j + 1) * m ≤ q * m := Nat.mul_le_mul_right m hj'
        have h4 : ((j + 1) * m : Nat) = j * m + m := by rw [Nat.add_mul, Nat.one_mul]
        have h5 : ((j * m : Nat) : Int) = j * m := by simp
        omega
      have hz1 : z ≤ (n : Int) := hzn
      have hz2 : (z.toNat : Int) = z := by omega
      have hc1 : (n : Int) ≤ c := by omega
      have f1 : ¬ c = z.toNat := by omega
      have f2 : ¬ (n - z.toNat < m) := by omega
      refine SX.region_begin (SX.Keep w0 M [SX.Ent.blk g2 3 #[.int .i64 m], SX.Ent.blk g1 23 #[.slice (some ⟨b, off, none⟩) n c]]) (fun _ => true) mixed ?_
      have hsD := SX.St.drew hs
      generalize World.drew _ = wd at hsD ⊢
      refine SX.take 0 (fun _ => trivial) (by simp only [List.getElem?_toArray, List.getElem?_cons_succ, List.getElem?_cons_zero]; rfl) (by kernel_rfl) (by exact fun _ _ _ h => h) (by rfl) (by first | exact SX.y_load rfl (by first | (simp; done) | fail) rfl (fun _ hk => hk.blk (by first | exact SX.in0 | exact SX.in1 | exact SX.in2 | exact SX.in3 | exact SX.in4) (by rfl)) | exact SX.y_load rfl (by first | (simp; done) | fail) rfl (fun _ hk => hk.old (by assumption) (by first | (simp; done) | fail) (by assumption)) | exact SX.y_loadr rfl (by first | (simp; done) | fail) rfl (by first | exact SX.in0 | exact SX.in1 | exact SX.in2 | exact SX.in3 | exact SX.in4) (by first | assumption | rfl)) (by exact ⟨_, by assumption, by simp⟩) ?_
      simp only [Act.put, List.setIfInBounds_toArray, List.set_cons_succ, List.set_cons_zero]
      refine SX.take 1 (fun _ => trivial) (by simp only [List.getElem?_toArray, List.getElem?_cons_succ, List.getElem?_cons_zero]; rfl) (by kernel_rfl) (by exact fun _ _ _ h => h) (by rfl) (by first | exact SX.y_load rfl (by first | (simp; done) | fail) rfl (fun _ hk => hk.blk (by first | exact SX.in0 | exact SX.in1 | exact SX.in2 | exact SX.in3 | exact SX.in4) (by rfl)) | exact SX.y_load rfl (by first | (simp; done) | fail) rfl (fun _ hk => hk.old (by assumption) (by first | (simp; done) | fail) (by assumption)) | exact SX.y_loadr rfl (by first | (simp; done) | fail) rfl (by first | exact SX.in0 | exact SX.in1 | exact SX.in2 | exact SX.in3 | exact SX.in4) (by first | assumption | rfl)) (by exact ⟨_, by assumption, by simp⟩) ?_
      simp only [Act.put, List.setIfInBounds_toArray, List.set_cons_succ, List.set_cons_zero]
      refine SX.take 2 (fun _ => trivial) (by simp only [List.getElem?_toArray, List.getElem?_cons_succ, List.getElem?_cons_zero]; rfl) (by kernel_rfl) (by exact fun _ _ _ h => h) (by rfl) (by intro w' _; go_simp; (try go_bits); rfl) (by exact ⟨_, by assumption, by simp⟩) ?_
      simp only [Act.put, List.setIfInBounds_toArray, List.set_cons_succ, List.set_cons_zero]
      refine SX.take 3 (fun _ => trivial) (by simp only [List.getElem?_toArray, List.getElem?_cons_succ, List.getElem?_cons_zero]; rfl) (by kernel_rfl) (by exact fun _ _ _ h => h) (by rfl) (by intro w' _; go_simp; (try go_bits); rfl) (by exact ⟨_, by assumption, by simp⟩) ?_
      simp only [Act.put, List.setIfInBounds_toArray, List.set_cons_succ, List.set_cons_zero]
      refine SX.take 4 (fun _ => trivial) (by simp only [List.getElem?_toArray, List.getElem?_cons_succ, List.getElem?_cons_zero]; rfl) (by kernel_rfl) (by exact fun _ _ _ h => h) (by rfl) (by intro w' _; go_simp; (try go_bits); rfl) (by exact ⟨_, by assumption, by simp⟩) ?_
      simp only [Act.put, List.setIfInBounds_toArray, List.set_cons_succ, List.set_cons_zero]
      refine SX.take 5 (fun _ => trivial) (by simp only [List.getElem?_toArray, List.getElem?_cons_succ, List.getElem?_cons_zero]; rfl) (by kernel_rfl) (by exact fun _ _ _ h => h) (by rfl) (by intro w' _; go_simp; (try go_bits); rfl) (by exact ⟨_, by assumption, by simp⟩) ?_
      simp only [Act.put, List.setIfInBounds_toArray, List.set_cons_succ, List.set_cons_zero]
      refine SX.take 6 (fun _ => trivial) (by simp only [List.getElem?_toArray, List.getElem?_cons_succ, List.getElem?_cons_zero]; rfl) (by kernel_rfl) (by exact fun _ _ _ h => h) (by rfl) (by intro w' _; go_simp; (try go_bits); rfl) (by exact ⟨_, by assumption, by simp⟩) ?_
      simp only [Act.put, List.setIfInBounds_toArray, List.set_cons_succ, List.set_cons_zero]
      refine SX.done (by kernel_rfl) ?_
      have hsE := hsD.perm (List.perm_append_comm (l₁ := L) (l₂ := [SX.Ent.blk g2 3 #[.int .i64 m], SX.Ent.blk g1 23 #[.slice (some ⟨b, off, none⟩) n c]]))
      have hYj := Lib.hid (HY.out _ (List.range j) j #[.slice (some ⟨b, off + z.toNat, none⟩) ((z + m).toNat - z.toNat) ((z + m).toNat - z.toNat)] wd L [] hi (by
          rw [← List.range_succ]
          exact range_prefix hj') ⟨rfl, by
          have h1 : z.toNat = j * m := by
            have := hz.out
            have h5 : ((j * m : Nat) : Int) = j * m := by simp
            omega
          have h2 : (z + m).toNat - z.toNat = m := by omega
          rw [h1] at h2 ⊢
          rw [h2]⟩ (by exact hsE))
      clear hsE
      gi_wp2_with (first | (refine SX.lsm rfl rfl ?_; first | (refine SX.load_blk rfl (by assumption) (by first | (simp; done) | fail) (by rfl) (by first | exact SX.at0 | exact SX.at1 | exact SX.at2 | exact SX.at3 | exact SX.at4 | exact SX.at5) (by rfl) ?_) | (refine SX.load_old rfl (by assumption) (by first | (simp; done) | fail) (by rfl) (by assumption) (by first | (simp; done) | fail) (by assumption) ?_) | (refine SX.store_blk rfl (by assumption) (by first | (simp; done) | fail) (by rfl) (by first | (go_simp; exact rfl) | fail) (by rfl) (by first | exact SX.at0 | exact SX.at1 | exact SX.at2 | exact SX.at3 | exact SX.at4 | exact SX.at5) (by first | (simp; done) | fail) ?_; intro w1 hs1; simp only [List.set_cons_zero, List.set_cons_succ, List.setIfInBounds_toArray] at hs1) | (refine SX.alc_ptr rfl (by assumption) (by first | (intro W; go_simp; exact rfl) | fail) ?_; intro g1 w1 hs1) | (refine SX.alc_slice rfl (by assumption) (by first | (intro W; go_simp; exact rfl) | fail) ?_; intro g1 w1 hs1)) | (refine SX.lsc rfl rfl (SX.wp_yield rfl (by rfl) (by go_simp) hYj.out ?_); rintro e W3 (⟨rfl, L3, hi3, hs3⟩ | ⟨rfl, L3, hi3, hs3⟩) <;> refine ⟨_, rfl, ?_⟩; have hs4 := hs3.perm (List.perm_append_comm (l₁ := [SX.Ent.blk g2 3 #[.int .i64 m], SX.Ent.blk g1 23 #[.slice (some ⟨b, off, none⟩) n c]]) (l₂ := L3)); simp only [List.cons_append, List.nil_append] at hs4))
      · go_roundw
        case rel => exact ⟨j + 1, z + m, by go_num, Lib.hid (by have := hz.out; rw [this]; simp [Int.add_mul]), by omega, by omega, by omega, L3, by rw [List.range_succ]; exact hi3, hs3⟩
        case measure => simp [intOf]; omega
      · refine bodyPost_ret (results_none rfl _ _ _) rfl ?_
        exact ⟨⟨_, rfl⟩, L3, .inr hi3, hs3⟩
    · gi_wp2_with (first | (refine SX.lsm rfl rfl ?_; first | (refine SX.load_blk rfl (by assumption) (by first | (simp; done) | fail) (by rfl) (by first | exact SX.at0 | exact SX.at1 | exact SX.at2 | exact SX.at3 | exact SX.at4 | exact SX.at5) (by rfl) ?_) | (refine SX.load_old rfl (by assumption) (by first | (simp; done) | fail) (by rfl) (by assumption) (by first | (simp; done) | fail) (by assumption) ?_) | (refine SX.store_blk rfl (by assumption) (by first | (simp; done) | fail) (by rfl) (by first | (go_simp; exact rfl) | fail) (by rfl) (by first | exact SX.at0 | exact SX.at1 | exact SX.at2 | exact SX.at3 | exact SX.at4 | exact SX.at5) (by first | (simp; done) | fail) ?_; intro w1 hs1; simp only [List.set_cons_zero, List.set_cons_succ, List.setIfInBounds_toArray] at hs1) | (refine SX.alc_ptr rfl (by assumption) (by first | (intro W; go_simp; exact rfl) | fail) ?_; intro g1 w1 hs1) | (refine SX.alc_slice rfl (by assumption) (by first | (intro W; go_simp; exact rfl) | fail) ?_; intro g1 w1 hs1)))
      refine bodyPost_end (results_none rfl _ _ _) rfl ?_
      have e : j = q := by
        rcases Nat.lt_or_ge j q with h | h
        · exfalso
          have h1 := hz.out
          have h2 := HN.out
          have h3 : (j + 1) * m ≤ q * m := Nat.mul_le_mul_right m h
          have h4 : ((j + 1) * m : Nat) = j * m + m := by rw [Nat.add_mul, Nat.one_mul]
          have h5 : ((j * m : Nat) : Int) = j * m := by simp
          omega
        · omega
      subst e
      exact ⟨⟨_, rfl⟩, L, .inl hi, hs0⟩
end Go.Proofs.Ythncbdoiilgnhaa

/- slices.IndexFunc, ContainsFunc. -/
namespace Go.Proofs.Ythncbdoiilgnhaa
open Go.RowKit
set_option linter.unusedSimpArgs false
set_option linter.unusedVariables false

set_option maxRecDepth 100000 in
set_option maxHeartbeats 400000 in
theorem indexFunc8 (A : Option Addr) (n c : Nat) (bs : List Int) (w : World) (hr : Sl w A (ints .u8 bs)) (hl : bs.length = n) (hn : n ≤ 9223372036854775807) (k : FuncId) (cap : Array Value)
    (hk : ∀ args w, (callFunc k args).run Try.prog w = .ok (.enter k args) w) (p : Int → Bool) (hp : ∀ x ∈ bs, ∀ W, SX.St w [] W [] → Calls Try.prog k (Value.int .u8 x :: cap.toList).toArray W (SX.Ret fun v w' => v = .bool (p x) ∧ SX.St W [] w' [])) :
    Calls Try.prog 41 #[.slice A n c, .func (.func k) #[] cap] w (SX.Ret fun v w' => ∃ z : Int, v = .int .i64 z ∧ decide (0 ≤ z) = bs.any p ∧ -1 ≤ z ∧ z < n ∧ SX.St w [] w' []) := by
  have HP := Lib.hid hp
  have HL := Lib.hid hl
  have HK := Lib.hid hk
  clear hp hl hk
  refine SX.enter Try.func41 rfl ?_
  simp only [Try.ntmps41, List.size_toArray, List.length_cons, List.length_nil, Nat.reduceAdd, Nat.reduceSub, Array.replicate_succ, Array.replicate_zero, List.push_toArray, List.append_toArray, List.nil_append, List.cons_append]
  gi_wp2
  gi_loopw [8] (fun i wr => ∃ z : Int, i = .int .i64 z ∧ 0 ≤ z ∧ z ≤ n ∧ noneUpto bs p z ∧ SX.St w [] wr []) (fun i _ => n - (intOf i).toNat)
  case atStart => exact ⟨0, rfl, by omega, by omega, fun j h1 h2 => by omega, SX.St.start w⟩
  case round =>
    obtain ⟨z, rfl, hz0, hzn, hno, hs⟩ := hrel
    by_cases hlt : z < n
    · obtain ⟨b, off, rfl, hb, hc⟩ := hr.at (i := z) hz0 (by rw [HL.out]; exact hlt)
      clear hr
      have hcall := Lib.hid (HP.out (elt bs z) (elt_mem hz0 (by rw [HL.out]; exact hlt)) wr hs)
      gi_wp2_with (first
        | (refine SX.lsm rfl rfl ?_; first | (refine SX.load_blk rfl (by assumption) (by first | (simp; done) | fail) (by rfl) (by first | exact SX.at0 | exact SX.at1 | exact SX.at2 | exact SX.at3 | exact SX.at4 | exact SX.at5) (by rfl) ?_) | (refine SX.load_old rfl (by assumption) (by first | (simp; done) | fail) (by rfl) (by assumption) (by first | (simp; done) | fail) (by assumption) ?_) | (refine SX.store_blk rfl (by assumption) (by first | (simp; done) | fail) (by rfl) (by first | (go_simp; exact rfl) | fail) (by rfl) (by first | exact SX.at0 | exact SX.at1 | exact SX.at2 | exact SX.at3 | exact SX.at4 | exact SX.at5) (by first | (simp; done) | fail) ?_; intro w1 hs1; simp only [List.set_cons_zero, List.set_cons_succ, List.setIfInBounds_toArray] at hs1) | (refine SX.alc_ptr rfl (by assumption) (by first | (intro W; go_simp; exact rfl) | fail) ?_; intro g1 w1 hs1) | (refine SX.alc_slice rfl (by assumption) (by first | (intro W; go_simp; exact rfl) | fail) ?_; intro g1 w1 hs1))
        | (refine SX.lsc rfl rfl (SX.wp_calls (fun _ => trivial) rfl rfl (by rfl) HK.out (by go_simp; rfl) ?_); refine (SX.call hcall.out).mono ?_; rintro e w1 ⟨v, rfl, rfl, hs1⟩; refine ⟨_, rfl, ?_⟩))
      · have hpt : p (elt bs z) = true := by assumption
        go_ret
        exact ⟨_, rfl, z, rfl, by rw [any_of_elt hz0 (by rw [HL.out]; exact hlt) hpt]; simpa using hz0, by omega, hlt, hs.call hs1⟩
      · have hpt : p (elt bs z) = false := by assumption
        go_roundw
        case rel =>
          refine ⟨z + 1, by go_num, by omega, by omega, fun j h1 h2 => ?_, hs.call hs1⟩
          rcases Int.lt_or_le j z with h | h
          · exact hno j h1 h
          · obtain rfl : j = z := by omega
            exact hpt
        case measure => simp [intOf]; omega
    · have e : z = n := by omega
      have HE := Lib.hid e
      clear e
      gi_wp2
      go_ret
      exact ⟨_, rfl, -1, rfl, by rw [any_of_upto (by rw [HL.out, ← HE.out]; exact hno)]; rfl, by omega, by omega, hs⟩

set_option maxRecDepth 100000 in
set_option maxHeartbeats 400000 in
theorem containsFunc8 (A : Option Addr) (n c : Nat) (bs : List Int) (w : World) (hr : Sl w A (ints .u8 bs)) (hl : bs.length = n) (hn : n ≤ 9223372036854775807) (k : FuncId) (cap : Array Value)
    (hk : ∀ args w, (callFunc k args).run Try.prog w = .ok (.enter k args) w) (p : Int → Bool) (hp : ∀ x ∈ bs, ∀ W, SX.St w [] W [] → Calls Try.prog k (Value.int .u8 x :: cap.toList).toArray W (SX.Ret fun v w' => v = .bool (p x) ∧ SX.St W [] w' [])) :
    Calls Try.prog 26 #[.slice A n c, .func (.func k) #[] cap] w (SX.Ret fun v w' => v = .bool (bs.any p) ∧ SX.St w [] w' []) := by
  have HC := Lib.hid (indexFunc8 A n c bs w hr hl hn k cap hk p hp)
  clear hr hp hk
  refine SX.enter Try.func26 rfl ?_
  simp only [Try.ntmps26, List.size_toArray, List.length_cons, List.length_nil, Nat.reduceAdd, Nat.reduceSub, Array.replicate_succ, Array.replicate_zero, List.push_toArray, List.append_toArray, List.nil_append, List.cons_append]
  gi_wp2_with (first
    | (refine SX.lsc rfl rfl (SX.wp_calls (fun _ => trivial) rfl rfl (by rfl) Try.call41 (by go_simp; rfl) ?_); refine (SX.call HC.out).mono ?_; rintro e w1 ⟨v, rfl, z, rfl, hz, h1, h2, hs1⟩; have HZ := Lib.hid hz; clear hz; refine ⟨_, rfl, ?_⟩))
  all_goals
    go_ret
    refine ⟨_, rfl, ?_, by assumption⟩
    rw [← HZ.out]
    simp [*]
end Go.Proofs.Ythncbdoiilgnhaa

/- qam.Modulate. -/
namespace Go.Proofs.Ythncbdoiilgnhaa
open Go.RowKit
attribute [local go_sem] Oper.semAt_some
set_option linter.unusedSimpArgs false
set_option linter.unusedVariables false

theorem info32 : (Try.prog.info? 32).map (fun i => (i.zero, i.size, i.bytes)) = some (some (.agg #[.int .i64 0, .int .i64 0]), 2, 16) := by kernel_rfl

/-- is it a modulation -/
def vm (m : Int) : Bool := m == 2 || m == 4 || m == 6

set_option maxRecDepth 100000 in
set_option maxHeartbeats 400000 in
theorem valid_any (m : Int) (w : World) : Calls Try.prog 25 #[.int .i64 m] w (SX.Ret fun v w' => v = .bool (vm m) ∧ SX.St w [] w' []) := by
  have hs := SX.St.start w
  by_cases h2 : m = 2
  · subst h2
    refine SX.enter Try.func25 rfl ?_
    simp only [Try.ntmps25, List.size_toArray, List.length_cons, List.length_nil, Nat.reduceAdd, Nat.reduceSub, Array.replicate_succ, Array.replicate_zero, List.push_toArray, List.append_toArray, List.nil_append, List.cons_append]
    gi_wp2
    go_ret
    exact ⟨_, rfl, rfl, hs⟩
  by_cases h4 : m = 4
  · subst h4
    refine SX.enter Try.func25 rfl ?_
    simp only [Try.ntmps25, List.size_toArray, List.length_cons, List.length_nil, Nat.reduceAdd, Nat.reduceSub, Array.replicate_succ, Array.replicate_zero, List.push_toArray, List.append_toArray, List.nil_append, List.cons_append]
    gi_wp2
    go_ret
    exact ⟨_, rfl, rfl, hs⟩
  by_cases h6 : m = 6
  · subst h6
    refine SX.enter Try.func25 rfl ?_
    simp only [Try.ntmps25, List.size_toArray, List.length_cons, List.length_nil, Nat.reduceAdd, Nat.reduceSub, Array.replicate_succ, Array.replicate_zero, List.push_toArray, List.append_toArray, List.nil_append, List.cons_append]
    gi_wp2
    go_ret
    exact ⟨_, rfl, rfl, hs⟩
  have hv : vm m = false := by simp [vm, h2, h4, h6]
  rw [hv]
  have e2 : (m == 2) = false := by simpa using h2
  have e4 : (m == 4) = false := by simpa using h4
  have e6 : (m == 6) = false := by simpa using h6
  clear h2 h4 h6 hv
  refine SX.enter Try.func25 rfl ?_
  simp only [Try.ntmps25, List.size_toArray, List.length_cons, List.length_nil, Nat.reduceAdd, Nat.reduceSub, Array.replicate_succ, Array.replicate_zero, List.push_toArray, List.append_toArray, List.nil_append, List.cons_append]
  gi_wp2
  go_ret
  exact ⟨_, rfl, rfl, hs⟩

/-- the cells of points -/
def pcells (l : List (Int × Int)) : List Value := l.flatMap fun p => [.int .i64 p.1, .int .i64 p.2]
theorem pcells_snoc (l : List (Int × Int)) (p : Int × Int) : pcells (l ++ [p]) = pcells l ++ [.int .i64 p.1, .int .i64 p.2] := by simp [pcells]
theorem pcells_length (l : List (Int × Int)) : (pcells l).length = l.length * 2 := by
  induction l with
  | nil => rfl
  | cons a l ih => simp [pcells] at ih ⊢; omega

/-- the point of group j of bs, with groups of 2 k bits -/
def mpt (k : Nat) (bs : List Int) (j : Nat) : Int × Int := (16 * lev (evn bs (j * (2 * k)) k), 16 * lev (evn bs (j * (2 * k) + 1) k))

theorem elt_chunk {bs : List Int} {s m : Nat} {i : Nat} (hi : i < m) : elt ((bs.drop s).take m) (i : Nat) = elt bs (s + i : Nat) := by
  simp only [elt, Int.toNat_natCast, List.getD_eq_getElem?_getD, List.getElem?_take, hi, if_true, List.getElem?_drop]

theorem evn_chunk {bs : List Int} {s k f : Nat} (hf : f ≤ 1) : evn ((bs.drop s).take (2 * k)) f k = evn bs (s + f) k := by
  unfold evn
  refine List.map_congr_left fun j hj => ?_
  have : j < k := by simpa using hj
  rw [elt_chunk (by omega)]
  congr 1
  omega

theorem evn_bits {bs : List Int} {s k : Nat} (hb : ∀ b ∈ bs, b = 0 ∨ b = 1) : ∀ b ∈ evn bs s k, b = 0 ∨ b = 1 := by
  intro b h
  obtain ⟨j, _, rfl⟩ := List.mem_map.1 h
  by_cases hj : s + 2 * j < bs.length
  · exact hb _ (elt_mem (by omega) (by omega))
  · left
    simp [elt]
    rw [List.getElem?_eq_none (by omega)]
    rfl

theorem Sl.sub {w : World} {b off s m : Nat} {k : IntKind} {l : List Int} (h : Sl w (some ⟨b, off, none⟩) (ints k l)) : Sl w (some ⟨b, off + s, none⟩) (ints k ((l.drop s).take m)) := by
  intro hp
  simp [ints] at hp
  obtain ⟨b', off', he, hb, hc⟩ := h (by simp [ints]; omega)
  obtain ⟨rfl, rfl⟩ : b' = b ∧ off' = off := by simpa [eq_comm] using he
  refine ⟨b', off' + s, rfl, hb, fun j u hu => ?_⟩
  rw [show off' + s + j = off' + (s + j) from by omega]
  refine hc _ _ ?_
  simp only [ints, List.getElem?_map, List.getElem?_take, List.getElem?_drop] at hu ⊢
  split at hu
  · exact hu
  · simp at hu

/-- what holds between two rounds -/
def MdI (g6 k : Nat) (bs : List Int) (pre : List Nat) (L : List SX.Ent) : Prop :=
  ∃ sv, L = [SX.Ent.row sv 32 2 pre.length (pcells (pre.map (mpt k bs))), SX.Ent.blk g6 25 #[sv]]

set_option maxRecDepth 100000 in
set_option maxHeartbeats 1000000 in
theorem modulate_ok (A : Option Addr) (n c k q : Nat) (bs : List Int) (w : World) (hr : Sl w A (ints .u8 bs)) (hl : bs.length = n) (hn : n = q * (2 * k)) (hk : 1 ≤ k) (hk3 : k ≤ 3) (hn6 : n ≤ 600) (hnc : n ≤ c) (hc : (c : Int) ≤ 9223372036854775807) (hb : ∀ b ∈ bs, b = 0 ∨ b = 1) :
    Calls Try.prog 11 #[.int .i64 ((2 * k : Nat) : Int), .slice A n c] w (SX.Ret fun v w' => ∃ sv, v = .tuple #[sv, .int .i64 0] ∧ SX.St w [] w' [SX.Ent.row sv 32 2 q (pcells ((List.range q).map (mpt k bs)))]) := by
  obtain ⟨i0, hi0, hzz0, hzz1, hzz2⟩ := info_parts info32
  have hv : vm ((2 * k : Nat) : Int) = true := by
    have : k = 1 ∨ k = 2 ∨ k = 3 := by omega
    rcases this with rfl | rfl | rfl <;> rfl
  have hany : bs.any (fun x => decide (1 < x)) = false := by
    rw [List.any_eq_false]
    intro x hx
    rcases hb x hx with rfl | rfl <;> simp
  have hmod : (((n : Int) % ((2 * k : Nat) : Int)) != 0) = false := by
    rw [hn]; simp
  have hmne : ¬ ((2 * k : Nat) : Int) = 0 := by omega
  generalize hm : 2 * k = m at *
  have hV := Lib.hid (valid_any (m : Int))
  rw [hv] at hV
  have HM := Lib.hid hm
  have HN := Lib.hid hn
  have HL := Lib.hid hl
  have HA := Lib.hid hany
  clear hm hn hl hany hv
  refine SX.enterM Try.func11 rfl ?_
  simp only [Try.ntmps11, List.size_toArray, List.length_cons, List.length_nil, Nat.reduceAdd, Nat.reduceSub, Array.replicate_succ, Array.replicate_zero, List.push_toArray, List.append_toArray, List.nil_append, List.cons_append]
  have hs := SX.St.start w
  have HC := Lib.hid (fun W (hW : SX.St w [] W []) => containsFunc8 A n c bs W (hr.st hW) HL.out (by omega) 27 #[] Try.call27 (fun x => decide (1 < x)) (fun x _ W _ => big_any x W))
  have HK := Lib.hid (fun W => chunk_any A n c (m : Int) (by have := HM.out; omega) W)
  gi_wp2_with (first
    | (refine SX.lsm rfl rfl ?_; first | (refine SX.load_blk rfl (by assumption) (by first | (simp; done) | fail) (by rfl) (by first | exact SX.at0 | exact SX.at1 | exact SX.at2 | exact SX.at3 | exact SX.at4 | exact SX.at5) (by rfl) ?_) | (refine SX.load_old rfl (by assumption) (by first | (simp; done) | fail) (by rfl) (by assumption) (by first | (simp; done) | fail) (by assumption) ?_) | (refine SX.store_blk rfl (by assumption) (by first | (simp; done) | fail) (by rfl) (by first | (go_simp; exact rfl) | fail) (by rfl) (by first | exact SX.at0 | exact SX.at1 | exact SX.at2 | exact SX.at3 | exact SX.at4 | exact SX.at5) (by first | (simp; done) | fail) ?_; intro w1 hs1; simp only [List.set_cons_zero, List.set_cons_succ, List.setIfInBounds_toArray] at hs1) | (refine SX.alc_ptr rfl (by assumption) (by first | (intro W; go_simp; exact rfl) | fail) ?_; intro g1 w1 hs1) | (refine SX.alc_slice rfl (by assumption) (by first | (intro W; go_simp; exact rfl) | fail) ?_; intro g1 w1 hs1))
    | (refine SX.lsc rfl rfl ?_
       first
         | (refine SX.wp_calls (fun _ => trivial) rfl rfl (by rfl) Try.call25 (by go_simp; rfl) ?_; refine (SX.call (hV.out _)).mono ?_; rintro e w1 ⟨v, rfl, rfl, hs1⟩; have hs2 := hs.call hs1; refine ⟨_, rfl, ?_⟩)
         | (refine SX.wp_calls (fun _ => trivial) rfl rfl (by rfl) Try.call26 (by go_simp; rfl) ?_; refine (SX.call (HC.out _ hs2)).mono ?_; rw [HA.out]; rintro e w2 ⟨v, rfl, rfl, hs3⟩; have hs4 := hs2.call hs3; refine ⟨_, rfl, ?_⟩)
         | (refine SX.wp_calls (fun _ => trivial) rfl rfl (by rfl) Try.call28 (by go_simp; rfl) ?_; refine (SX.call (HK.out _)).mono ?_; rintro e w3 ⟨v, rfl, ga, gb, rfl, hs5⟩; have hs6 := hs1.call hs5; refine ⟨_, rfl, ?_⟩)))
  simp only [Act.put, List.setIfInBounds_toArray, List.set_cons_succ, List.set_cons_zero]
  simp only [List.cons_append, List.nil_append, List.append_nil] at hs6
  have hs7 := (SX.St.rot (L1 := [_, _]) hs6).nil 32 2
  obtain ⟨b, off, hA⟩ : ∃ b off, 0 < n → A = some ⟨b, off, none⟩ := by
    by_cases h : 0 < n
    · obtain ⟨b, off, h1, _⟩ := hr.at (i := 0) (by omega) (by rw [HL.out]; omega)
      exact ⟨b, off, fun _ => h1⟩
    · exact ⟨0, 0, fun h' => absurd h' h⟩
  have hm1 : 1 ≤ m ∧ m ≤ 6 := by have := HM.out; omega
  refine SX.rangeFunc (chunk_seq A b off n c q ga gb m hm1.1 hm1.2 HN.out hA hnc hn6 hc) rfl Try.call42 (L0 := [_, _]) hs7 trivial (by rintro x args Lx ⟨-, rfl⟩; rfl) (MdI g1 k bs) (fun _ _ => False) ⟨_, rfl⟩ ?round ?done ?stop
  case round =>
    rintro l Z pre x args W L Lx ⟨sv, rfl⟩ hpre ⟨rfl, rfl⟩ hst
    obtain ⟨rfl, hxq⟩ := prefix_range hpre
    gi_wp2
    refine ⟨_, hst, fun W2 Z2 hs => ?_⟩
    simp only [List.cons_append, List.nil_append, List.length_range] at hs
    clear hst hs6 hs5 hs4 hs3 hs7 hs2 hs1 hV HC HK
    have hmk : m = 2 * k := HM.out.symm
    have hxm : (x + 1) * m ≤ n := by rw [HN.out]; exact Nat.mul_le_mul_right m hxq
    have hxm2 : (x + 1) * m = x * m + m := by rw [Nat.add_mul, Nat.one_mul]
    have hn0 : 0 < n := by omega
    obtain rfl := hA hn0
    have hch := hr.sub (s := x * m) (m := m)
    have hchl : ((bs.drop (x * m)).take m).length = m := by simp; rw [HL.out]; omega
    have e0 : evn ((bs.drop (x * m)).take m) 0 k = evn bs (x * (2 * k)) k := by rw [hmk]; exact evn_chunk (by omega)
    have e1 : evn ((bs.drop (x * m)).take m) 1 k = evn bs (x * (2 * k) + 1) k := by rw [hmk]; exact evn_chunk (by omega)
    have hp0 := fun W L (hW : SX.St w [] W L) => part_any _ m m _ 0 k W (hch.st hW) hchl hmk hk (by omega) (by omega)
    have hp1 := fun W L (hW : SX.St w [] W L) => part_any _ m m _ 1 k W (hch.st hW) hchl hmk hk (by omega) (by omega)
    rw [e0] at hp0
    rw [e1] at hp1
    have hd0 := lev_bd (evn bs (x * (2 * k)) k) (evn_bits hb)
    have hd1 := lev_bd (evn bs (x * (2 * k) + 1) k) (evn_bits hb)
    rw [evn_length] at hd0 hd1
    have h2k : (2 : Int) ^ k ≤ 8 := by
      have : k = 1 ∨ k = 2 ∨ k = 3 := by omega
      rcases this with rfl | rfl | rfl <;> decide
    have hl0 := fun A c W (hr : Sl W A (ints .u8 (evn bs (x * (2 * k)) k))) (hc : k ≤ c) => level_any (evn bs (x * (2 * k)) k) A c k W hr (evn_length _ _ _) hk3 hc (evn_bits hb)
    have hl1 := fun A c W (hr : Sl W A (ints .u8 (evn bs (x * (2 * k) + 1) k))) (hc : k ≤ c) => level_any (evn bs (x * (2 * k) + 1) k) A c k W hr (evn_length _ _ _) hk3 hc (evn_bits hb)
    have hpt : Hid (pcells ((List.range x ++ [x]).map (mpt k bs)) = pcells ((List.range x).map (mpt k bs)) ++ [.int .i64 (16 * lev (evn bs (x * (2 * k)) k)), .int .i64 (16 * lev (evn bs (x * (2 * k) + 1) k))]) := by
      rw [List.map_append, List.map_cons, List.map_nil, pcells_snoc]; exact Lib.hid rfl
    generalize hE0 : evn bs (x * (2 * k)) k = E0 at *
    generalize hE1 : evn bs (x * (2 * k) + 1) k = E1 at *
    generalize hI : lev E0 = vI at *
    generalize hQ : lev E1 = vQ at *
    have HP0 := Lib.hid hp0
    have HP1 := Lib.hid hp1
    have HL0 := Lib.hid hl0
    have HL1 := Lib.hid hl1
    obtain ⟨d1, d2⟩ := hd0
    obtain ⟨d3, d4⟩ := hd1
    have b1 : -8 < vI := by omega
    have b2 : vI < 8 := by omega
    have b3 : -8 < vQ := by omega
    have b4 : vQ < 8 := by omega
    have hx600 : x ≤ 600 := by
      have : x * 1 ≤ x * m := Nat.mul_le_mul_left x hm1.1
      omega
    clear hp0 hp1 hl0 hl1 hE0 hE1 hI hQ e0 e1 hchl hch hmk hxm2 d1 d2 d3 d4 h2k hA
    gi_wp2
    refine SX.region_begin (SX.Keep w [] [SX.Ent.blk g1 25 #[sv]]) (fun j => j != 12) mixed ?_
    have hsD := SX.St.drew hs
    generalize World.drew _ = wd at hsD ⊢
    refine SX.take 0 (fun _ => trivial) (by simp only [List.getElem?_toArray, List.getElem?_cons_succ, List.getElem?_cons_zero]; rfl) (by kernel_rfl) (by exact fun _ _ _ h => h) (by rfl) (by first | exact SX.y_load rfl (by first | (simp; done) | fail) rfl (fun _ hk => hk.blk (by first | exact SX.in0 | exact SX.in1 | exact SX.in2 | exact SX.in3 | exact SX.in4) (by rfl)) | exact SX.y_load rfl (by first | (simp; done) | fail) rfl (fun _ hk => hk.old (by assumption) (by first | (simp; done) | fail) (by assumption)) | exact SX.y_loadr rfl (by first | (simp; done) | fail) rfl (by first | exact SX.in0 | exact SX.in1 | exact SX.in2 | exact SX.in3 | exact SX.in4) (by first | assumption | rfl)) (by exact ⟨_, by assumption, by simp⟩) ?_
    simp only [Act.put, List.setIfInBounds_toArray, List.set_cons_succ, List.set_cons_zero]
    refine SX.take 1 (fun _ => trivial) (by simp only [List.getElem?_toArray, List.getElem?_cons_succ, List.getElem?_cons_zero]; rfl) (by kernel_rfl) (by exact fun _ _ _ h => h) (by rfl) (by intro w' _; go_simp; (try go_bits); rfl) (by exact ⟨_, by assumption, by simp⟩) ?_
    simp only [Act.put, List.setIfInBounds_toArray, List.set_cons_succ, List.set_cons_zero]
    refine SX.take 5 (fun _ => trivial) (by simp only [List.getElem?_toArray, List.getElem?_cons_succ, List.getElem?_cons_zero]; rfl) (by kernel_rfl) (by exact fun _ _ _ h => h) (by rfl) (by intro w' _; go_simp; (try go_bits); rfl) (by exact ⟨_, by assumption, by simp⟩) ?_
    simp only [Act.put, List.setIfInBounds_toArray, List.set_cons_succ, List.set_cons_zero]
    refine SX.next 2 (by simp only [List.getElem?_toArray, List.getElem?_cons_succ, List.getElem?_cons_zero]; rfl) (by kernel_rfl) (by rfl) ?_
    refine SX.wp_calls (fun _ => trivial) rfl rfl (by rfl) Try.call30 (by go_simp; rfl) ?_
    refine (SX.callR (HP0.out _ _ hsD)).mono ?_
    rintro e y1 ⟨v, rfl, ga, capa, rfl, hca, hcm, hy1⟩
    have hz1 := hsD.call hy1
    simp only [List.cons_append, List.nil_append] at hz1
    refine ⟨_, rfl, ?_⟩
    refine ⟨fun _ => ⟨_, by assumption, by simp⟩, ?_⟩
    simp only [Act.put, List.setIfInBounds_toArray, List.set_cons_succ, List.set_cons_zero]
    refine SX.next 3 (by simp only [List.getElem?_toArray, List.getElem?_cons_succ, List.getElem?_cons_zero]; rfl) (by kernel_rfl) (by rfl) ?_
    refine SX.wp_calls (fun _ => trivial) rfl rfl (by rfl) Try.call29 (by go_simp; rfl) ?_
    refine (SX.callR (HL0.out _ _ _ (row_sl hz1 SX.at0) hca)).mono ?_
    rintro e y2 ⟨v, rfl, rfl, hy2⟩
    have hz2 := hz1.call hy2
    simp only [List.cons_append, List.nil_append] at hz2
    refine ⟨_, rfl, ?_⟩
    refine ⟨fun _ => ⟨_, by assumption, by simp⟩, ?_⟩
    simp only [Act.put, List.setIfInBounds_toArray, List.set_cons_succ, List.set_cons_zero]
    refine SX.take 4 (fun _ => trivial) (by simp only [List.getElem?_toArray, List.getElem?_cons_succ, List.getElem?_cons_zero]; rfl) (by kernel_rfl) (by exact fun _ _ _ h => h) (by rfl) (by intro w' _; go_simp; (try go_bits); rfl) (by exact ⟨_, by assumption, by simp⟩) ?_
    simp only [Act.put, List.setIfInBounds_toArray, List.set_cons_succ, List.set_cons_zero]
    refine SX.next 6 (by simp only [List.getElem?_toArray, List.getElem?_cons_succ, List.getElem?_cons_zero]; rfl) (by kernel_rfl) (by rfl) ?_
    refine SX.wp_calls (fun _ => trivial) rfl rfl (by rfl) Try.call30 (by go_simp; rfl) ?_
    refine (SX.callR (HP1.out _ _ hz2)).mono ?_
    rintro e y3 ⟨v, rfl, gb, capb, rfl, hcb, hcn, hy3⟩
    have hz3 := hz2.call hy3
    simp only [List.cons_append, List.nil_append] at hz3
    refine ⟨_, rfl, ?_⟩
    refine ⟨fun _ => ⟨_, by assumption, by simp⟩, ?_⟩
    simp only [Act.put, List.setIfInBounds_toArray, List.set_cons_succ, List.set_cons_zero]
    refine SX.next 7 (by simp only [List.getElem?_toArray, List.getElem?_cons_succ, List.getElem?_cons_zero]; rfl) (by kernel_rfl) (by rfl) ?_
    refine SX.wp_calls (fun _ => trivial) rfl rfl (by rfl) Try.call29 (by go_simp; rfl) ?_
    refine (SX.callR (HL1.out _ _ _ (row_sl hz3 SX.at0) hcb)).mono ?_
    rintro e y4 ⟨v, rfl, rfl, hy4⟩
    have hz4 := hz3.call hy4
    simp only [List.cons_append, List.nil_append] at hz4
    refine ⟨_, rfl, ?_⟩
    refine ⟨fun _ => ⟨_, by assumption, by simp⟩, ?_⟩
    simp only [Act.put, List.setIfInBounds_toArray, List.set_cons_succ, List.set_cons_zero]
    refine SX.take 8 (fun _ => trivial) (by simp only [List.getElem?_toArray, List.getElem?_cons_succ, List.getElem?_cons_zero]; rfl) (by kernel_rfl) (by exact fun _ _ _ h => h) (by rfl) (by intro w' _; go_simp; (try go_bits); rfl) (by exact ⟨_, by assumption, by simp⟩) ?_
    simp only [Act.put, List.setIfInBounds_toArray, List.set_cons_succ, List.set_cons_zero]
    refine SX.take 9 (fun _ => trivial) (by simp only [List.getElem?_toArray, List.getElem?_cons_succ, List.getElem?_cons_zero]; rfl) (by kernel_rfl) (by exact fun _ _ _ h => h) (by rfl) (by intro w' _; go_simp; (try go_bits); rfl) (by exact ⟨_, by assumption, by simp⟩) ?_
    simp only [Act.put, List.setIfInBounds_toArray, List.set_cons_succ, List.set_cons_zero]
    refine SX.next 10 (by simp only [List.getElem?_toArray, List.getElem?_cons_succ, List.getElem?_cons_zero]; rfl) (by kernel_rfl) (by rfl) ?_
    refine SX.alc_slice rfl (by assumption) (by intro W; go_simp; exact rfl) ?_
    intro g5 y5 hz5
    refine ⟨fun _ => ⟨_, by assumption, by simp⟩, ?_⟩
    simp only [Act.put, List.setIfInBounds_toArray, List.set_cons_succ, List.set_cons_zero]
    refine SX.next 11 (by simp only [List.getElem?_toArray, List.getElem?_cons_succ, List.getElem?_cons_zero]; rfl) (by kernel_rfl) (by rfl) ?_
    refine SX.append_blk (j := 3) (j' := 0) rfl hz5 Try.underlying25 hi0 hzz0 hzz1 hzz2 rfl (by decide) (by rfl) (by rfl) (by rfl) (by rfl) (by rfl) (by simp [Value.oneCell']) (by decide) (by unfold maxLen; omega) (by omega) ?_
    intro g6 cap6 y6 hz6
    simp only [List.set_cons_succ, List.set_cons_zero, List.eraseIdx_cons_succ, List.eraseIdx_cons_zero] at hz6
    refine ⟨fun _ => ⟨_, by assumption, by simp⟩, ?_⟩
    simp only [Act.put, List.setIfInBounds_toArray, List.set_cons_succ, List.set_cons_zero]
    refine SX.next 12 (by simp only [List.getElem?_toArray, List.getElem?_cons_succ, List.getElem?_cons_zero]; rfl) (by kernel_rfl) (by rfl) ?_
    (refine SX.store_blk rfl (by assumption) (by first | (simp; done) | fail) (by rfl) (by first | (go_simp; exact rfl) | fail) (by rfl) (by first | exact SX.at0 | exact SX.at1 | exact SX.at2 | exact SX.at3 | exact SX.at4 | exact SX.at5) (by first | (simp; done) | fail) ?_; intro w1 hs1; simp only [List.set_cons_zero, List.set_cons_succ, List.setIfInBounds_toArray] at hs1)
    refine ⟨fun h => absurd h (by decide), ?_⟩
    simp only [Act.put, List.setIfInBounds_toArray, List.set_cons_succ, List.set_cons_zero]
    refine SX.done (by kernel_rfl) ?_
    gi_wp2
    refine ⟨_, ⟨.slice (some ⟨g6, 0, none⟩) (x + 1) cap6, rfl⟩, ?_⟩
    rw [hpt.out]
    simp only [List.length_append, List.length_range, List.length_cons, List.length_nil, List.cons_append, List.nil_append]
    exact hs1.tl.tl
  case done =>
    rintro D W L ⟨sv, rfl⟩ hst
    simp only [List.cons_append, List.nil_append, List.length_range] at hst
    gi_wp2_with (first | (refine SX.lsm rfl rfl ?_; first | (refine SX.load_blk rfl (by assumption) (by first | (simp; done) | fail) (by rfl) (by first | exact SX.at0 | exact SX.at1 | exact SX.at2 | exact SX.at3 | exact SX.at4 | exact SX.at5) (by rfl) ?_) | (refine SX.load_old rfl (by assumption) (by first | (simp; done) | fail) (by rfl) (by assumption) (by first | (simp; done) | fail) (by assumption) ?_) | (refine SX.store_blk rfl (by assumption) (by first | (simp; done) | fail) (by rfl) (by first | (go_simp; exact rfl) | fail) (by rfl) (by first | exact SX.at0 | exact SX.at1 | exact SX.at2 | exact SX.at3 | exact SX.at4 | exact SX.at5) (by first | (simp; done) | fail) ?_; intro w1 hs1; simp only [List.set_cons_zero, List.set_cons_succ, List.setIfInBounds_toArray] at hs1) | (refine SX.alc_ptr rfl (by assumption) (by first | (intro W; go_simp; exact rfl) | fail) ?_; intro g1 w1 hs1) | (refine SX.alc_slice rfl (by assumption) (by first | (intro W; go_simp; exact rfl) | fail) ?_; intro g1 w1 hs1)))
    refine SX.leave1 (L1 := [_, _]) hst rfl (v := .tuple #[sv, .int .i64 0]) (fun w => results_tmp2 (t := 4) (u := 5) rfl _ _ _) (fun w' h' => ⟨_, rfl, sv, rfl, ?_⟩)
    exact h'.sub (List.Sublist.cons_cons _ (List.nil_sublist _))
  case stop =>
    rintro D cc W L h
    exact h.elim

set_option maxRecDepth 100000 in
set_option maxHeartbeats 1000000 in
theorem modulate_arg (A : Option Addr) (n c : Nat) (m : Int) (w : World) (hb : vm m = false ∨ (m ≠ 0 ∧ (n : Int).tmod m ≠ 0)) (hn6 : n ≤ 600) :
    Calls Try.prog 11 #[.int .i64 m, .slice A n c] w (SX.Ret fun v w' => v = .tuple #[.slice none 0 0, .int .i64 2] ∧ SX.St w [] w' []) := by
  have hs := SX.St.start w
  by_cases hv : vm m = false
  · have hV := Lib.hid (valid_any m)
    rw [hv] at hV
    clear hb hv
    refine SX.enterM Try.func11 rfl ?_
    simp only [Try.ntmps11, List.size_toArray, List.length_cons, List.length_nil, Nat.reduceAdd, Nat.reduceSub, Array.replicate_succ, Array.replicate_zero, List.push_toArray, List.append_toArray, List.nil_append, List.cons_append]
    gi_wp2_with (first
      | (refine SX.lsm rfl rfl ?_; first | (refine SX.load_blk rfl (by assumption) (by first | (simp; done) | fail) (by rfl) (by first | exact SX.at0 | exact SX.at1 | exact SX.at2 | exact SX.at3 | exact SX.at4 | exact SX.at5) (by rfl) ?_) | (refine SX.load_old rfl (by assumption) (by first | (simp; done) | fail) (by rfl) (by assumption) (by first | (simp; done) | fail) (by assumption) ?_) | (refine SX.store_blk rfl (by assumption) (by first | (simp; done) | fail) (by rfl) (by first | (go_simp; exact rfl) | fail) (by rfl) (by first | exact SX.at0 | exact SX.at1 | exact SX.at2 | exact SX.at3 | exact SX.at4 | exact SX.at5) (by first | (simp; done) | fail) ?_; intro w1 hs1; simp only [List.set_cons_zero, List.set_cons_succ, List.setIfInBounds_toArray] at hs1) | (refine SX.alc_ptr rfl (by assumption) (by first | (intro W; go_simp; exact rfl) | fail) ?_; intro g1 w1 hs1) | (refine SX.alc_slice rfl (by assumption) (by first | (intro W; go_simp; exact rfl) | fail) ?_; intro g1 w1 hs1))
      | (refine SX.lsc rfl rfl ?_
         refine SX.wp_calls (fun _ => trivial) rfl rfl (by rfl) Try.call25 (by go_simp; rfl) ?_; refine (SX.call (hV.out _)).mono ?_; rintro e w1 ⟨v, rfl, rfl, hs1⟩; have hs2 := hs.call hs1; refine ⟨_, rfl, ?_⟩))
    exact SX.leave0 rfl (results_tmp2 rfl _ _ _) ⟨_, rfl, rfl, hs2⟩
  · have hv' : vm m = true := by simpa using hv
    have hm : m = 2 ∨ m = 4 ∨ m = 6 := by simp [vm] at hv'; omega
    have hmod : (((n : Int) % m) != 0) = true := by
      rcases hb with h | ⟨_, h⟩
      · exact absurd h hv
      · have : (n : Int).tmod m = (n : Int) % m := by
          rw [Int.tmod_eq_emod_of_nonneg (by omega)]
        rw [this] at h
        simpa using h
    have hm0 : ¬ m = 0 := by omega
    have hV := Lib.hid (valid_any m)
    rw [hv'] at hV
    have hm1 : 0 < m := by omega
    have hm2 : m ≤ 6 := by omega
    clear hb hv hv' hm
    refine SX.enterM Try.func11 rfl ?_
    simp only [Try.ntmps11, List.size_toArray, List.length_cons, List.length_nil, Nat.reduceAdd, Nat.reduceSub, Array.replicate_succ, Array.replicate_zero, List.push_toArray, List.append_toArray, List.nil_append, List.cons_append]
    gi_wp2_with (first
      | (refine SX.lsm rfl rfl ?_; first | (refine SX.load_blk rfl (by assumption) (by first | (simp; done) | fail) (by rfl) (by first | exact SX.at0 | exact SX.at1 | exact SX.at2 | exact SX.at3 | exact SX.at4 | exact SX.at5) (by rfl) ?_) | (refine SX.load_old rfl (by assumption) (by first | (simp; done) | fail) (by rfl) (by assumption) (by first | (simp; done) | fail) (by assumption) ?_) | (refine SX.store_blk rfl (by assumption) (by first | (simp; done) | fail) (by rfl) (by first | (go_simp; exact rfl) | fail) (by rfl) (by first | exact SX.at0 | exact SX.at1 | exact SX.at2 | exact SX.at3 | exact SX.at4 | exact SX.at5) (by first | (simp; done) | fail) ?_; intro w1 hs1; simp only [List.set_cons_zero, List.set_cons_succ, List.setIfInBounds_toArray] at hs1) | (refine SX.alc_ptr rfl (by assumption) (by first | (intro W; go_simp; exact rfl) | fail) ?_; intro g1 w1 hs1) | (refine SX.alc_slice rfl (by assumption) (by first | (intro W; go_simp; exact rfl) | fail) ?_; intro g1 w1 hs1))
      | (refine SX.lsc rfl rfl ?_
         refine SX.wp_calls (fun _ => trivial) rfl rfl (by rfl) Try.call25 (by go_simp; rfl) ?_; refine (SX.call (hV.out _)).mono ?_; rintro e w1 ⟨v, rfl, rfl, hs1⟩; have hs2 := hs.call hs1; refine ⟨_, rfl, ?_⟩))
    exact SX.leave0 rfl (results_tmp2 rfl _ _ _) ⟨_, rfl, rfl, hs2⟩

set_option maxRecDepth 100000 in
set_option maxHeartbeats 1000000 in
theorem modulate_bit (A : Option Addr) (n c k q : Nat) (bs : List Int) (w : World) (hr : Sl w A (ints .u8 bs)) (hl : bs.length = n) (hn : n = q * (2 * k)) (hk : 1 ≤ k) (hk3 : k ≤ 3) (hn6 : n ≤ 600) (hb : bs.any (fun x => decide (1 < x)) = true) :
    Calls Try.prog 11 #[.int .i64 ((2 * k : Nat) : Int), .slice A n c] w (SX.Ret fun v w' => v = .tuple #[.slice none 0 0, .int .i64 3] ∧ SX.St w [] w' []) := by
  have hs := SX.St.start w
  have hv : vm ((2 * k : Nat) : Int) = true := by
    have : k = 1 ∨ k = 2 ∨ k = 3 := by omega
    rcases this with rfl | rfl | rfl <;> rfl
  have hmod : (((n : Int) % ((2 * k : Nat) : Int)) != 0) = false := by
    rw [hn]; simp
  have hmne : ¬ ((2 * k : Nat) : Int) = 0 := by omega
  generalize hm : 2 * k = m at *
  have hV := Lib.hid (valid_any (m : Int))
  rw [hv] at hV
  have HC := Lib.hid (fun W (hW : SX.St w [] W []) => containsFunc8 A n c bs W (hr.st hW) hl (by omega) 27 #[] Try.call27 (fun x => decide (1 < x)) (fun x _ W _ => big_any x W))
  rw [hb] at HC
  clear hm hn hl hb hv
  refine SX.enterM Try.func11 rfl ?_
  simp only [Try.ntmps11, List.size_toArray, List.length_cons, List.length_nil, Nat.reduceAdd, Nat.reduceSub, Array.replicate_succ, Array.replicate_zero, List.push_toArray, List.append_toArray, List.nil_append, List.cons_append]
  gi_wp2_with (first
    | (refine SX.lsm rfl rfl ?_; first | (refine SX.load_blk rfl (by assumption) (by first | (simp; done) | fail) (by rfl) (by first | exact SX.at0 | exact SX.at1 | exact SX.at2 | exact SX.at3 | exact SX.at4 | exact SX.at5) (by rfl) ?_) | (refine SX.load_old rfl (by assumption) (by first | (simp; done) | fail) (by rfl) (by assumption) (by first | (simp; done) | fail) (by assumption) ?_) | (refine SX.store_blk rfl (by assumption) (by first | (simp; done) | fail) (by rfl) (by first | (go_simp; exact rfl) | fail) (by rfl) (by first | exact SX.at0 | exact SX.at1 | exact SX.at2 | exact SX.at3 | exact SX.at4 | exact SX.at5) (by first | (simp; done) | fail) ?_; intro w1 hs1; simp only [List.set_cons_zero, List.set_cons_succ, List.setIfInBounds_toArray] at hs1) | (refine SX.alc_ptr rfl (by assumption) (by first | (intro W; go_simp; exact rfl) | fail) ?_; intro g1 w1 hs1) | (refine SX.alc_slice rfl (by assumption) (by first | (intro W; go_simp; exact rfl) | fail) ?_; intro g1 w1 hs1))
    | (refine SX.lsc rfl rfl ?_
       first
         | (refine SX.wp_calls (fun _ => trivial) rfl rfl (by rfl) Try.call25 (by go_simp; rfl) ?_; refine (SX.call (hV.out _)).mono ?_; rintro e w1 ⟨v, rfl, rfl, hs1⟩; have hs2 := hs.call hs1; refine ⟨_, rfl, ?_⟩)
         | (refine SX.wp_calls (fun _ => trivial) rfl rfl (by rfl) Try.call26 (by go_simp; rfl) ?_; refine (SX.call (HC.out _ hs2)).mono ?_; rintro e w2 ⟨v, rfl, rfl, hs3⟩; have hs4 := hs2.call hs3; refine ⟨_, rfl, ?_⟩)))
  exact SX.leave0 rfl (results_tmp2 rfl _ _ _) ⟨_, rfl, rfl, hs4⟩
end Go.Proofs.Ythncbdoiilgnhaa

/- qam.groups. -/
namespace Go.Proofs.Ythncbdoiilgnhaa
open Go.RowKit
set_option linter.unusedSimpArgs false
set_option linter.unusedVariables false

theorem info3 : (Try.prog.info? 3).map (fun i => (i.zero, i.size, i.bytes)) = some (some (.int .i64 0), 1, 8) := by kernel_rfl

/-- bit i of v -/
def bitOf (v i : Nat) : Int := ((v / 2 ^ i % 2 : Nat) : Int)
/-- the group of n bits with number v -/
def grp (n v : Nat) : List Int := (List.range n).map (bitOf v)
/-- the same, asz far asz it is filled -/
def gfill (n v j : Nat) : List Int := (List.range n).map fun i => if i < j then bitOf v i else 0

theorem gfill_zero (n v : Nat) : ints .u8 (gfill n v 0) = List.replicate n (.int .u8 0) := by
  apply List.ext_getElem?
  intro i
  simp [ints, gfill, List.getElem?_replicate, List.getElem?_range]
  by_cases h : i < n <;> simp [h]
theorem gfill_full (n v : Nat) : gfill n v n = grp n v := by
  unfold gfill grp
  refine List.map_congr_left fun i hi => ?_
  rw [if_pos (by simpa using hi)]
theorem gfill_succ (n v j : Nat) (hj : j < n) : (ints .u8 (gfill n v j)).set j (.int .u8 (bitOf v j)) = ints .u8 (gfill n v (j + 1)) := by
  apply List.ext_getElem?
  intro i
  simp only [ints, gfill, List.getElem?_set, List.length_map, List.length_range, List.getElem?_map]
  by_cases h : j = i
  · subst h
    simp [hj]
  · rw [if_neg h]
    by_cases hi : i < n
    · simp only [List.getElem?_range hi, Option.map_some]
      congr 2
      by_cases h2 : i < j
      · rw [if_pos h2, if_pos (by omega)]
      · rw [if_neg h2, if_neg (by omega)]
    · rw [List.getElem?_eq_none (by simp; omega)]
      simp
theorem gfill_length (n v j : Nat) : (ints .u8 (gfill n v j)).length = n := by simp [ints, gfill]

theorem bit_eq (v j : Nat) (hv : v < 256) : bits .and .i64 ((v : Int) / 2 ^ j) 1 % 256 = bitOf v j := by
  have h1 : (v : Int) / 2 ^ j = ((v / 2 ^ j : Nat) : Int) := by simp
  have h2 : v / 2 ^ j ≤ v := Nat.div_le_self _ _
  rw [h1, show (1 : Int) = ((1 : Nat) : Int) from rfl, i64_and_nat _ _ (by omega) (by omega), Nat.and_one_is_mod]
  unfold bitOf
  omega

theorem groups_any (n : Int) (w : World) :
    Calls Try.prog 39 #[.int .i64 n] w (SX.Ret fun v w' => ∃ g, v = .func (.func 52) #[] #[.pointer (some ⟨g, 0, none⟩)] ∧ SX.St w [] w' [SX.Ent.blk g 3 #[.int .i64 n]]) := by
  refine SX.enter Try.func39 rfl ?_
  simp only [Try.ntmps39, List.size_toArray, List.length_cons, List.length_nil, Nat.reduceAdd, Nat.reduceSub, Array.replicate_succ, Array.replicate_zero, List.push_toArray, List.append_toArray, List.nil_append, List.cons_append]
  have hs := SX.St.start w
  gi_wp2_with (first | (refine SX.lsm rfl rfl ?_; first | (refine SX.load_blk rfl (by assumption) (by first | (simp; done) | fail) (by rfl) (by first | exact SX.at0 | exact SX.at1 | exact SX.at2 | exact SX.at3 | exact SX.at4 | exact SX.at5) (by rfl) ?_) | (refine SX.load_old rfl (by assumption) (by first | (simp; done) | fail) (by rfl) (by assumption) (by first | (simp; done) | fail) (by assumption) ?_) | (refine SX.store_blk rfl (by assumption) (by first | (simp; done) | fail) (by rfl) (by first | (go_simp; exact rfl) | fail) (by rfl) (by first | exact SX.at0 | exact SX.at1 | exact SX.at2 | exact SX.at3 | exact SX.at4 | exact SX.at5) (by first | (simp; done) | fail) ?_; intro w1 hs1; simp only [List.set_cons_zero, List.set_cons_succ, List.setIfInBounds_toArray] at hs1) | (refine SX.alc_ptr rfl (by assumption) (by first | (intro W; go_simp; exact rfl) | fail) ?_; intro g1 w1 hs1) | (refine SX.alc_slice rfl (by assumption) (by first | (intro W; go_simp; exact rfl) | fail) ?_; intro g1 w1 hs1)))
  go_ret
  exact ⟨_, rfl, _, rfl, hs1⟩

def GrA (n : Nat) (v : Nat) (args : Array Value) (Lx : List SX.Ent) : Prop :=
  ∃ g, args = #[.slice (some ⟨g, 0, none⟩) n n] ∧ Lx = [SX.Ent.row (.slice (some ⟨g, 0, none⟩) n n) 5 1 n (ints .u8 (grp n v))]

set_option maxRecDepth 100000 in
set_option maxHeartbeats 400000 in
theorem groups_seq (n g : Nat) (hn : 1 ≤ n) (hn3 : n ≤ 3) :
    SX.SeqC Try.prog 52 #[.pointer (some ⟨g, 0, none⟩)] (GrA n) [SX.Ent.blk g 3 #[.int .i64 n]] (fun _ _ => True) (List.range (2 ^ n)) := by
  obtain ⟨i0, hi0, hzz0, hzz1, hzz2⟩ := info_parts info5
  intro l w0 M I Ix W L0 _ hY h0 hs
  refine SX.enter Try.func52 rfl ?_
  simp only [Try.ntmps52, List.size_toArray, List.length_cons, List.length_nil, Nat.reduceAdd, Nat.reduceSub, Array.replicate_succ, Array.replicate_zero, List.push_toArray, List.append_toArray, List.nil_append, List.cons_append]
  obtain ⟨N, hN⟩ : ∃ N : Nat, N = 2 ^ n := ⟨_, rfl⟩
  rw [← hN] at hY ⊢
  have hN8 : 2 ≤ N ∧ N ≤ 8 := by
    have : n = 1 ∨ n = 2 ∨ n = 3 := by omega
    rcases this with rfl | rfl | rfl <;> simp [hN]
  have hsh : wrap64 ((2 : Int) ^ n) = (N : Int) := by
    have : n = 1 ∨ n = 2 ∨ n = 3 := by omega
    rcases this with rfl | rfl | rfl <;> simp [hN, wrap64]
  have HN := Lib.hid hN
  have HY := Lib.hid hY
  have HS := Lib.hid hsh
  clear hY hN hsh
  obtain ⟨hN2, hN8⟩ := hN8
  have hs1 := hs.rot
  simp only [List.cons_append, List.nil_append] at hs1
  gi_wp2_with (first | (refine SX.lsm rfl rfl ?_; first | (refine SX.load_blk rfl (by assumption) (by first | (simp; done) | fail) (by rfl) (by first | exact SX.at0 | exact SX.at1 | exact SX.at2 | exact SX.at3 | exact SX.at4 | exact SX.at5) (by rfl) ?_) | (refine SX.load_old rfl (by assumption) (by first | (simp; done) | fail) (by rfl) (by assumption) (by first | (simp; done) | fail) (by assumption) ?_) | (refine SX.store_blk rfl (by assumption) (by first | (simp; done) | fail) (by rfl) (by first | (go_simp; exact rfl) | fail) (by rfl) (by first | exact SX.at0 | exact SX.at1 | exact SX.at2 | exact SX.at3 | exact SX.at4 | exact SX.at5) (by first | (simp; done) | fail) ?_; intro w1 hs1; simp only [List.set_cons_zero, List.set_cons_succ, List.setIfInBounds_toArray] at hs1) | (refine SX.alc_ptr rfl (by assumption) (by first | (intro W; go_simp; exact rfl) | fail) ?_; intro g1 w1 hs1) | (refine SX.alc_slice rfl (by assumption) (by first | (intro W; go_simp; exact rfl) | fail) ?_; intro g1 w1 hs1)))
  gi_loopw [8] (fun i wr => ∃ v : Nat, i = .int .i64 (v : Int) ∧ v ≤ N ∧ ∃ L, I (List.range v) L ∧ SX.St w0 M wr (L ++ [SX.Ent.blk g 3 #[.int .i64 n]])) (fun i _ => N - (intOf i).toNat)
  case atStart => exact ⟨0, rfl, by omega, L0, h0, hs⟩
  case round =>
    clear hs h0 hs1
    obtain ⟨v, rfl, hvN, L, hi, hs0⟩ := hrel
    have hs := hs0.rot
    simp only [List.cons_append, List.nil_append] at hs
    by_cases hlt : v < N
    · have hlt' : (v : Int) < wrap64 ((2 : Int) ^ n) := by rw [HS.out]; omega
      gi_wp2_with (first
        | (refine SX.lsm rfl rfl ?_; first | (refine SX.load_blk rfl (by assumption) (by first | (simp; done) | fail) (by rfl) (by first | exact SX.at0 | exact SX.at1 | exact SX.at2 | exact SX.at3 | exact SX.at4 | exact SX.at5) (by rfl) ?_) | (refine SX.load_old rfl (by assumption) (by first | (simp; done) | fail) (by rfl) (by assumption) (by first | (simp; done) | fail) (by assumption) ?_) | (refine SX.store_blk rfl (by assumption) (by first | (simp; done) | fail) (by rfl) (by first | (go_simp; exact rfl) | fail) (by rfl) (by first | exact SX.at0 | exact SX.at1 | exact SX.at2 | exact SX.at3 | exact SX.at4 | exact SX.at5) (by first | (simp; done) | fail) ?_; intro w1 hs1; simp only [List.set_cons_zero, List.set_cons_succ, List.setIfInBounds_toArray] at hs1) | (refine SX.alc_ptr rfl (by assumption) (by first | (intro W; go_simp; exact rfl) | fail) ?_; intro g1 w1 hs1) | (refine SX.alc_slice rfl (by assumption) (by first | (intro W; go_simp; exact rfl) | fail) ?_; intro g1 w1 hs1))
        | (refine SX.lsm rfl rfl ?_; refine SX.mk_row rfl (by assumption) Try.underlying23 hi0 hzz0 hzz1 hzz2 (by rfl) (by rfl) (by omega) (by unfold maxLen; omega) ?_; intro g2 w2 hs2; simp only [Value.cells, Nat.mul_one, SX.madeCells_one] at hs2; rw [← gfill_zero n v] at hs2))
      obtain ⟨wo, rfl⟩ : ∃ wo : World, wo = wr := ⟨_, rfl⟩
      gi_loopw [5, 15] (fun _ i wr => ∃ j : Nat, i = .int .i64 (j : Int) ∧ j ≤ n ∧ SX.St w0 M wr (SX.Ent.row (.slice (some ⟨g2, 0, none⟩) n n) 5 1 n (ints .u8 (gfill n v j)) :: SX.Ent.blk g 3 #[.int .i64 n] :: L)) (fun _ i _ => n - (intOf i).toNat)
      case atStart => exact ⟨0, rfl, by omega, hs2⟩
      case round =>
        clear hs2
        obtain ⟨j, rfl, hjn, hs3⟩ := hrel
        by_cases hj : j < n
        · have hj' : (j : Int) < n := by omega
          have hlen := gfill_length n v j
          gi_wp2_with (first | (refine SX.lsm rfl rfl ?_; first | (refine SX.load_blk rfl (by assumption) (by first | (simp; done) | fail) (by rfl) (by first | exact SX.at0 | exact SX.at1 | exact SX.at2 | exact SX.at3 | exact SX.at4 | exact SX.at5) (by rfl) ?_) | (refine SX.load_old rfl (by assumption) (by first | (simp; done) | fail) (by rfl) (by assumption) (by first | (simp; done) | fail) (by assumption) ?_) | (refine SX.store_blk rfl (by assumption) (by first | (simp; done) | fail) (by rfl) (by first | (go_simp; exact rfl) | fail) (by rfl) (by first | exact SX.at0 | exact SX.at1 | exact SX.at2 | exact SX.at3 | exact SX.at4 | exact SX.at5) (by first | (simp; done) | fail) ?_; intro w1 hs1; simp only [List.set_cons_zero, List.set_cons_succ, List.setIfInBounds_toArray] at hs1) | (refine SX.alc_ptr rfl (by assumption) (by first | (intro W; go_simp; exact rfl) | fail) ?_; intro g1 w1 hs1) | (refine SX.alc_slice rfl (by assumption) (by first | (intro W; go_simp; exact rfl) | fail) ?_; intro g1 w1 hs1)) | (refine SX.lsm rfl rfl ?_; (refine SX.store_row rfl (by assumption) (by first | (simp; done) | fail) (by rfl) (by first | (go_simp; exact rfl) | fail) (by rfl) (by first | exact SX.at0 | exact SX.at1 | exact SX.at2 | exact SX.at3 | exact SX.at4 | exact SX.at5) (by omega) ?_; intro w1 hs1; simp only [List.set_cons_zero, List.set_cons_succ, List.setIfInBounds_toArray] at hs1)))
          rw [bit_eq v j (by omega), gfill_succ n v j hj] at hs1
          go_roundw
          case rel => exact ⟨j + 1, by go_num, by omega, hs1⟩
          case measure => simp [intOf]; omega
        · have hj' : ¬ (j : Int) < n := by omega
          obtain rfl : j = n := by omega
          rw [gfill_full] at hs3
          have hY := Lib.hid (HY.out [SX.Ent.blk g 3 #[.int .i64 j]] (List.range v) v #[.slice (some ⟨g2, 0, none⟩) j j] wr L _ hi (by rw [← List.range_succ]; exact range_prefix hlt) ⟨g2, rfl, rfl⟩ (by
            refine hs3.perm ?_
            simp only [List.cons_append, List.nil_append]
            exact List.Perm.cons _ (List.perm_append_comm (l₁ := L) (l₂ := [_]))))
          gi_wp2_with (first | (refine SX.lsm rfl rfl ?_; first | (refine SX.load_blk rfl (by assumption) (by first | (simp; done) | fail) (by rfl) (by first | exact SX.at0 | exact SX.at1 | exact SX.at2 | exact SX.at3 | exact SX.at4 | exact SX.at5) (by rfl) ?_) | (refine SX.load_old rfl (by assumption) (by first | (simp; done) | fail) (by rfl) (by assumption) (by first | (simp; done) | fail) (by assumption) ?_) | (refine SX.store_blk rfl (by assumption) (by first | (simp; done) | fail) (by rfl) (by first | (go_simp; exact rfl) | fail) (by rfl) (by first | exact SX.at0 | exact SX.at1 | exact SX.at2 | exact SX.at3 | exact SX.at4 | exact SX.at5) (by first | (simp; done) | fail) ?_; intro w1 hs1; simp only [List.set_cons_zero, List.set_cons_succ, List.setIfInBounds_toArray] at hs1) | (refine SX.alc_ptr rfl (by assumption) (by first | (intro W; go_simp; exact rfl) | fail) ?_; intro g1 w1 hs1) | (refine SX.alc_slice rfl (by assumption) (by first | (intro W; go_simp; exact rfl) | fail) ?_; intro g1 w1 hs1)) | (refine SX.lsc rfl rfl (SX.wp_yield rfl (by rfl) (by go_simp) hY.out ?_); rintro e W3 (⟨rfl, L3, hi3, hs4⟩ | ⟨rfl, L3, hi3, hs4⟩) <;> refine ⟨_, rfl, ?_⟩))
          · go_roundw
            case rel => exact ⟨v + 1, by go_num, by omega, L3, by rw [List.range_succ]; exact hi3, hs4⟩
            case measure => simp [intOf]; omega
          · refine bodyPost_ret (results_none rfl _ _ _) rfl ?_
            exact ⟨⟨_, rfl⟩, L3, .inr hi3, hs4⟩
    · have hge : ¬ (v : Int) < wrap64 ((2 : Int) ^ n) := by rw [HS.out]; omega
      gi_wp2_with (first | (refine SX.lsm rfl rfl ?_; first | (refine SX.load_blk rfl (by assumption) (by first | (simp; done) | fail) (by rfl) (by first | exact SX.at0 | exact SX.at1 | exact SX.at2 | exact SX.at3 | exact SX.at4 | exact SX.at5) (by rfl) ?_) | (refine SX.load_old rfl (by assumption) (by first | (simp; done) | fail) (by rfl) (by assumption) (by first | (simp; done) | fail) (by assumption) ?_) | (refine SX.store_blk rfl (by assumption) (by first | (simp; done) | fail) (by rfl) (by first | (go_simp; exact rfl) | fail) (by rfl) (by first | exact SX.at0 | exact SX.at1 | exact SX.at2 | exact SX.at3 | exact SX.at4 | exact SX.at5) (by first | (simp; done) | fail) ?_; intro w1 hs1; simp only [List.set_cons_zero, List.set_cons_succ, List.setIfInBounds_toArray] at hs1) | (refine SX.alc_ptr rfl (by assumption) (by first | (intro W; go_simp; exact rfl) | fail) ?_; intro g1 w1 hs1) | (refine SX.alc_slice rfl (by assumption) (by first | (intro W; go_simp; exact rfl) | fail) ?_; intro g1 w1 hs1)))
      refine bodyPost_end (results_none rfl _ _ _) rfl ?_
      obtain rfl : v = N := by omega
      exact ⟨⟨_, rfl⟩, L, .inl hi, hs0⟩
end Go.Proofs.Ythncbdoiilgnhaa

/- Aggregates in memory, and rows made by literals. -/
namespace Go.Proofs.Ythncbdoiilgnhaa
open Go.RowKit
set_option linter.unusedSimpArgs false
set_option linter.unusedVariables false
namespace SX
variable {F : Fence} {n : Nat} {P : Program} {w0 w : World} {M : List Nat} {L : List Ent} {a : Act} {K : Act → World → Prop} {Q : Exit → Act → World → Prop}
variable {o : Oper} {T : TypeId}

/-- A block whose cells are all those of a row is a row. -/
theorem St.asRow {g T k size : Nat} {cs : Array Value} (h : St w0 M w (Ent.obj g (.cells cs T (0, 0)) :: L)) (hs : cs.size = k * size) (hk : k ≤ maxLen) :
    St w0 M w (Ent.row (.slice (some ⟨g, 0, none⟩) k k) T size k cs.toList :: L) := by
  have hb : w.heap[g]? = some (.cells cs T (0, 0)) := h.get at0
  refine h.step rfl rfl rfl (Nat.le_refl _) (fun _ _ _ => rfl) (by simp [Ent.row, Value.ownBlock]) (by simp [Ent.row, Value.ownBlock, Ent.obj]) ?_
  refine ⟨by simpa using hs, .inr ⟨g, k, cs, rfl, Nat.zero_le _, hb, Nat.le_refl _, hk, hs, ?_⟩⟩
  rw [← hs]
  exact List.take_of_length_le (by simp)

/-- A guarded one, whose guard says yes. -/
theorem lsmw {ops : Array Oper} {rest : List Oper} (hm : isMem o.op = true) (hw : Region.wanted o (yielded ops a.tmps) = true) (h : o.wpIn F n P a w (wpListIn F n P ops Q rest) Q) : wpListIn F n P ops Q (o :: rest) a w := by
  simp only [wpListIn, hw, if_true]
  exact h

theorem lscw {ops : Array Oper} {rest : List Oper} (hm : isCall o.op = true) (hw : Region.wanted o (yielded ops a.tmps) = true) (h : o.wpIn F n P a w (wpListIn F n P ops Q rest) Q) : wpListIn F n P ops Q (o :: rest) a w := by
  simp only [wpListIn, hw, if_true]
  exact h

/-- The walk stands still. -/
structure Stop (q : Prop) : Prop where
  out : q
theorem hold {p : Prop} (h : ∀ q : Prop, Hid (p → Stop q) → Stop q) : p := (h p (Lib.hid Stop.mk)).out

theorem row_slB {j T k size c m : Nat} {A : Option Addr} {xs : List Value} (hs : St w0 M w L) (hj : L[j]? = some (Ent.row (.slice A k c) T size m xs)) : Sl w A xs := by
  have hr : w.ownsRow 0 T size (.slice A k c) m xs := hs.get hj
  rcases hr.2 with ⟨hv, h⟩ | ⟨g, cap, cur, hv, _, _, h1, h2, _⟩
  · intro hp
    have := hr.1
    rw [h] at this
    simp at this
    rw [this] at hp
    cases hp
  · simp only [Value.slice.injEq] at hv
    obtain ⟨rfl, rfl, rfl⟩ := hv
    intro _
    have hlt := (hr.lt g rfl).2
    exact ⟨g, 0, rfl, hlt, fun i u hu => by simpa using row_cell hs hj hu⟩

/-- A row is read. -/
theorem row_slv {j T k size : Nat} {v : Value} {xs : List Value} (hs : St w0 M w L) (hj : L[j]? = some (Ent.row v T size k xs)) :
    ∃ A cap, v = .slice A k cap ∧ k ≤ cap ∧ cap ≤ maxLen ∧ Sl w A xs := by
  have hr : w.ownsRow 0 T size v k xs := hs.get hj
  rcases hr.2 with ⟨rfl, h⟩ | ⟨g, cap, cur, rfl, _, _, h1, h2, _⟩
  · subst h
    refine ⟨none, 0, rfl, Nat.le_refl _, Nat.zero_le _, fun hp => ?_⟩
    have := hr.1
    simp at this
    rw [this] at hp
    cases hp
  · refine ⟨_, cap, rfl, h1, h2, fun _ => ?_⟩
    have hlt := (hr.lt g rfl).2
    refine ⟨g, 0, rfl, hlt, fun i u hu => ?_⟩
    simpa using row_cell hs hj hu

/-- A block is read asz a slice. -/
theorem blk_sl {j g T : Nat} {cs : Array Value} (hs : St w0 M w L) (hj : L[j]? = some (Ent.blk g T cs)) : Sl w (some ⟨g, 0, none⟩) cs.toList := fun _ =>
  ⟨g, 0, rfl, lt_of_some (hs.blk hj), fun i u hu => by rw [Nat.zero_add]; exact (cell_blk (hs.blk hj) i).trans (by simpa using hu)⟩

/-- A cell of a block of ours. -/
theorem St.cellOf {j g i : Nat} {cs : Array Value} {v : Value} (h : St w0 M w L) (hj : L[j]? = some (Ent.blk g T cs)) (hv : cs[i]? = some v) : g < w.heap.size ∧ w.cell? ⟨g, i, none⟩ = some v :=
  ⟨lt_of_some (h.blk hj), (cell_blk (h.blk hj) i).trans hv⟩

theorem ids_inj {b : Nat} : ∀ {L : List Ent} {i j : Nat} {e e' : Ent}, (idsOf L).Nodup → L[i]? = some e → L[j]? = some e' → b ∈ e.ids → b ∈ e'.ids → i = j
  | [], _, _, _, _, _, hi, _, _, _ => by simp at hi
  | a :: L, 0, 0, _, _, _, _, _, _, _ => rfl
  | a :: L, 0, j + 1, e, e', hn, hi, hj, hb, hb' => by
    obtain rfl : a = e := by simpa using hi
    simp only [idsOf, List.flatMap_cons] at hn
    exact absurd rfl ((List.nodup_append.1 hn).2.2 b hb b (mem_ids (List.mem_of_getElem? (by simpa using hj)) hb'))
  | a :: L, i + 1, 0, e, e', hn, hi, hj, hb, hb' => by
    obtain rfl : a = e' := by simpa using hj
    simp only [idsOf, List.flatMap_cons] at hn
    exact absurd rfl ((List.nodup_append.1 hn).2.2 b hb' b (mem_ids (List.mem_of_getElem? (by simpa using hi)) hb))
  | a :: L, i + 1, j + 1, e, e', hn, hi, hj, hb, hb' => by
    simp only [idsOf, List.flatMap_cons] at hn
    exact congrArg (· + 1) (ids_inj (List.nodup_append.1 hn).2.1 (by simpa using hi) (by simpa using hj) hb hb')

theorem ids_nodup {L : List Ent} {e : Ent} (hn : (idsOf L).Nodup) (he : e ∈ L) : e.ids.Nodup := by
  induction L with
  | nil => cases he
  | cons a L ih =>
    simp only [idsOf, List.flatMap_cons] at hn
    rcases List.mem_cons.1 he with rfl | he
    · exact (List.nodup_append.1 hn).1
    · exact ih (List.nodup_append.1 hn).2.1 he

/-- Some of the things, in any order. -/
theorem St.sel (h : St w0 M w L) (is : List Nat) (hnd : is.Nodup) : St w0 M w (is.filterMap (L[·]?)) := by
  have hm : ∀ is : List Nat, ∀ e ∈ is.filterMap (L[·]?), ∃ i ∈ is, L[i]? = some e := fun is e he => by
    obtain ⟨i, hi, he⟩ := List.mem_filterMap.1 he
    exact ⟨i, hi, he⟩
  have hme : ∀ e ∈ is.filterMap (L[·]?), e ∈ L := fun e he => by
    obtain ⟨i, _, hi⟩ := hm is e he
    exact List.mem_of_getElem? hi
  refine ⟨h.os, h.tape, h.output, h.size, ?_, fun b hb => ?_, fun e he => h.ok e (hme e he), h.old⟩
  · clear hme
    induction is with
    | nil => simp [idsOf]
    | cons i is ih =>
      have hnd' := List.nodup_cons.1 hnd
      cases hi : L[i]? with
      | none => simpa [List.filterMap_cons, hi] using ih hnd'.2
      | some e =>
        rw [List.filterMap_cons, hi]
        simp only [idsOf, List.flatMap_cons]
        refine List.nodup_append.2 ⟨ids_nodup h.nodup (List.mem_of_getElem? hi), ih hnd'.2, fun b hb c hc hbc => ?_⟩
        subst hbc
        obtain ⟨e', he', hb'⟩ := List.mem_flatMap.1 hc
        obtain ⟨j, hj, hje⟩ := hm is e' he'
        exact hnd'.1 (ids_inj h.nodup hi hje hb hb' ▸ hj)
  · obtain ⟨e, he, hbe⟩ := List.mem_flatMap.1 hb
    exact h.new b (mem_ids (hme e he) hbe)

theorem run_loadVar_agg {p : Addr} {cs : List Value} (ty : TypeId) (hagg : ∀ w, (isAgg ty).run P w = .ok true w) (hsz : (P.info? ty).map (·.size) = some cs.length) (hc : ∀ j v, cs[j]? = some v → w.cell? (p.add j) = some v) :
    (loadVar ty p).run P w = .ok (.agg cs.toArray) w := by
  cases hq : P.info? ty with
  | none => simp [hq] at hsz
  | some i =>
    have hs : i.size = cs.length := by simpa [hq] using hsz
    simp [loadVar, hagg, sizeOf, typeInfo, hq, hs, run_loadCells_list w p cs hc]

/-- An aggregate is loaded. -/
theorem load_agg {p : Operand} {b i : Nat} (cs : List Value) (ho : o.op = .load T p) (hagg : ∀ w, (isAgg T).run P w = .ok true w) (hsz : (P.info? T).map (·.size) = some cs.length)
    (hp : a.eval p = .pointer (some ⟨b, i, none⟩)) (hc : ∀ j v, cs[j]? = some v → w.cell? ⟨b, i + j, none⟩ = some v)
    (hK : K (a.put o.dst (.agg cs.toArray)) w) : o.wpIn F n P a w K Q := by
  refine val (by intro c h; rw [ho] at h; cases h) (by intro c h; rw [ho] at h; cases h) (w' := w) ?_ hK
  have := run_loadVar_agg (w := w) (p := ⟨b, i, none⟩) T hagg hsz (fun j v hv => by
    have hadd : (⟨b, i, none⟩ : Addr).add j = ⟨b, i + j, none⟩ := by unfold Addr.add; split <;> simp_all
    rw [hadd]; exact hc j v hv)
  simp [execOp, ho, hp, Instr.loadAt, Instr.sureAddr, this]

theorem load_aggB {p : Operand} {g : Nat} {T' : TypeId} {cs : Array Value} {j : Nat} (ho : o.op = .load T p) (hs : St w0 M w L) (hagg : ∀ w, (isAgg T).run P w = .ok true w)
    (hp : a.eval p = .pointer (some ⟨g, 0, none⟩)) (hj : L[j]? = some (Ent.blk g T' cs)) (hsz : (P.info? T).map (·.size) = some cs.toList.length)
    (hK : K (a.put o.dst (.agg cs)) w) : o.wpIn F n P a w K Q := by
  have := load_agg (K := K) (Q := Q) (n := n) (F := F) cs.toList ho hagg hsz hp (fun j v hv => by rw [cell_blk (hs.blk hj)]; simpa using hv)
  exact this (by simpa using hK)

/-- An aggregate is stored into a block of its own. -/
theorem store_agg {p x : Operand} {g : Nat} {T' : TypeId} {cs cs' : Array Value} {j : Nat} (ho : o.op = .store T p x) (hs : St w0 M w L)
    (hp : a.eval p = .pointer (some ⟨g, 0, none⟩)) (hx : a.eval x = .agg cs') (hsz : (P.info? T).map (·.size) = some cs'.size) (h1 : cs'.all (·.oneCell') = true) (hj : L[j]? = some (Ent.blk g T' cs)) (hi : cs.size = cs'.size)
    (hK : ∀ w', St w0 M w' (L.set j (Ent.blk g T' cs')) → K (a.put o.dst undef) w') : o.wpIn F n P a w K Q := by
  have hb := hs.blk hj
  refine nov (by intro c h; rw [ho] at h; cases h) (by intro c h; rw [ho] at h; cases h) (w' := w.setRow g cs') ?_ (hK _ ?_)
  · simp [execOp, ho, hp, hx, Instr.storeAt, Instr.sureAddr, run_storeVar_row w g T' T cs cs' hb hsz hi h1]
  · have hlt := lt_of_some hb
    refine St.back hj ((hs.front hj).step rfl rfl rfl (by simp [World.setRow]) (fun b _ hne => ?_) (by simp [Ent.blk, Ent.obj]) (by simp [Ent.blk, Ent.obj]) ?_)
    · have hne' : g ≠ b := fun e => hne (by simp [Ent.blk, Ent.obj, e])
      simp [World.setRow, Array.getElem?_modify, hne']
    · show (w.setRow g cs').heap[g]? = _
      simp [World.setRow, Array.getElem?_modify, hb]

theorem Keep.row {Ls : List Ent} {w : World} (h : Keep w0 M Ls w) {g k c T size m : Nat} {xs : List Value} {i : Nat} {v : Value} (hm : Ent.row (.slice (some ⟨g, 0, none⟩) k c) T size m xs ∈ Ls) (hv : xs[i]? = some v) : w.cell? ⟨g, i, none⟩ = some v := by
  obtain ⟨R, hR, hL⟩ := h
  obtain ⟨j, hj⟩ := List.getElem?_of_mem (hL _ hm)
  exact row_cell hR hj hv

/-- A pointer or the like is loaded within a region: from a row. -/
theorem y_loadr {p : Operand} {g k c m size T' : Nat} {xs : List Value} {i : Nat} {v : Value} {Ls : List Ent} (ho : o.op = .load T p) (hagg : ∀ w, (isAgg T).run P w = .ok false w) (hp : a.eval p = .pointer (some ⟨g, i, none⟩))
    (hm : Ent.row (.slice (some ⟨g, 0, none⟩) k c) T' size m xs ∈ Ls) (hv : xs[i]? = some v) : ∀ w, Keep w0 M Ls w → (execOp a.eval o).run P w = .ok (.value v) w :=
  y_load ho hagg hp fun _ h => h.row hm hv
end SX
end Go.Proofs.Ythncbdoiilgnhaa
