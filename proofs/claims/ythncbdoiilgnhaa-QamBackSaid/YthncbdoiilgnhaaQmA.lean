/- The functions of package qam, as far as they modulate. -/
import Derived.Test.YthncbdoiilgnhaaRows
import Derived.Test.YthncbdoiilgnhaaSxSl
namespace Go.Proofs.Ythncbdoiilgnhaa
open Go.RowKit
set_option linter.unusedSimpArgs false
set_option linter.unusedVariables false

theorem info5 : (Try.prog.info? 5).map (fun i => (i.zero, i.size, i.bytes)) = some (some (.int .u8 0), 1, 1) := by kernel_rfl
theorem mixed : Try.prog.follows .mixedOrders = true := by kernel_rfl

def lev : List Int → Int
  | [] => 0
  | b :: r => (1 - 2 * b) * (2 ^ r.length - lev r)

theorem lev_bd : ∀ (bs : List Int), (∀ b ∈ bs, b = 0 ∨ b = 1) → -(2 : Int) ^ bs.length < lev bs ∧ lev bs < 2 ^ bs.length
  | [], _ => by simp [lev]
  | b :: r, h => by
    have ih := lev_bd r (fun x hx => h x (by simp [hx]))
    have hp : (2 : Int) ^ (b :: r).length = 2 * 2 ^ r.length := by simp [Int.pow_succ, Int.mul_comm]
    rw [hp]
    simp only [lev]
    rcases h b (by simp) with rfl | rfl
    · simp only [Int.mul_zero, Int.sub_zero, Int.one_mul]; omega
    · simp only [Int.mul_one, Int.reduceSub, Int.reduceNeg, Int.neg_mul, Int.one_mul]; omega

theorem elt_zero (x : Int) (r : List Int) : elt (x :: r) 0 = x := rfl

set_option maxRecDepth 100000 in
set_option maxHeartbeats 400000 in
theorem level_nil (A : Option Addr) (c : Nat) (w : World) :
    Calls Try.prog 29 #[.slice A 0 c] w (SX.Ret fun v w' => v = .int .i64 0 ∧ SX.St w [] w' []) := by
  refine SX.enter Try.func29 rfl ?_
  simp only [Try.ntmps29, List.size_toArray, List.length_cons, List.length_nil, Nat.reduceAdd, Nat.reduceSub, Array.replicate_succ, Array.replicate_zero, List.push_toArray, List.append_toArray, List.nil_append, List.cons_append]
  gi_wp2
  go_ret
  exact ⟨_, rfl, rfl, SX.St.start w⟩

set_option maxRecDepth 100000 in
set_option maxHeartbeats 400000 in
theorem level_any : ∀ (bs : List Int) (A : Option Addr) (c n : Nat) (w : World) (hr : Sl w A (ints .u8 bs)) (hl : bs.length = n) (hn : n ≤ 3) (hnc : n ≤ c) (hb : ∀ b ∈ bs, b = 0 ∨ b = 1), 
    Calls Try.prog 29 #[.slice A n c] w (SX.Ret fun v w' => v = .int .i64 (lev bs) ∧ SX.St w [] w' []) := by
  intro bs
  induction bs with
  | nil =>
    intro A c n w hr hl hn hnc hb
    subst hl
    exact level_nil A c w
  | cons x r ih =>
    intro A c n w hr hl hn hnc hb
    have ih' := fun A W (hr : Sl W A (ints .u8 r)) => ih A (c - 1) (n - 1) W hr (by simp at hl; omega) (by omega) (by omega) (fun b hb' => hb b (by simp [hb']))
    obtain ⟨b, off, rfl, hbb, hc⟩ := hr.at (i := 0) (by omega) (by simp only [List.length_cons]; omega)
    have hbd := lev_bd r (fun b hb' => hb b (by simp [hb']))
    have hlev : Hid (lev (x :: r) = (1 - 2 * x) * (2 ^ r.length - lev r)) := Lib.hid rfl
    have hx : x = 0 ∨ x = 1 := hb x (by simp)
    have hrl : r.length = 0 ∨ r.length = 1 ∨ r.length = 2 := by simp at hl; omega
    have hn' : n = r.length + 1 := by simp at hl; omega
    subst hn'
    have ht := hr.tail hnc
    have hnc' : ((r.length + 1 : Nat) : Int) ≤ c := by omega
    have hc2 : ¬ c = 0 := by omega
    clear hr hl ih
    rw [elt_zero] at hc
    generalize hv : lev r = y at *
    rcases hx with rfl | rfl <;> rcases hrl with e | e | e <;> (rw [e] at hbd hlev hnc hnc' hn ih' ⊢) <;> simp only [Nat.zero_add, Nat.reduceAdd, Nat.reduceSub, Nat.add_sub_cancel, Nat.sub_self] at hlev hnc hnc' ih' ⊢ <;> simp at hbd
    all_goals
      have IH := Lib.hid ih'
      clear ih'
      clear e hv
      obtain ⟨hy1, hy2⟩ := hbd
      refine SX.enter Try.func29 rfl ?_
      simp only [Try.ntmps29, List.size_toArray, List.length_cons, List.length_nil, Nat.reduceAdd, Nat.reduceSub, Array.replicate_succ, Array.replicate_zero, List.push_toArray, List.append_toArray, List.nil_append, List.cons_append]
      gi_wp2
      have hs := (SX.St.start w).drew
      refine SX.region_begin (SX.Keep w [] []) (fun _ => true) mixed ?_
      have hK : SX.Keep w [] [] w.drew := ⟨_, hs, by simp⟩
      refine SX.take 0 (fun _ => trivial) (by simp only [List.getElem?_toArray, List.getElem?_cons_succ, List.getElem?_cons_zero]; rfl) (by kernel_rfl) (by exact fun _ _ _ h => h) (by rfl) (by intro w' _; go_simp; (try go_bits); rfl) hK ?_
      simp only [Act.put, List.setIfInBounds_toArray, List.set_cons_succ, List.set_cons_zero]
      refine SX.take 1 (fun _ => trivial) (by simp only [List.getElem?_toArray, List.getElem?_cons_succ, List.getElem?_cons_zero]; rfl) (by kernel_rfl) (by exact fun _ _ _ h => h) (by rfl) (by intro w' _; go_simp; (try go_bits); rfl) hK ?_
      simp only [Act.put, List.setIfInBounds_toArray, List.set_cons_succ, List.set_cons_zero]
      refine SX.take 2 (fun _ => trivial) (by simp only [List.getElem?_toArray, List.getElem?_cons_succ, List.getElem?_cons_zero]; rfl) (by kernel_rfl) (by exact fun _ _ _ h => h) (by rfl) (by exact SX.y_load rfl (by first | (simp; done) | fail) rfl (fun _ hk => hk.old hbb (by simp) hc)) hK ?_
      simp only [Act.put, List.setIfInBounds_toArray, List.set_cons_succ, List.set_cons_zero]
      refine SX.take 3 (fun _ => trivial) (by simp only [List.getElem?_toArray, List.getElem?_cons_succ, List.getElem?_cons_zero]; rfl) (by kernel_rfl) (by exact fun _ _ _ h => h) (by rfl) (by intro w' _; go_simp; (try go_bits); rfl) hK ?_
      simp only [Act.put, List.setIfInBounds_toArray, List.set_cons_succ, List.set_cons_zero]
      refine SX.take 4 (fun _ => trivial) (by simp only [List.getElem?_toArray, List.getElem?_cons_succ, List.getElem?_cons_zero]; rfl) (by kernel_rfl) (by exact fun _ _ _ h => h) (by rfl) (by intro w' _; go_simp; (try go_bits); rfl) hK ?_
      simp only [Act.put, List.setIfInBounds_toArray, List.set_cons_succ, List.set_cons_zero]
      refine SX.take 5 (fun _ => trivial) (by simp only [List.getElem?_toArray, List.getElem?_cons_succ, List.getElem?_cons_zero]; rfl) (by kernel_rfl) (by exact fun _ _ _ h => h) (by rfl) (by intro w' _; go_simp; (try go_bits); rfl) hK ?_
      simp only [Act.put, List.setIfInBounds_toArray, List.set_cons_succ, List.set_cons_zero]
      refine SX.take 6 (fun _ => trivial) (by simp only [List.getElem?_toArray, List.getElem?_cons_succ, List.getElem?_cons_zero]; rfl) (by kernel_rfl) (by exact fun _ _ _ h => h) (by rfl) (by intro w' _; go_simp; (try go_bits); rfl) hK ?_
      simp only [Act.put, List.setIfInBounds_toArray, List.set_cons_succ, List.set_cons_zero]
      refine SX.take 7 (fun _ => trivial) (by simp only [List.getElem?_toArray, List.getElem?_cons_succ, List.getElem?_cons_zero]; rfl) (by kernel_rfl) (by exact fun _ _ _ h => h) (by rfl) (by intro w' _; go_simp; (try go_bits); rfl) hK ?_
      simp only [Act.put, List.setIfInBounds_toArray, List.set_cons_succ, List.set_cons_zero]
      refine SX.take 8 (fun _ => trivial) (by simp only [List.getElem?_toArray, List.getElem?_cons_succ, List.getElem?_cons_zero]; rfl) (by kernel_rfl) (by exact fun _ _ _ h => h) (by rfl) (by intro w' _; go_simp; (try go_bits); rfl) hK ?_
      simp only [Act.put, List.setIfInBounds_toArray, List.set_cons_succ, List.set_cons_zero]
      refine SX.take 9 (fun _ => trivial) (by simp only [List.getElem?_toArray, List.getElem?_cons_succ, List.getElem?_cons_zero]; rfl) (by kernel_rfl) (by exact fun _ _ _ h => h) (by rfl) (by intro w' _; go_simp; (try go_bits); rfl) hK ?_
      simp only [Act.put, List.setIfInBounds_toArray, List.set_cons_succ, List.set_cons_zero]
      refine SX.take 10 (fun _ => trivial) (by simp only [List.getElem?_toArray, List.getElem?_cons_succ, List.getElem?_cons_zero]; rfl) (by kernel_rfl) (by exact fun _ _ _ h => h) (by rfl) (by intro w' _; go_simp; (try go_bits); rfl) hK ?_
      simp only [Act.put, List.setIfInBounds_toArray, List.set_cons_succ, List.set_cons_zero]
      refine SX.take 11 (fun _ => trivial) (by simp only [List.getElem?_toArray, List.getElem?_cons_succ, List.getElem?_cons_zero]; rfl) (by kernel_rfl) (by exact fun _ _ _ h => h) (by rfl) (by intro w' _; go_simp; (try go_bits); rfl) hK ?_
      simp only [Act.put, List.setIfInBounds_toArray, List.set_cons_succ, List.set_cons_zero]
      refine SX.next 12 (by simp only [List.getElem?_toArray, List.getElem?_cons_succ, List.getElem?_cons_zero]; rfl) (by kernel_rfl) (by rfl) ?_
      refine SX.wp_calls (fun _ => trivial) rfl (by rfl) (by rfl) Try.call29 (by go_simp; rfl) ?_
      refine (SX.call (IH.out _ _ (ht.st hs))).mono ?_
      rintro e w1 ⟨v, rfl, rfl, hs1'⟩
      have hs1 := hs.call hs1'
      have hK : SX.Keep w [] [] w1 := ⟨_, hs1, by simp⟩
      refine ⟨_, rfl, fun _ => hK, ?_⟩
      simp only [Act.put, List.setIfInBounds_toArray, List.set_cons_succ, List.set_cons_zero]
      refine SX.take 13 (fun _ => trivial) (by simp only [List.getElem?_toArray, List.getElem?_cons_succ, List.getElem?_cons_zero]; rfl) (by kernel_rfl) (by exact fun _ _ _ h => h) (by rfl) (by intro w' _; go_simp; (try go_bits); rfl) hK ?_
      simp only [Act.put, List.setIfInBounds_toArray, List.set_cons_succ, List.set_cons_zero]
      refine SX.take 14 (fun _ => trivial) (by simp only [List.getElem?_toArray, List.getElem?_cons_succ, List.getElem?_cons_zero]; rfl) (by kernel_rfl) (by exact fun _ _ _ h => h) (by rfl) (by intro w' _; go_simp; (try go_bits); rfl) hK ?_
      simp only [Act.put, List.setIfInBounds_toArray, List.set_cons_succ, List.set_cons_zero]
      refine SX.take 15 (fun _ => trivial) (by simp only [List.getElem?_toArray, List.getElem?_cons_succ, List.getElem?_cons_zero]; rfl) (by kernel_rfl) (by exact fun _ _ _ h => h) (by rfl) (by intro w' _; go_simp; (try go_bits); rfl) hK ?_
      simp only [Act.put, List.setIfInBounds_toArray, List.set_cons_succ, List.set_cons_zero]
      refine SX.done (by kernel_rfl) ?_
      gi_wp2
      all_goals
        go_ret
        refine ⟨_, rfl, ?_, hs1⟩
        rw [hlev.out]
        simp
/-- k elements of l, every second one, from s on -/
def evn (l : List Int) (s k : Nat) : List Int := (List.range k).map fun j => elt l (s + 2 * j : Nat)

theorem evn_succ (bs : List Int) (f k : Nat) : evn bs f (k + 1) = evn bs f k ++ [elt bs (f + 2 * k : Nat)] := by
  simp [evn, List.range_succ]
theorem evn_length (bs : List Int) (f k : Nat) : (evn bs f k).length = k := by simp [evn]

set_option maxRecDepth 100000 in
set_option maxHeartbeats 400000 in
theorem part_any (A : Option Addr) (n c : Nat) (bs : List Int) (f q : Nat) (w : World) (hr : Sl w A (ints .u8 bs)) (hl : bs.length = n) (hn : n = 2 * q) (hq : 1 ≤ q) (hn6 : n ≤ 6) (hf2 : f ≤ 1) :
    Calls Try.prog 30 #[.slice A n c, .int .i64 f] w (SX.Ret fun v w' => ∃ g cap, v = .slice (some ⟨g, 0, none⟩) q cap ∧ q ≤ cap ∧ cap ≤ maxLen ∧ SX.St w [] w' [SX.Ent.row (.slice (some ⟨g, 0, none⟩) q cap) 5 1 q (ints .u8 (evn bs f q))]) := by
  obtain ⟨i0, hi, hz0, hz1, hz2⟩ := info_parts info5
  have HN := Lib.hid hn
  clear hn
  refine SX.enter Try.func30 rfl ?_
  simp only [Try.ntmps30, List.size_toArray, List.length_cons, List.length_nil, Nat.reduceAdd, Nat.reduceSub, Array.replicate_succ, Array.replicate_zero, List.push_toArray, List.append_toArray, List.nil_append, List.cons_append]
  gi_wp2
  gi_loopw [4, 5] (fun v i wr => ∃ (k : Nat) (z : Int), i = .int .i64 z ∧ Hid (z = f + 2 * k) ∧ 0 ≤ z ∧ z ≤ n + 1 ∧ k ≤ q ∧ SX.St w [] wr [SX.Ent.row v 5 1 k (ints .u8 (evn bs f k))]) (fun _ i _ => n + 2 - (intOf i).toNat)
  case atStart => exact ⟨0, f, rfl, Lib.hid (by simp), by omega, by have := HN.out; omega, by omega, (SX.St.start w).nil _ _⟩
  case round =>
    obtain ⟨k, z, rfl, hz, hzl, hzu, hkq, hs⟩ := hrel
    have hk : k ≤ 301 := by have := HN.out; omega
    by_cases hlt : z < n
    · obtain ⟨b, off, rfl, hb, hc⟩ := hr.at (i := z) hzl (by omega)
      clear hr
      gi_wp2_with (first
        | (refine SX.lsm rfl rfl ?_; first | (refine SX.load_blk rfl (by assumption) (by first | (simp; done) | fail) (by rfl) (by first | exact SX.at0 | exact SX.at1 | exact SX.at2 | exact SX.at3 | exact SX.at4 | exact SX.at5) (by rfl) ?_) | (refine SX.load_old rfl (by assumption) (by first | (simp; done) | fail) (by rfl) (by assumption) (by first | (simp; done) | fail) (by assumption) ?_) | (refine SX.store_blk rfl (by assumption) (by first | (simp; done) | fail) (by rfl) (by first | (go_simp; exact rfl) | fail) (by rfl) (by first | exact SX.at0 | exact SX.at1 | exact SX.at2 | exact SX.at3 | exact SX.at4 | exact SX.at5) (by first | (simp; done) | fail) ?_; intro w1 hs1; simp only [List.set_cons_zero, List.set_cons_succ, List.setIfInBounds_toArray] at hs1) | (refine SX.alc_ptr rfl (by assumption) (by first | (intro W; go_simp; exact rfl) | fail) ?_; intro g1 w1 hs1) | (refine SX.alc_slice rfl (by assumption) (by first | (intro W; go_simp; exact rfl) | fail) ?_; intro g1 w1 hs1))
        | (refine SX.lsa rfl rfl (SX.append_blk (j := 1) (j' := 0) rfl (by assumption) Try.underlying23 hi hz0 hz1 hz2 rfl (by decide) (by rfl) (by rfl) (by rfl) (by rfl) (by rfl) (by simp [Value.oneCell']) (by decide) (by unfold maxLen; omega) (by omega) ?_); intro g2 cap2 w2 hs2))
      go_roundw
      case rel =>
        refine ⟨k + 1, z + 2, by go_num, Lib.hid (by have := hz.out; omega), by omega, by omega, by have := hz.out; have := HN.out; omega, ?_⟩
        have e : elt bs z = elt bs (f + 2 * k : Nat) := by rw [hz.out]; rfl
        rw [evn_succ, ← e]
        simpa [ints] using hs2
      case measure => simp [intOf]; omega
    · clear hr
      gi_wp2
      go_ret
      obtain rfl : k = q := by have := hz.out; have := HN.out; omega
      obtain ⟨g, cap, rfl, h1, h2⟩ := row_form (j := 0) hs rfl hq
      exact ⟨_, rfl, g, cap, rfl, h1, h2, hs⟩

set_option maxRecDepth 100000 in
set_option maxHeartbeats 400000 in
theorem big_any (x : Int) (w : World) : Calls Try.prog 27 #[.int .u8 x] w (SX.Ret fun v w' => v = .bool (decide (1 < x)) ∧ SX.St w [] w' []) := by
  refine SX.enter Try.func27 rfl ?_
  simp only [Try.ntmps27, List.size_toArray, List.length_cons, List.length_nil, Nat.reduceAdd, Nat.reduceSub, Array.replicate_succ, Array.replicate_zero, List.push_toArray, List.append_toArray, List.nil_append, List.cons_append]
  have hs := SX.St.start w
  gi_wp2_with (first | (refine SX.lsm rfl rfl ?_; first | (refine SX.load_blk rfl (by assumption) (by first | (simp; done) | fail) (by rfl) (by first | exact SX.at0 | exact SX.at1 | exact SX.at2 | exact SX.at3 | exact SX.at4 | exact SX.at5) (by rfl) ?_) | (refine SX.load_old rfl (by assumption) (by first | (simp; done) | fail) (by rfl) (by assumption) (by first | (simp; done) | fail) (by assumption) ?_) | (refine SX.store_blk rfl (by assumption) (by first | (simp; done) | fail) (by rfl) (by first | (go_simp; exact rfl) | fail) (by rfl) (by first | exact SX.at0 | exact SX.at1 | exact SX.at2 | exact SX.at3 | exact SX.at4 | exact SX.at5) (by first | (simp; done) | fail) ?_; intro w1 hs1; simp only [List.set_cons_zero, List.set_cons_succ, List.setIfInBounds_toArray] at hs1) | (refine SX.alc_ptr rfl (by assumption) (by first | (intro W; go_simp; exact rfl) | fail) ?_; intro g1 w1 hs1) | (refine SX.alc_slice rfl (by assumption) (by first | (intro W; go_simp; exact rfl) | fail) ?_; intro g1 w1 hs1)))
  all_goals
    go_ret
    exact ⟨_, rfl, by simp [*], by assumption⟩

/-- no element before z has p -/
def noneUpto (l : List Int) (p : Int → Bool) (z : Int) : Prop := ∀ j : Int, 0 ≤ j → j < z → p (elt l j) = false

theorem any_of_upto {l : List Int} {p : Int → Bool} (h : noneUpto l p l.length) : l.any p = false := by
  rw [List.any_eq_false]
  intro x hx
  obtain ⟨i, hi, rfl⟩ := List.getElem_of_mem hx
  have := h i (by omega) (by omega)
  simp [elt, hi] at this
  simp [this]
theorem any_of_elt {l : List Int} {p : Int → Bool} {z : Int} (h0 : 0 ≤ z) (h1 : z < l.length) (h : p (elt l z) = true) : l.any p = true := by
  rw [List.any_eq_true]
  have hz : z.toNat < l.length := by omega
  exact ⟨l[z.toNat], List.getElem_mem hz, by simpa [elt, hz] using h⟩
theorem elt_mem {l : List Int} {z : Int} (h0 : 0 ≤ z) (h1 : z < l.length) : elt l z ∈ l := by
  have hz : z.toNat < l.length := by omega
  simp [elt, hz]

end Go.Proofs.Ythncbdoiilgnhaa
