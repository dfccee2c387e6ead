/- The law QamGray: the walk. -/
import Derived.Test.YthncbdoiilgnhaaQmL
namespace Go.Proofs.Ythncbdoiilgnhaa
open Go.RowKit
set_option linter.unusedSimpArgs false
set_option linter.unusedVariables false
attribute [local go_sem] Oper.semAt_some

theorem Sl.takeN {w : World} {A : Option Addr} {k : IntKind} {l : List Int} (m : Nat) (h : Sl w A (ints k l)) : Sl w A (ints k (l.take m)) := by
  intro hp
  simp [ints] at hp
  obtain ⟨b, off, rfl, hb, hc⟩ := h (by simp [ints]; omega)
  refine ⟨b, off, rfl, hb, fun j u hu => hc j u ?_⟩
  simp only [ints, List.getElem?_map, List.getElem?_take] at hu ⊢
  split at hu
  · exact hu
  · simp at hu

/-- in how many of the first i elements a and b differ -/
def dif (a b : List Int) : Nat → Int
  | 0 => 0
  | i + 1 => dif a b i + if elt a (i : Nat) = elt b (i : Nat) then 0 else 1
theorem dif_bd (a b : List Int) : ∀ i : Nat, 0 ≤ dif a b i ∧ dif a b i ≤ i
  | 0 => by simp [dif]
  | i + 1 => by
    have := dif_bd a b i
    simp only [dif]
    split <;> omega

/-- one coordinate -/
theorem coord (k : Nat) (hk : 1 ≤ k) (hk3 : k ≤ 3) (a0 a1 a2 b0 b1 b2 : Int) (h0 : a0 = 0 ∨ a0 = 1) (h1 : a1 = 0 ∨ a1 = 1) (h2 : a2 = 0 ∨ a2 = 1) (g0 : b0 = 0 ∨ b0 = 1) (g1 : b1 = 0 ∨ b1 = 1) (g2 : b2 = 0 ∨ b2 = 1) :
    ∃ s d : Int, rlev k a0 a1 a2 - rlev k b0 b1 b2 = 2 * s ∧ -7 ≤ s ∧ s ≤ 7 ∧ (s = 0 ↔ d = 0) ∧ (s = 1 ∨ s = -1 → d = 1) ∧ 0 ≤ d ∧
      d = (if a0 = b0 then 0 else 1) + (if 2 ≤ k then (if a1 = b1 then 0 else 1) else 0) + (if 3 ≤ k then (if a2 = b2 then 0 else 1) else 0) := by
  have hk' : k = 1 ∨ k = 2 ∨ k = 3 := by omega
  have e : rlev k a0 a1 a2 - rlev k b0 b1 b2 = 2 * ((rlev k a0 a1 a2 - rlev k b0 b1 b2) / 2) ∧ -7 ≤ (rlev k a0 a1 a2 - rlev k b0 b1 b2) / 2 ∧ (rlev k a0 a1 a2 - rlev k b0 b1 b2) / 2 ≤ 7 ∧ ((rlev k a0 a1 a2 - rlev k b0 b1 b2) / 2 = 0 ↔ ((if a0 = b0 then 0 else 1) + (if 2 ≤ k then (if a1 = b1 then 0 else 1) else 0) + (if 3 ≤ k then (if a2 = b2 then 0 else 1) else 0) : Int) = 0) ∧ ((rlev k a0 a1 a2 - rlev k b0 b1 b2) / 2 = 1 ∨ (rlev k a0 a1 a2 - rlev k b0 b1 b2) / 2 = -1 → ((if a0 = b0 then 0 else 1) + (if 2 ≤ k then (if a1 = b1 then 0 else 1) else 0) + (if 3 ≤ k then (if a2 = b2 then 0 else 1) else 0) : Int) = 1) ∧ (0 : Int) ≤ (if a0 = b0 then 0 else 1) + (if 2 ≤ k then (if a1 = b1 then 0 else 1) else 0) + (if 3 ≤ k then (if a2 = b2 then 0 else 1) else 0) := by
    rcases hk' with rfl | rfl | rfl <;> rcases h0 with rfl | rfl <;> rcases h1 with rfl | rfl <;> rcases h2 with rfl | rfl <;> rcases g0 with rfl | rfl <;> rcases g1 with rfl | rfl <;> rcases g2 with rfl | rfl <;> decide
  exact ⟨_, _, e.1, e.2.1, e.2.2.1, e.2.2.2.1, e.2.2.2.2.1, e.2.2.2.2.2, rfl⟩

theorem sq_one (s t : Int) (hs : -7 ≤ s ∧ s ≤ 7) (ht : -7 ≤ t ∧ t ≤ 7) (h : s * s + t * t = 1) : (s = 0 ∧ (t = 1 ∨ t = -1)) ∨ (t = 0 ∧ (s = 1 ∨ s = -1)) := by
  have h1 : ∀ x : Int, -7 ≤ x → x ≤ 7 → x * x ≤ 1 → x = 0 ∨ x = 1 ∨ x = -1 := fun x hx1 hx2 hx => by
    by_cases h2 : 2 ≤ x.natAbs
    · have h4 := Nat.mul_le_mul h2 h2
      rw [← Int.natAbs_mul_self] at hx
      omega
    · omega
  have hs2 := mul_self_nonneg' s
  have ht2 := mul_self_nonneg' t
  rcases h1 s hs.1 hs.2 (by omega) with rfl | rfl | rfl <;> rcases h1 t ht.1 ht.2 (by omega) with rfl | rfl | rfl <;> simp_all

/-- **The law of the points**: they are equal just where the bits are, and neighbours differ in one bit. -/
theorem gray_law (k : Nat) (hk : 1 ≤ k) (hk3 : k ≤ 3) (a b : List Int) (ha : ∀ x ∈ a, x = 0 ∨ x = 1) (hb : ∀ x ∈ b, x = 0 ∨ x = 1) :
    (((mpt k a 0).1 - (mpt k b 0).1 = 0 ∧ (mpt k a 0).2 - (mpt k b 0).2 = 0) ↔ dif a b (2 * k) = 0) ∧
    (((mpt k a 0).1 - (mpt k b 0).1) * ((mpt k a 0).1 - (mpt k b 0).1) + ((mpt k a 0).2 - (mpt k b 0).2) * ((mpt k a 0).2 - (mpt k b 0).2) = 1024 → dif a b (2 * k) = 1) := by
  have hA := elt_bit ha
  have hB := elt_bit hb
  obtain ⟨s, d, e1, h1, h2, h3, h4, h5, h6⟩ := coord k hk hk3 _ _ _ _ _ _ (hA 0) (hA 2) (hA 4) (hB 0) (hB 2) (hB 4)
  obtain ⟨t, c, f1, g1, g2, g3, g4, g5, g6⟩ := coord k hk hk3 _ _ _ _ _ _ (hA 1) (hA 3) (hA 5) (hB 1) (hB 3) (hB 5)
  have hI : (mpt k a 0).1 - (mpt k b 0).1 = 32 * s := by
    simp only [mpt, Nat.zero_mul, lev_rlev k hk hk3]
    have : rlev k (elt a (0 : Nat)) (elt a (0 + 2 : Nat)) (elt a (0 + 4 : Nat)) - rlev k (elt b (0 : Nat)) (elt b (0 + 2 : Nat)) (elt b (0 + 4 : Nat)) = 2 * s := e1
    omega
  have hQ : (mpt k a 0).2 - (mpt k b 0).2 = 32 * t := by
    simp only [mpt, Nat.zero_mul, lev_rlev k hk hk3]
    have : rlev k (elt a (0 + 1 : Nat)) (elt a (0 + 1 + 2 : Nat)) (elt a (0 + 1 + 4 : Nat)) - rlev k (elt b (0 + 1 : Nat)) (elt b (0 + 1 + 2 : Nat)) (elt b (0 + 1 + 4 : Nat)) = 2 * t := f1
    omega
  have hD : dif a b (2 * k) = d + c := by
    have hk' : k = 1 ∨ k = 2 ∨ k = 3 := by omega
    rw [h6, g6]
    rcases hk' with rfl | rfl | rfl
    · simp [dif]
    · simp [dif]; omega
    · simp [dif]; omega
  rw [hI, hQ, hD]
  refine ⟨⟨fun h => by have := h3.1 (by omega); have := g3.1 (by omega); omega, fun h => ?_⟩, fun h => ?_⟩
  · have := h3.2 (by omega)
    have := g3.2 (by omega)
    omega
  · have hst : s * s + t * t = 1 := by
      have e1 : 32 * s * (32 * s) = 1024 * (s * s) := by rw [Int.mul_assoc, Int.mul_left_comm s 32 s, ← Int.mul_assoc]; rfl
      have e2 : 32 * t * (32 * t) = 1024 * (t * t) := by rw [Int.mul_assoc, Int.mul_left_comm t 32 t, ← Int.mul_assoc]; rfl
      rw [e1, e2] at h
      omega
    rcases sq_one s t ⟨h1, h2⟩ ⟨g1, g2⟩ hst with ⟨hs0, ht1⟩ | ⟨ht0, hs1⟩
    · have := h3.1 hs0
      have := g4 ht1
      omega
    · have := g3.1 ht0
      have := h4 hs1
      omega

set_option maxRecDepth 100000 in
set_option maxHeartbeats 1000000 in
theorem gray_none (m : Int) (A B : Option Addr) (n c n' c' : Nat) (w : World) (h : vm m = false ∨ (vm m = true ∧ (n : Int) < m) ∨ (vm m = true ∧ ¬ (n : Int) < m ∧ (n' : Int) < m)) :
    Calls Try.prog 4 #[.int .i64 m, .slice A n c, .slice B n' c'] w (SX.Ret fun v w' => v = .bool true ∧ SX.St w [] w' []) := by
  have hs := SX.St.start w
  have fin : ∀ (h : True), True := fun _ => trivial
  rcases h with h | ⟨hv, h⟩ | ⟨hv, h0, h⟩
  · have e2 : (m != 2) = true := by
      simp [vm] at h; simp; omega
    have e4 : (m != 4) = true := by
      simp [vm] at h; simp; omega
    have e6 : (m != 6) = true := by
      simp [vm] at h; simp; omega
    clear h fin
    refine SX.enter Try.func4 rfl ?_
    simp only [Try.ntmps4, List.size_toArray, List.length_cons, List.length_nil, Nat.reduceAdd, Nat.reduceSub, Array.replicate_succ, Array.replicate_zero, List.push_toArray, List.append_toArray, List.nil_append, List.cons_append]
    (gi_wp2_with (first | (refine SX.lsm rfl rfl ?_; first | (refine SX.load_blk rfl (by assumption) (by first | (simp; done) | fail) (by rfl) (by first | exact SX.at0 | exact SX.at1 | exact SX.at2 | exact SX.at3 | exact SX.at4 | exact SX.at5) (by rfl) ?_) | (refine SX.load_old rfl (by assumption) (by first | (simp; done) | fail) (by rfl) (by assumption) (by first | (simp; done) | fail) (by assumption) ?_) | (refine SX.store_blk rfl (by assumption) (by first | (simp; done) | fail) (by rfl) (by first | (go_simp; exact rfl) | fail) (by rfl) (by first | exact SX.at0 | exact SX.at1 | exact SX.at2 | exact SX.at3 | exact SX.at4 | exact SX.at5) (by first | (simp; done) | fail) ?_; intro w1 hs1; simp only [List.set_cons_zero, List.set_cons_succ, List.setIfInBounds_toArray] at hs1) | (refine SX.alc_ptr rfl (by assumption) (by first | (intro W; go_simp; exact rfl) | fail) ?_; intro g1 w1 hs1) | (refine SX.alc_slice rfl (by assumption) (by first | (intro W; go_simp; exact rfl) | fail) ?_; intro g1 w1 hs1) | (refine SX.store_agg rfl (by assumption) (by rfl) (by first | (go_simp; exact rfl) | fail) (by kernel_rfl) (by first | (simp [Value.oneCell']; done) | fail) (by first | exact SX.at0 | exact SX.at1 | exact SX.at2 | exact SX.at3 | exact SX.at4 | exact SX.at5) (by rfl) ?_; intro w1 hs1; simp only [List.set_cons_zero, List.set_cons_succ, List.setIfInBounds_toArray] at hs1) | (refine SX.load_aggB rfl (by assumption) (by first | (simp; done) | fail) (by rfl) (by first | exact SX.at0 | exact SX.at1 | exact SX.at2 | exact SX.at3 | exact SX.at4 | exact SX.at5) (by kernel_rfl) ?_)) | (refine SX.lsmw rfl (by rfl) ?_; first | (refine SX.load_blk rfl (by assumption) (by first | (simp; done) | fail) (by rfl) (by first | exact SX.at0 | exact SX.at1 | exact SX.at2 | exact SX.at3 | exact SX.at4 | exact SX.at5) (by rfl) ?_) | (refine SX.load_old rfl (by assumption) (by first | (simp; done) | fail) (by rfl) (by assumption) (by first | (simp; done) | fail) (by assumption) ?_) | (refine SX.store_blk rfl (by assumption) (by first | (simp; done) | fail) (by rfl) (by first | (go_simp; exact rfl) | fail) (by rfl) (by first | exact SX.at0 | exact SX.at1 | exact SX.at2 | exact SX.at3 | exact SX.at4 | exact SX.at5) (by first | (simp; done) | fail) ?_; intro w1 hs1; simp only [List.set_cons_zero, List.set_cons_succ, List.setIfInBounds_toArray] at hs1) | (refine SX.alc_ptr rfl (by assumption) (by first | (intro W; go_simp; exact rfl) | fail) ?_; intro g1 w1 hs1) | (refine SX.alc_slice rfl (by assumption) (by first | (intro W; go_simp; exact rfl) | fail) ?_; intro g1 w1 hs1) | (refine SX.store_agg rfl (by assumption) (by rfl) (by first | (go_simp; exact rfl) | fail) (by kernel_rfl) (by first | (simp [Value.oneCell']; done) | fail) (by first | exact SX.at0 | exact SX.at1 | exact SX.at2 | exact SX.at3 | exact SX.at4 | exact SX.at5) (by rfl) ?_; intro w1 hs1; simp only [List.set_cons_zero, List.set_cons_succ, List.setIfInBounds_toArray] at hs1) | (refine SX.load_aggB rfl (by assumption) (by first | (simp; done) | fail) (by rfl) (by first | exact SX.at0 | exact SX.at1 | exact SX.at2 | exact SX.at3 | exact SX.at4 | exact SX.at5) (by kernel_rfl) ?_)) | (refine SX.lsc rfl rfl ?_; refine SX.hold (fun q hq => ?_)) | (refine SX.lscw rfl (by rfl) ?_; refine SX.hold (fun q hq => ?_))); refine hq.out ?_; clear hq q)
    refine SX.wp_calls (fun _ => trivial) rfl rfl (by rfl) Try.call10 (by go_simp; rfl) ?_
    refine (SX.call (known_any _)).mono ?_
    rintro e w2 ⟨v, rfl, rfl, hy⟩
    refine ⟨_, rfl, ?_⟩
    gi_wp2
    go_ret
    exact ⟨_, rfl, rfl, hy⟩
  · have hm : m = 2 ∨ m = 4 ∨ m = 6 := by simp [vm] at hv; omega
    clear hv fin
    rcases hm with rfl | rfl | rfl <;>
    (refine SX.enter Try.func4 rfl ?_
     simp only [Try.ntmps4, List.size_toArray, List.length_cons, List.length_nil, Nat.reduceAdd, Nat.reduceSub, Array.replicate_succ, Array.replicate_zero, List.push_toArray, List.append_toArray, List.nil_append, List.cons_append]
     (gi_wp2_with (first | (refine SX.lsm rfl rfl ?_; first | (refine SX.load_blk rfl (by assumption) (by first | (simp; done) | fail) (by rfl) (by first | exact SX.at0 | exact SX.at1 | exact SX.at2 | exact SX.at3 | exact SX.at4 | exact SX.at5) (by rfl) ?_) | (refine SX.load_old rfl (by assumption) (by first | (simp; done) | fail) (by rfl) (by assumption) (by first | (simp; done) | fail) (by assumption) ?_) | (refine SX.store_blk rfl (by assumption) (by first | (simp; done) | fail) (by rfl) (by first | (go_simp; exact rfl) | fail) (by rfl) (by first | exact SX.at0 | exact SX.at1 | exact SX.at2 | exact SX.at3 | exact SX.at4 | exact SX.at5) (by first | (simp; done) | fail) ?_; intro w1 hs1; simp only [List.set_cons_zero, List.set_cons_succ, List.setIfInBounds_toArray] at hs1) | (refine SX.alc_ptr rfl (by assumption) (by first | (intro W; go_simp; exact rfl) | fail) ?_; intro g1 w1 hs1) | (refine SX.alc_slice rfl (by assumption) (by first | (intro W; go_simp; exact rfl) | fail) ?_; intro g1 w1 hs1) | (refine SX.store_agg rfl (by assumption) (by rfl) (by first | (go_simp; exact rfl) | fail) (by kernel_rfl) (by first | (simp [Value.oneCell']; done) | fail) (by first | exact SX.at0 | exact SX.at1 | exact SX.at2 | exact SX.at3 | exact SX.at4 | exact SX.at5) (by rfl) ?_; intro w1 hs1; simp only [List.set_cons_zero, List.set_cons_succ, List.setIfInBounds_toArray] at hs1) | (refine SX.load_aggB rfl (by assumption) (by first | (simp; done) | fail) (by rfl) (by first | exact SX.at0 | exact SX.at1 | exact SX.at2 | exact SX.at3 | exact SX.at4 | exact SX.at5) (by kernel_rfl) ?_)) | (refine SX.lsmw rfl (by rfl) ?_; first | (refine SX.load_blk rfl (by assumption) (by first | (simp; done) | fail) (by rfl) (by first | exact SX.at0 | exact SX.at1 | exact SX.at2 | exact SX.at3 | exact SX.at4 | exact SX.at5) (by rfl) ?_) | (refine SX.load_old rfl (by assumption) (by first | (simp; done) | fail) (by rfl) (by assumption) (by first | (simp; done) | fail) (by assumption) ?_) | (refine SX.store_blk rfl (by assumption) (by first | (simp; done) | fail) (by rfl) (by first | (go_simp; exact rfl) | fail) (by rfl) (by first | exact SX.at0 | exact SX.at1 | exact SX.at2 | exact SX.at3 | exact SX.at4 | exact SX.at5) (by first | (simp; done) | fail) ?_; intro w1 hs1; simp only [List.set_cons_zero, List.set_cons_succ, List.setIfInBounds_toArray] at hs1) | (refine SX.alc_ptr rfl (by assumption) (by first | (intro W; go_simp; exact rfl) | fail) ?_; intro g1 w1 hs1) | (refine SX.alc_slice rfl (by assumption) (by first | (intro W; go_simp; exact rfl) | fail) ?_; intro g1 w1 hs1) | (refine SX.store_agg rfl (by assumption) (by rfl) (by first | (go_simp; exact rfl) | fail) (by kernel_rfl) (by first | (simp [Value.oneCell']; done) | fail) (by first | exact SX.at0 | exact SX.at1 | exact SX.at2 | exact SX.at3 | exact SX.at4 | exact SX.at5) (by rfl) ?_; intro w1 hs1; simp only [List.set_cons_zero, List.set_cons_succ, List.setIfInBounds_toArray] at hs1) | (refine SX.load_aggB rfl (by assumption) (by first | (simp; done) | fail) (by rfl) (by first | exact SX.at0 | exact SX.at1 | exact SX.at2 | exact SX.at3 | exact SX.at4 | exact SX.at5) (by kernel_rfl) ?_)) | (refine SX.lsc rfl rfl ?_; refine SX.hold (fun q hq => ?_)) | (refine SX.lscw rfl (by rfl) ?_; refine SX.hold (fun q hq => ?_))); refine hq.out ?_; clear hq q)
     refine SX.wp_calls (fun _ => trivial) rfl rfl (by rfl) Try.call10 (by go_simp; rfl) ?_
     refine (SX.call (known_any _)).mono ?_
     rintro e w2 ⟨v, rfl, rfl, hy⟩
     refine ⟨_, rfl, ?_⟩
     gi_wp2
     go_ret
     exact ⟨_, rfl, rfl, hy⟩)
  · have hm : m = 2 ∨ m = 4 ∨ m = 6 := by simp [vm] at hv; omega
    clear hv fin
    rcases hm with rfl | rfl | rfl <;>
    (refine SX.enter Try.func4 rfl ?_
     simp only [Try.ntmps4, List.size_toArray, List.length_cons, List.length_nil, Nat.reduceAdd, Nat.reduceSub, Array.replicate_succ, Array.replicate_zero, List.push_toArray, List.append_toArray, List.nil_append, List.cons_append]
     (gi_wp2_with (first | (refine SX.lsm rfl rfl ?_; first | (refine SX.load_blk rfl (by assumption) (by first | (simp; done) | fail) (by rfl) (by first | exact SX.at0 | exact SX.at1 | exact SX.at2 | exact SX.at3 | exact SX.at4 | exact SX.at5) (by rfl) ?_) | (refine SX.load_old rfl (by assumption) (by first | (simp; done) | fail) (by rfl) (by assumption) (by first | (simp; done) | fail) (by assumption) ?_) | (refine SX.store_blk rfl (by assumption) (by first | (simp; done) | fail) (by rfl) (by first | (go_simp; exact rfl) | fail) (by rfl) (by first | exact SX.at0 | exact SX.at1 | exact SX.at2 | exact SX.at3 | exact SX.at4 | exact SX.at5) (by first | (simp; done) | fail) ?_; intro w1 hs1; simp only [List.set_cons_zero, List.set_cons_succ, List.setIfInBounds_toArray] at hs1) | (refine SX.alc_ptr rfl (by assumption) (by first | (intro W; go_simp; exact rfl) | fail) ?_; intro g1 w1 hs1) | (refine SX.alc_slice rfl (by assumption) (by first | (intro W; go_simp; exact rfl) | fail) ?_; intro g1 w1 hs1) | (refine SX.store_agg rfl (by assumption) (by rfl) (by first | (go_simp; exact rfl) | fail) (by kernel_rfl) (by first | (simp [Value.oneCell']; done) | fail) (by first | exact SX.at0 | exact SX.at1 | exact SX.at2 | exact SX.at3 | exact SX.at4 | exact SX.at5) (by rfl) ?_; intro w1 hs1; simp only [List.set_cons_zero, List.set_cons_succ, List.setIfInBounds_toArray] at hs1) | (refine SX.load_aggB rfl (by assumption) (by first | (simp; done) | fail) (by rfl) (by first | exact SX.at0 | exact SX.at1 | exact SX.at2 | exact SX.at3 | exact SX.at4 | exact SX.at5) (by kernel_rfl) ?_)) | (refine SX.lsmw rfl (by rfl) ?_; first | (refine SX.load_blk rfl (by assumption) (by first | (simp; done) | fail) (by rfl) (by first | exact SX.at0 | exact SX.at1 | exact SX.at2 | exact SX.at3 | exact SX.at4 | exact SX.at5) (by rfl) ?_) | (refine SX.load_old rfl (by assumption) (by first | (simp; done) | fail) (by rfl) (by assumption) (by first | (simp; done) | fail) (by assumption) ?_) | (refine SX.store_blk rfl (by assumption) (by first | (simp; done) | fail) (by rfl) (by first | (go_simp; exact rfl) | fail) (by rfl) (by first | exact SX.at0 | exact SX.at1 | exact SX.at2 | exact SX.at3 | exact SX.at4 | exact SX.at5) (by first | (simp; done) | fail) ?_; intro w1 hs1; simp only [List.set_cons_zero, List.set_cons_succ, List.setIfInBounds_toArray] at hs1) | (refine SX.alc_ptr rfl (by assumption) (by first | (intro W; go_simp; exact rfl) | fail) ?_; intro g1 w1 hs1) | (refine SX.alc_slice rfl (by assumption) (by first | (intro W; go_simp; exact rfl) | fail) ?_; intro g1 w1 hs1) | (refine SX.store_agg rfl (by assumption) (by rfl) (by first | (go_simp; exact rfl) | fail) (by kernel_rfl) (by first | (simp [Value.oneCell']; done) | fail) (by first | exact SX.at0 | exact SX.at1 | exact SX.at2 | exact SX.at3 | exact SX.at4 | exact SX.at5) (by rfl) ?_; intro w1 hs1; simp only [List.set_cons_zero, List.set_cons_succ, List.setIfInBounds_toArray] at hs1) | (refine SX.load_aggB rfl (by assumption) (by first | (simp; done) | fail) (by rfl) (by first | exact SX.at0 | exact SX.at1 | exact SX.at2 | exact SX.at3 | exact SX.at4 | exact SX.at5) (by kernel_rfl) ?_)) | (refine SX.lsc rfl rfl ?_; refine SX.hold (fun q hq => ?_)) | (refine SX.lscw rfl (by rfl) ?_; refine SX.hold (fun q hq => ?_))); refine hq.out ?_; clear hq q)
     refine SX.wp_calls (fun _ => trivial) rfl rfl (by rfl) Try.call10 (by go_simp; rfl) ?_
     refine (SX.call (known_any _)).mono ?_
     rintro e w2 ⟨v, rfl, rfl, hy⟩
     refine ⟨_, rfl, ?_⟩
     gi_wp2
     go_ret
     exact ⟨_, rfl, rfl, hy⟩)

theorem mpt_bd (k : Nat) (hk : 1 ≤ k) (hk3 : k ≤ 3) (a : List Int) (ha : ∀ x ∈ a, x = 0 ∨ x = 1) : -128 < (mpt k a 0).1 ∧ (mpt k a 0).1 < 128 ∧ -128 < (mpt k a 0).2 ∧ (mpt k a 0).2 < 128 := by
  have h1 := rlev_bd k _ _ _ (elt_bit ha ((0 * (2 * k) : Nat))) (elt_bit ha ((0 * (2 * k) + 2 : Nat))) (elt_bit ha ((0 * (2 * k) + 4 : Nat)))
  have h2 := rlev_bd k _ _ _ (elt_bit ha ((0 * (2 * k) + 1 : Nat))) (elt_bit ha ((0 * (2 * k) + 1 + 2 : Nat))) (elt_bit ha ((0 * (2 * k) + 1 + 4 : Nat)))
  simp only [mpt, lev_rlev k hk hk3]
  omega
end Go.Proofs.Ythncbdoiilgnhaa
