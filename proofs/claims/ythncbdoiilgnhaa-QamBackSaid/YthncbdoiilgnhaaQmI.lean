/- The document's functions: Valid, Level, Point, Same. -/
import Derived.Test.YthncbdoiilgnhaaQmH
namespace Go.Proofs.Ythncbdoiilgnhaa
open Go.RowKit
set_option linter.unusedSimpArgs false
set_option linter.unusedVariables false
attribute [local go_sem] Oper.semAt_some

set_option maxRecDepth 100000 in
set_option maxHeartbeats 400000 in
theorem rvalid_any (m : Int) (w : World) : Calls Try.prog 12 #[.int .i64 m] w (SX.Ret fun v w' => v = .bool (vm m) ∧ SX.St w [] w' []) := by
  have hs := SX.St.start w
  by_cases h2 : m = 2
  · subst h2
    refine SX.enter Try.func12 rfl ?_
    simp only [Try.ntmps12, List.size_toArray, List.length_cons, List.length_nil, Nat.reduceAdd, Nat.reduceSub, Array.replicate_succ, Array.replicate_zero, List.push_toArray, List.append_toArray, List.nil_append, List.cons_append]
    gi_wp2
    go_ret
    exact ⟨_, rfl, rfl, hs⟩
  by_cases h4 : m = 4
  · subst h4
    refine SX.enter Try.func12 rfl ?_
    simp only [Try.ntmps12, List.size_toArray, List.length_cons, List.length_nil, Nat.reduceAdd, Nat.reduceSub, Array.replicate_succ, Array.replicate_zero, List.push_toArray, List.append_toArray, List.nil_append, List.cons_append]
    gi_wp2
    go_ret
    exact ⟨_, rfl, rfl, hs⟩
  by_cases h6 : m = 6
  · subst h6
    refine SX.enter Try.func12 rfl ?_
    simp only [Try.ntmps12, List.size_toArray, List.length_cons, List.length_nil, Nat.reduceAdd, Nat.reduceSub, Array.replicate_succ, Array.replicate_zero, List.push_toArray, List.append_toArray, List.nil_append, List.cons_append]
    gi_wp2
    go_ret
    exact ⟨_, rfl, rfl, hs⟩
  have hv : vm m = false := by simp [vm, h2, h4, h6]
  rw [hv]
  have e2 : (m == 2) = false := by simpa using h2
  have e4 : (m == 4) = false := by simpa using h4
  have e6 : (m == 6) = false := by simpa using h6
  clear h2 h4 h6 hv
  refine SX.enter Try.func12 rfl ?_
  simp only [Try.ntmps12, List.size_toArray, List.length_cons, List.length_nil, Nat.reduceAdd, Nat.reduceSub, Array.replicate_succ, Array.replicate_zero, List.push_toArray, List.append_toArray, List.nil_append, List.cons_append]
  gi_wp2
  go_ret
  exact ⟨_, rfl, rfl, hs⟩

set_option maxRecDepth 100000 in
set_option maxHeartbeats 400000 in
theorem bvalid_any (A : Option Addr) (n c : Nat) (bs : List Int) (w : World) (hr : Sl w A (ints .u8 bs)) (hl : bs.length = n) (hn : n ≤ 9223372036854775806) :
    Calls Try.prog 13 #[.slice A n c] w (SX.Ret fun v w' => v = .bool (!bs.any fun x => decide (1 < x)) ∧ SX.St w [] w' []) := by
  have HL := Lib.hid hl
  clear hl
  refine SX.enter Try.func13 rfl ?_
  simp only [Try.ntmps13, List.size_toArray, List.length_cons, List.length_nil, Nat.reduceAdd, Nat.reduceSub, Array.replicate_succ, Array.replicate_zero, List.push_toArray, List.append_toArray, List.nil_append, List.cons_append]
  gi_wp2
  gi_loopw [3] (fun i wr => ∃ z : Int, i = .int .i64 z ∧ 0 ≤ z ∧ z ≤ n ∧ noneUpto bs (fun x => decide (1 < x)) z ∧ SX.St w [] wr []) (fun i _ => n - (intOf i).toNat)
  case atStart => exact ⟨0, rfl, by omega, by omega, fun j h1 h2 => by omega, SX.St.start w⟩
  case round =>
    obtain ⟨z, rfl, hz0, hzn, hno, hs⟩ := hrel
    by_cases hlt : z < n
    · obtain ⟨b, off, rfl, hb, hc⟩ := hr.at (i := z) hz0 (by rw [HL.out]; exact hlt)
      clear hr
      gi_wp2_with (first | (refine SX.lsm rfl rfl ?_; first | (refine SX.load_blk rfl (by assumption) (by first | (simp; done) | fail) (by rfl) (by first | exact SX.at0 | exact SX.at1 | exact SX.at2 | exact SX.at3 | exact SX.at4 | exact SX.at5) (by rfl) ?_) | (refine SX.load_old rfl (by assumption) (by first | (simp; done) | fail) (by rfl) (by assumption) (by first | (simp; done) | fail) (by assumption) ?_) | (refine SX.store_blk rfl (by assumption) (by first | (simp; done) | fail) (by rfl) (by first | (go_simp; exact rfl) | fail) (by rfl) (by first | exact SX.at0 | exact SX.at1 | exact SX.at2 | exact SX.at3 | exact SX.at4 | exact SX.at5) (by first | (simp; done) | fail) ?_; intro w1 hs1; simp only [List.set_cons_zero, List.set_cons_succ, List.setIfInBounds_toArray] at hs1) | (refine SX.alc_ptr rfl (by assumption) (by first | (intro W; go_simp; exact rfl) | fail) ?_; intro g1 w1 hs1) | (refine SX.alc_slice rfl (by assumption) (by first | (intro W; go_simp; exact rfl) | fail) ?_; intro g1 w1 hs1)))
      · have hpt : 1 < elt bs z := by assumption
        go_ret
        exact ⟨_, rfl, by rw [any_of_elt (z := z) hz0 (by rw [HL.out]; exact hlt) (by simpa using hpt)]; rfl, hs⟩
      · have hpt : elt bs z ≤ 1 := by assumption
        go_roundw
        case rel =>
          refine ⟨z + 1, by go_num, by omega, by omega, fun j h1 h2 => ?_, hs⟩
          rcases Int.lt_or_le j z with h | h
          · exact hno j h1 h
          · obtain rfl : j = z := by omega
            simpa using hpt
        case measure => simp [intOf]; omega
    · have e : z = n := by omega
      have HE := Lib.hid e
      clear e
      gi_wp2
      go_ret
      exact ⟨_, rfl, by rw [any_of_upto (by rw [HL.out, ← HE.out]; exact hno)]; rfl, hs⟩

set_option maxRecDepth 100000 in
set_option maxHeartbeats 400000 in
theorem bit_any (A : Option Addr) (n c i : Nat) (bs : List Int) (w : World) (hr : Sl w A (ints .u8 bs)) (hl : bs.length = n) (hn : n ≤ 9223372036854775806) (hi : i ≤ 5) (hb : ∀ b ∈ bs, b = 0 ∨ b = 1) :
    Calls Try.prog 32 #[.slice A n c, .int .i64 (i : Int)] w (SX.Ret fun v w' => v = .int .i64 (elt bs (i : Nat)) ∧ SX.St w [] w' []) := by
  have hs := SX.St.start w
  by_cases h : i < n
  · have h' : (i : Int) < n := by omega
    obtain ⟨b, off, rfl, hbb, hc⟩ := hr.at (i := (i : Int)) (by omega) (by omega)
    have hbd := hb _ (elt_mem (l := bs) (z := (i : Int)) (by omega) (by omega))
    have h1 : 0 ≤ elt bs (i : Nat) := by omega
    have h2 : elt bs (i : Nat) ≤ 1 := by omega
    generalize elt bs (i : Nat) = x at *
    clear hr hl hbd hb
    refine SX.enter Try.func32 rfl ?_
    simp only [Try.ntmps32, List.size_toArray, List.length_cons, List.length_nil, Nat.reduceAdd, Nat.reduceSub, Array.replicate_succ, Array.replicate_zero, List.push_toArray, List.append_toArray, List.nil_append, List.cons_append]
    gi_wp2_with (first | (refine SX.lsm rfl rfl ?_; first | (refine SX.load_blk rfl (by assumption) (by first | (simp; done) | fail) (by rfl) (by first | exact SX.at0 | exact SX.at1 | exact SX.at2 | exact SX.at3 | exact SX.at4 | exact SX.at5) (by rfl) ?_) | (refine SX.load_old rfl (by assumption) (by first | (simp; done) | fail) (by rfl) (by assumption) (by first | (simp; done) | fail) (by assumption) ?_) | (refine SX.store_blk rfl (by assumption) (by first | (simp; done) | fail) (by rfl) (by first | (go_simp; exact rfl) | fail) (by rfl) (by first | exact SX.at0 | exact SX.at1 | exact SX.at2 | exact SX.at3 | exact SX.at4 | exact SX.at5) (by first | (simp; done) | fail) ?_; intro w1 hs1; simp only [List.set_cons_zero, List.set_cons_succ, List.setIfInBounds_toArray] at hs1) | (refine SX.alc_ptr rfl (by assumption) (by first | (intro W; go_simp; exact rfl) | fail) ?_; intro g1 w1 hs1) | (refine SX.alc_slice rfl (by assumption) (by first | (intro W; go_simp; exact rfl) | fail) ?_; intro g1 w1 hs1)))
    go_ret
    exact ⟨_, rfl, rfl, hs⟩
  · have h' : ¬ (i : Int) < n := by omega
    have he : elt bs (i : Nat) = 0 := by
      unfold elt
      rw [List.getD_eq_getElem?_getD, List.getElem?_eq_none (by simp; omega)]
      rfl
    rw [he]
    clear hr hl h he hb
    refine SX.enter Try.func32 rfl ?_
    simp only [Try.ntmps32, List.size_toArray, List.length_cons, List.length_nil, Nat.reduceAdd, Nat.reduceSub, Array.replicate_succ, Array.replicate_zero, List.push_toArray, List.append_toArray, List.nil_append, List.cons_append]
    gi_wp2_with (first | (refine SX.lsm rfl rfl ?_; first | (refine SX.load_blk rfl (by assumption) (by first | (simp; done) | fail) (by rfl) (by first | exact SX.at0 | exact SX.at1 | exact SX.at2 | exact SX.at3 | exact SX.at4 | exact SX.at5) (by rfl) ?_) | (refine SX.load_old rfl (by assumption) (by first | (simp; done) | fail) (by rfl) (by assumption) (by first | (simp; done) | fail) (by assumption) ?_) | (refine SX.store_blk rfl (by assumption) (by first | (simp; done) | fail) (by rfl) (by first | (go_simp; exact rfl) | fail) (by rfl) (by first | exact SX.at0 | exact SX.at1 | exact SX.at2 | exact SX.at3 | exact SX.at4 | exact SX.at5) (by first | (simp; done) | fail) ?_; intro w1 hs1; simp only [List.set_cons_zero, List.set_cons_succ, List.setIfInBounds_toArray] at hs1) | (refine SX.alc_ptr rfl (by assumption) (by first | (intro W; go_simp; exact rfl) | fail) ?_; intro g1 w1 hs1) | (refine SX.alc_slice rfl (by assumption) (by first | (intro W; go_simp; exact rfl) | fail) ?_; intro g1 w1 hs1)))
    go_ret
    exact ⟨_, rfl, rfl, hs⟩

/-- the document's level of k bits -/
def rlev (k : Nat) (a b c : Int) : Int := if k = 1 then 1 - 2 * a else if k = 2 then (1 - 2 * a) * (2 - (1 - 2 * b)) else (1 - 2 * a) * (4 - (1 - 2 * b) * (2 - (1 - 2 * c)))

set_option maxRecDepth 100000 in
set_option maxHeartbeats 1000000 in
theorem rlevel_any (k : Nat) (a b c : Int) (w : World) (hk : 1 ≤ k) (hk3 : k ≤ 3) (ha : a = 0 ∨ a = 1) (hb : b = 0 ∨ b = 1) (hc : c = 0 ∨ c = 1) :
    Calls Try.prog 31 #[.int .i64 ((2 * k : Nat) : Int), .int .i64 a, .int .i64 b, .int .i64 c] w (SX.Ret fun v w' => v = .int .i64 (rlev k a b c) ∧ SX.St w [] w' []) := by
  have hs := SX.St.start w
  have h3 : k = 1 ∨ k = 2 ∨ k = 3 := by omega
  clear hk hk3
  rcases h3 with rfl | rfl | rfl <;> rcases ha with rfl | rfl <;> rcases hb with rfl | rfl <;> rcases hc with rfl | rfl <;>
    (refine SX.enter Try.func31 rfl ?_
     simp only [Try.ntmps31, List.size_toArray, List.length_cons, List.length_nil, Nat.reduceAdd, Nat.reduceSub, Array.replicate_succ, Array.replicate_zero, List.push_toArray, List.append_toArray, List.nil_append, List.cons_append]
     gi_wp2
     go_ret
     exact ⟨_, rfl, rfl, hs⟩)

end Go.Proofs.Ythncbdoiilgnhaa
