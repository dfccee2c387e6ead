/- slices.IndexFunc, ContainsFunc. -/
import Derived.Test.YthncbdoiilgnhaaQmA
namespace Go.Proofs.Ythncbdoiilgnhaa
open Go.RowKit
set_option linter.unusedSimpArgs false
set_option linter.unusedVariables false

set_option maxRecDepth 100000 in
set_option maxHeartbeats 400000 in
theorem indexFunc8 (A : Option Addr) (n c : Nat) (bs : List Int) (w : World) (hr : Sl w A (ints .u8 bs)) (hl : bs.length = n) (hn : n ≤ 9223372036854775807) (k : FuncId) (cap : Array Value)
    (hk : ∀ args w, (callFunc k args).run Try.prog w = .ok (.enter k args) w) (p : Int → Bool) (hp : ∀ x ∈ bs, ∀ W, SX.St w [] W [] → Calls Try.prog k (Value.int .u8 x :: cap.toList).toArray W (SX.Ret fun v w' => v = .bool (p x) ∧ SX.St W [] w' [])) :
    Calls Try.prog 41 #[.slice A n c, .func (.func k) #[] cap] w (SX.Ret fun v w' => ∃ z : Int, v = .int .i64 z ∧ decide (0 ≤ z) = bs.any p ∧ -1 ≤ z ∧ z < n ∧ SX.St w [] w' []) := by
  have HP := Lib.hid hp
  have HL := Lib.hid hl
  have HK := Lib.hid hk
  clear hp hl hk
  refine SX.enter Try.func41 rfl ?_
  simp only [Try.ntmps41, List.size_toArray, List.length_cons, List.length_nil, Nat.reduceAdd, Nat.reduceSub, Array.replicate_succ, Array.replicate_zero, List.push_toArray, List.append_toArray, List.nil_append, List.cons_append]
  gi_wp2
  gi_loopw [8] (fun i wr => ∃ z : Int, i = .int .i64 z ∧ 0 ≤ z ∧ z ≤ n ∧ noneUpto bs p z ∧ SX.St w [] wr []) (fun i _ => n - (intOf i).toNat)
  case atStart => exact ⟨0, rfl, by omega, by omega, fun j h1 h2 => by omega, SX.St.start w⟩
  case round =>
    obtain ⟨z, rfl, hz0, hzn, hno, hs⟩ := hrel
    by_cases hlt : z < n
    · obtain ⟨b, off, rfl, hb, hc⟩ := hr.at (i := z) hz0 (by rw [HL.out]; exact hlt)
      clear hr
      have hcall := Lib.hid (HP.out (elt bs z) (elt_mem hz0 (by rw [HL.out]; exact hlt)) wr hs)
      gi_wp2_with (first
        | (refine SX.lsm rfl rfl ?_; first | (refine SX.load_blk rfl (by assumption) (by first | (simp; done) | fail) (by rfl) (by first | exact SX.at0 | exact SX.at1 | exact SX.at2 | exact SX.at3 | exact SX.at4 | exact SX.at5) (by rfl) ?_) | (refine SX.load_old rfl (by assumption) (by first | (simp; done) | fail) (by rfl) (by assumption) (by first | (simp; done) | fail) (by assumption) ?_) | (refine SX.store_blk rfl (by assumption) (by first | (simp; done) | fail) (by rfl) (by first | (go_simp; exact rfl) | fail) (by rfl) (by first | exact SX.at0 | exact SX.at1 | exact SX.at2 | exact SX.at3 | exact SX.at4 | exact SX.at5) (by first | (simp; done) | fail) ?_; intro w1 hs1; simp only [List.set_cons_zero, List.set_cons_succ, List.setIfInBounds_toArray] at hs1) | (refine SX.alc_ptr rfl (by assumption) (by first | (intro W; go_simp; exact rfl) | fail) ?_; intro g1 w1 hs1) | (refine SX.alc_slice rfl (by assumption) (by first | (intro W; go_simp; exact rfl) | fail) ?_; intro g1 w1 hs1))
        | (refine SX.lsc rfl rfl (SX.wp_calls (fun _ => trivial) rfl rfl (by rfl) HK.out (by go_simp; rfl) ?_); refine (SX.call hcall.out).mono ?_; rintro e w1 ⟨v, rfl, rfl, hs1⟩; refine ⟨_, rfl, ?_⟩))
      · have hpt : p (elt bs z) = true := by assumption
        go_ret
        exact ⟨_, rfl, z, rfl, by rw [any_of_elt hz0 (by rw [HL.out]; exact hlt) hpt]; simpa using hz0, by omega, hlt, hs.call hs1⟩
      · have hpt : p (elt bs z) = false := by assumption
        go_roundw
        case rel =>
          refine ⟨z + 1, by go_num, by omega, by omega, fun j h1 h2 => ?_, hs.call hs1⟩
          rcases Int.lt_or_le j z with h | h
          · exact hno j h1 h
          · obtain rfl : j = z := by omega
            exact hpt
        case measure => simp [intOf]; omega
    · have e : z = n := by omega
      have HE := Lib.hid e
      clear e
      gi_wp2
      go_ret
      exact ⟨_, rfl, -1, rfl, by rw [any_of_upto (by rw [HL.out, ← HE.out]; exact hno)]; rfl, by omega, by omega, hs⟩

set_option maxRecDepth 100000 in
set_option maxHeartbeats 400000 in
theorem containsFunc8 (A : Option Addr) (n c : Nat) (bs : List Int) (w : World) (hr : Sl w A (ints .u8 bs)) (hl : bs.length = n) (hn : n ≤ 9223372036854775807) (k : FuncId) (cap : Array Value)
    (hk : ∀ args w, (callFunc k args).run Try.prog w = .ok (.enter k args) w) (p : Int → Bool) (hp : ∀ x ∈ bs, ∀ W, SX.St w [] W [] → Calls Try.prog k (Value.int .u8 x :: cap.toList).toArray W (SX.Ret fun v w' => v = .bool (p x) ∧ SX.St W [] w' [])) :
    Calls Try.prog 26 #[.slice A n c, .func (.func k) #[] cap] w (SX.Ret fun v w' => v = .bool (bs.any p) ∧ SX.St w [] w' []) := by
  have HC := Lib.hid (indexFunc8 A n c bs w hr hl hn k cap hk p hp)
  clear hr hp hk
  refine SX.enter Try.func26 rfl ?_
  simp only [Try.ntmps26, List.size_toArray, List.length_cons, List.length_nil, Nat.reduceAdd, Nat.reduceSub, Array.replicate_succ, Array.replicate_zero, List.push_toArray, List.append_toArray, List.nil_append, List.cons_append]
  gi_wp2_with (first
    | (refine SX.lsc rfl rfl (SX.wp_calls (fun _ => trivial) rfl rfl (by rfl) Try.call41 (by go_simp; rfl) ?_); refine (SX.call HC.out).mono ?_; rintro e w1 ⟨v, rfl, z, rfl, hz, h1, h2, hs1⟩; have HZ := Lib.hid hz; clear hz; refine ⟨_, rfl, ?_⟩))
  all_goals
    go_ret
    refine ⟨_, rfl, ?_, by assumption⟩
    rw [← HZ.out]
    simp [*]
end Go.Proofs.Ythncbdoiilgnhaa
