/- Copies of bytes; comparisons; the document's bits. -/
import Derived.Test.YteabcdmgklhijaaFb
import Derived.Test.YteabcdmgklhijaaZu
namespace Go.Proofs.Yteabcdmgklhijaa
open Go.RowKit
set_option linter.unusedSimpArgs false
set_option linter.unusedVariables false

theorem clone8 (M : List Nat) (A : Option Addr) (n c : Nat) (l : List Int) (w : World) (hx : Sx w M A (ints .u8 l)) (hl : l.length = n) (hn : n ≤ 100000000) (hz : A = none → n = 0) :
    Calls Try.prog 63 #[.slice A n c] w (SX.Ret fun v w' => SX.St w [] w' [SX.Ent.row v 5 1 n (ints .u8 l)]) := by
  have hs := SX.St.start w
  cases A with
  | none =>
    obtain rfl := hz rfl
    have hl0 : l = [] := List.eq_nil_of_length_eq_zero hl
    subst hl0
    refine Z.enter Try.func63 rfl Try.ntmps63 rfl rfl ?_
    refine Z.seq ?_
    refine Z.region ?_
    refine Z.lb 1 rfl ?_
    refine Z.lnil ?_
    refine Z.only [0] rfl ?_
    refine Z.nthen ?_
    refine Z.seq ?_
    refine Z.seq ?_
    refine Z.region ?_
    refine Z.lb 1 rfl ?_
    refine Z.l rfl rfl (by rfl) (Z.keepS hs) (Z.Yd.sliceNil rfl rfl Try.underlying29) ?_
    refine Z.lnil ?_
    refine Z.only [0, 4] rfl ?_
    refine Z.nthen ?_
    refine Z.cond rfl (fun hc1 => ?_) (fun h => absurd h (by simp))
    refine Z.seq ?_
    refine Z.region ?_
    refine Z.lb 1 rfl ?_
    refine Z.lnil ?_
    refine Z.only [2] rfl ?_
    refine Z.nthen ?_
    refine Z.ret ?_
    repeat (first | refine Z.rthen ?_ | refine Z.rblock ?_ | refine Z.rscope ?_)
    -- ret#0
    refine Z.out1 (by exact ⟨rfl, trivial⟩) ?_
    exact ⟨_, rfl, hs.nil _ _⟩
  | some ad =>
    refine Z.enter Try.func63 rfl Try.ntmps63 rfl rfl ?_
    refine Z.seq ?_
    refine Z.region ?_
    refine Z.lb 1 rfl ?_
    refine Z.lnil ?_
    refine Z.only [0] rfl ?_
    refine Z.nthen ?_
    refine Z.seq ?_
    refine Z.seq ?_
    refine Z.region ?_
    refine Z.lb 1 rfl ?_
    refine Z.l rfl rfl (by rfl) (Z.keepS hs) (Z.Yd.sliceNil rfl rfl Try.underlying29) ?_
    refine Z.lnil ?_
    refine Z.only [0, 4] rfl ?_
    refine Z.nthen ?_
    refine Z.cond rfl (fun h => absurd h (by simp)) (fun hc1 => ?_)
    refine Z.skip ?_
    refine Z.nthen ?_
    refine Z.seq ?_
    refine Z.region ?_
    refine Z.le rfl trivial ?_
    refine Z.ZO.empty rfl rfl (by rfl) Try.underlying29 Try.sizeOf5 hs ?_
    clear hs; intro g5 w5 hs
    refine Z.lb 1 rfl ?_
    refine Z.le rfl trivial ?_
    refine Z.ZO.appendG (i0 := Try.t5) (size := 1) (bytes := 1) rfl rfl (by rfl) hs Try.underlying29 (by kernel_rfl) rfl rfl rfl rfl (by decide) rfl rfl (by first | exact SX.at0 | exact SX.at1 | exact SX.at2 | exact SX.at3 | exact SX.at4 | exact SX.at5 | exact Z.at6 | exact Z.at7 | exact Z.at8 | exact Z.at9 | exact Z.at10 | exact Z.at11 | exact Z.at12) (hx.sl.st hs) (by first | rfl | (simp [ints_length]; done) | (simp [ints_length]; omega)) (by first | exact Z.ints_one | simp [Value.oneCell']) (by unfold maxLen; omega) (by omega) ?_
    clear hs; intro v7 w7 hs
    simp only [List.set_cons_zero, List.set_cons_succ] at hs
    refine Z.lb 1 rfl ?_
    refine Z.lnil ?_
    refine Z.only [2] rfl ?_
    refine Z.nthen ?_
    refine Z.ret ?_
    -- ret#0
    refine Z.out1 (by exact ⟨rfl, trivial⟩) ?_
    exact ⟨_, rfl, by simpa using hs⟩

theorem bits_bd {bs : List Bool} {x : Int} (h : x ∈ bits bs) : 0 ≤ x ∧ x ≤ 1 := by
  simp only [bits, List.mem_map] at h
  obtain ⟨b, _, rfl⟩ := h
  exact bi_bd b
theorem elt_bits {bs : List Bool} {i : Nat} (h : i < bs.length) : elt (bits bs) (i : Int) = bi (bt bs i) := by
  simp [elt, bits, bt, h]

end Go.Proofs.Yteabcdmgklhijaa
