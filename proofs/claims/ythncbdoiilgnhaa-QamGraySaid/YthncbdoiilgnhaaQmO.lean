/- QamGray returns true: all cases together. -/
import Derived.Test.YthncbdoiilgnhaaQmN
import Derived.Test.YthncbdoiilgnhaaQmRow
namespace Go.Proofs.Ythncbdoiilgnhaa
open Go.RowKit
set_option linter.unusedVariables false

theorem gray_walk (m : Int) (A : Option Addr) (n c : Nat) (zs : List Int) (B : Option Addr) (n' c' : Nat) (ys : List Int) (w : World) (hz : IsRow .u8 w A n c zs) (hy : IsRow .u8 w B n' c' ys) :
    Calls Try.prog 4 #[.int .i64 m, .slice A n c, .slice B n' c'] w fun e w' => e = .returned (.bool true) ∧ Below w.heap.size w w' := by
  obtain ⟨hs, hl, hnc, hcm, hwf⟩ := hz.read
  obtain ⟨hs', hl', hnc', hcm', hwf'⟩ := hy.read
  have hc : (c : Int) ≤ 9223372036854775807 := by unfold maxLen at hcm; omega
  have hc' : (c' : Int) ≤ 9223372036854775807 := by unfold maxLen at hcm'; omega
  have bits : ∀ (l : List Int) (k : Nat), (∀ x ∈ l, (Lit.int .u8 x).wf = true) → ¬ (l.take k).any (fun x => decide (1 < x)) = true → ∀ x ∈ l.take k, x = 0 ∨ x = 1 := by
    intro l k hw hn x hx
    have h1 := u8_of_wf (hw x (List.mem_of_mem_take hx))
    have h2 : ¬ 1 < x := fun h => hn (List.any_eq_true.2 ⟨x, hx, by simpa using h⟩)
    omega
  have key : Calls Try.prog 4 #[.int .i64 m, .slice A n c, .slice B n' c'] w (SX.Ret fun v w' => v = .bool true ∧ SX.St w [] w' []) := by
    by_cases hv : vm m = true
    · by_cases h1 : (n : Int) < m
      · exact gray_none m A B n c n' c' w (.inr (.inl ⟨hv, h1⟩))
      by_cases h2 : (n' : Int) < m
      · exact gray_none m A B n c n' c' w (.inr (.inr ⟨hv, h1, h2⟩))
      have hm : m = 2 ∨ m = 4 ∨ m = 6 := by simp [vm] at hv; omega
      obtain ⟨k, hk, hk3, rfl⟩ : ∃ k : Nat, 1 ≤ k ∧ k ≤ 3 ∧ m = ((2 * k : Nat) : Int) := by
        rcases hm with rfl | rfl | rfl
        · exact ⟨1, by omega, by omega, rfl⟩
        · exact ⟨2, by omega, by omega, rfl⟩
        · exact ⟨3, by omega, by omega, rfl⟩
      by_cases ha : ((zs.take n).take (2 * k)).any (fun x => decide (1 < x)) = true
      · by_cases hb : ((ys.take n').take (2 * k)).any (fun x => decide (1 < x)) = true
        · exact gray_xx k hk hk3 A B n c n' c' _ _ w hs hl hs' hl' (by omega) (by omega) hnc hnc' hc hc' ha hb
        · exact gray_xo k hk hk3 A B n c n' c' _ _ w hs hl hs' hl' (by omega) (by omega) hnc hnc' hc hc' ha (bits _ _ hwf' hb)
      · by_cases hb : ((ys.take n').take (2 * k)).any (fun x => decide (1 < x)) = true
        · exact gray_ox k hk hk3 A B n c n' c' _ _ w hs hl hs' hl' (by omega) (by omega) hnc hnc' hc hc' (bits _ _ hwf ha) hb
        · exact gray_oo k hk hk3 A B n c n' c' _ _ w hs hl hs' hl' (by omega) (by omega) hnc hnc' hc hc' (bits _ _ hwf ha) (bits _ _ hwf' hb)
    · exact gray_none m A B n c n' c' w (.inl (by simpa using hv))
  refine key.mono ?_
  rintro e w' ⟨v, rfl, rfl, h⟩
  exact ⟨rfl, h.below⟩
end Go.Proofs.Ythncbdoiilgnhaa
