/- For every input, QamPoints returns true and changes nothing of what it was given. No condition. -/
import Derived.Test.YthncbdoiilgnhaaRows
import Derived.Test.YthncbdoiilgnhaaQmL
import Derived.WalkKit
import Derived.ProofKit
import Derived.OpenShut
import Derived.ShutString
import Derived.ChangeOld
import Derived.Below
namespace Go.Proofs.Ythncbdoiilgnhaa
open Go.ChangeShapes Go.WideShapes Go.ChangeAt Go.RowKit
set_option linter.unusedVariables false
set_option linter.unusedSimpArgs false

theorem pown : ownKnob Try.prog.godebug = none := by kernel_rfl
theorem plaidOut : laidOutB Try.prog = true := by kernel_rfl

/-- a slice of integers that came in -/
def IsRow (k : IntKind) (w : World) (a : Option Addr) (len cap : Nat) (zs : List Int) : Prop :=
  (a = none ∧ len = 0 ∧ cap = 0 ∧ zs = []) ∨
  ∃ x, a = some x ∧ len ≤ cap ∧ cap ≤ maxLen ∧ zs.length = cap ∧ (∀ i, i < zs.length → w.cell? (x.add i) = some (.int k (zs.getD i 0))) ∧ ∀ n ∈ zs, (Lit.int k n).wf = true

theorem u8_of_wf {x : Int} (h : (Lit.int .u8 x).wf = true) : 0 ≤ x ∧ x < 256 := by
  have h1 : IntKind.u8.min = 0 := rfl
  have h2 : IntKind.u8.max = 255 := rfl
  simp only [Lit.wf, Bool.and_eq_true, decide_eq_true_eq] at h
  omega

/-- it reads as a list -/
theorem IsRow.read {w : World} {k : IntKind} {a : Option Addr} {len cap : Nat} {zs : List Int} (h : IsRow k w a len cap zs) :
    Sl w a (ints k (zs.take len)) ∧ (zs.take len).length = len ∧ len ≤ cap ∧ cap ≤ maxLen ∧ ∀ n ∈ zs.take len, (Lit.int k n).wf = true := by
  rcases h with ⟨rfl, rfl, rfl, rfl⟩ | ⟨x, rfl, hl, hm, hz, hc, hw⟩
  · exact ⟨fun hp => by simp [ints] at hp, rfl, Nat.le_refl _, Nat.zero_le _, fun n hn => by simp at hn⟩
  · refine ⟨fun hp => ?_, by simp; omega, hl, hm, fun n hn => hw n (List.mem_of_mem_take hn)⟩
    have hp' : 0 < zs.length := by simp [ints] at hp; omega
    obtain ⟨b, off, rfl, hc'⟩ := ints_at hc hp'
    refine ⟨b, off, rfl, ?_, fun j u hu => ?_⟩
    · have h0 := hc' 0 hp'
      exact World.block_lt_of_cell? _ _ h0
    · simp only [ints, List.getElem?_map, List.getElem?_take] at hu
      split at hu
      · by_cases hj : j < zs.length
        · rw [hc' j hj]
          simp only [List.getElem?_eq_getElem hj, Option.map_some, Option.some.injEq] at hu
          rw [← hu, List.getD_eq_getElem?_getD, List.getElem?_eq_getElem hj]
          rfl
        · rw [List.getElem?_eq_none (by omega)] at hu
          simp at hu
      · simp at hu

theorem points_walk (m : Int) (A : Option Addr) (n c : Nat) (zs : List Int) (w : World) (hz : IsRow .u8 w A n c zs) :
    Calls Try.prog 3 #[.int .i64 m, .slice A n c] w fun e w' => e = .returned (.bool true) ∧ Below w.heap.size w w' := by
  obtain ⟨hs, hl, hnc, hcm, hwf⟩ := hz.read
  have hc : (c : Int) ≤ 9223372036854775807 := by unfold maxLen at hcm; omega
  have key : Calls Try.prog 3 #[.int .i64 m, .slice A n c] w (SX.Ret fun v w' => v = .bool true ∧ SX.St w [] w' []) := by
    by_cases h6 : 600 < n
    · exact points_long m A n c w (by omega)
    have h6' : n ≤ 600 := by omega
    by_cases hv : vm m = true
    · have hm : m = 2 ∨ m = 4 ∨ m = 6 := by simp [vm] at hv; omega
      by_cases hr : (n : Int).tmod m = 0
      · obtain ⟨k, hk, hk3, rfl⟩ : ∃ k : Nat, 1 ≤ k ∧ k ≤ 3 ∧ m = ((2 * k : Nat) : Int) := by
          rcases hm with rfl | rfl | rfl
          · exact ⟨1, by omega, by omega, rfl⟩
          · exact ⟨2, by omega, by omega, rfl⟩
          · exact ⟨3, by omega, by omega, rfl⟩
        obtain ⟨q, hq⟩ : ∃ q, n = q * (2 * k) := by
          rw [Int.tmod_eq_emod_of_nonneg (by omega)] at hr
          have h1 : n % (2 * k) = 0 := by omega
          exact ⟨n / (2 * k), (Nat.div_mul_cancel (Nat.dvd_of_mod_eq_zero h1)).symm⟩
        by_cases hb : (zs.take n).any (fun x => decide (1 < x)) = true
        · exact points_bit A n c k q _ w hs hl hq hk hk3 h6' hb
        · refine points_ok A n c k q _ w hs hl hq hk hk3 h6' hnc hc fun b hbm => ?_
          have h1 := u8_of_wf (hwf b hbm)
          have h2 : ¬ 1 < b := fun h => hb (List.any_eq_true.2 ⟨b, hbm, by simpa using h⟩)
          omega
      · exact points_rem m A n c w hv hr h6'
    · exact points_arg m A n c w (by simpa using hv) h6'
  refine key.mono ?_
  rintro e w' ⟨v, rfl, rfl, h⟩
  exact ⟨rfl, h.below⟩

set_option maxRecDepth 100000 in
theorem points_lifted (os : Os) (started : os.Started) (H : Type) (enc : TypeId × Value → H) :
    ReturnsInHanded {} Try.checked os 3 .any (Rows.qamPointsSpec.pre6 enc Try.prog Try.f3 Rows.qamPointsRow.domain false) (Rows.qamPointsSpec.post enc Try.prog Try.f3 false true false false) := by
  refine returnsInHanded_of_change (C := Try.checked) pown started (by kernel_rfl) Try.func3
    (ChangeSpec.witness6 (enc := enc) (C := Try.checked) false ⟨#[], #[.int .i64 0, .slice none 0 0], []⟩ 8 (by kernel_rfl) (by kernel_rfl) (by kernel_rfl) (by kernel_rfl)) ?_
  intro W base args ds gs before hval0 hW hcnd _
  have hval : ∀ (j : Nat) t v, Try.f3.params[j]? = some t → args[j]? = some v → Value.okWide Try.prog W .any base t v := hval0
  have hW' := hW
  obtain ⟨p, q, hA0, hV, rfl, hfz, hnd⟩ := hW
  have hA : DataW.TrodAll enc Try.prog W 0 (fun _ => true) true Try.f3.params.toList args.toList ds p := hA0
  rw [Try.params3] at hA hval
  obtain ⟨v0, vs0, d0, ds0, p0, q0, hargs, rfl, rfl, h0, r0⟩ := trodAll_cons hA
  obtain ⟨v1, vs1, d1, ds1, p1, q1, rfl, rfl, rfl, h1, r1⟩ := trodAll_cons r0
  obtain ⟨rfl, rfl, rfl⟩ := trodAll_nil r1
  obtain rfl : args = #[v0, v1] := by cases args; simp_all
  obtain ⟨rfl, rfl⟩ := trodVars_none hV
  obtain ⟨a0, rfl, rfl, rfl, w0⟩ := open_int Try.underlying22 (hval 0 22 v0 rfl rfl) h0
  obtain ⟨a1, len1, cap1, rfl⟩ := okWide_slice Try.underlying23 (hval 1 23 v1 rfl rfl)
  have k1 := h1
  have lt1 : ∀ x ∈ p1, x.block < W.heap.size := by obtain ⟨m, hm⟩ := k1; exact DataW.trod_lt m _ _ _ hm
  obtain ⟨z1, w1⟩ : ∃ zs, IsRow .u8 W a1 len1 cap1 zs := by
    obtain ⟨fuel, hf⟩ := h1
    rcases open_ints Try.underlying23 Try.underlying5 (by kernel_rfl) hf with ⟨hcs, _⟩ | ⟨x, l, c, zs, hcs, _, hl, hm, hz, _, hcell, hwz⟩
    · simp [Value.cells] at hcs
      obtain ⟨rfl, rfl, rfl⟩ := hcs
      exact ⟨[], .inl ⟨rfl, rfl, rfl, rfl⟩⟩
    · simp [Value.cells] at hcs
      obtain ⟨rfl, rfl, rfl⟩ := hcs
      exact ⟨zs, .inr ⟨_, rfl, hl, hm, by simpa using hz, hcell, hwz⟩⟩
  clear hA0 hval0
  refine (points_walk a0 a1 len1 cap1 z1 W w1).mono fun e W' ⟨he, bel⟩ => ?_
  subst he
  exact ⟨_, rfl, _, _, _, [], _, [], hW', trodAll_mk1 (shut_bool Try.underlying4 _), (trodAll_cons_mk (shut_int Try.underlying22 w0) (trodAll_cons_mk (Below.trod plaidOut (by kernel_rfl) (of_decide_eq_true (by kernel_rfl)) k1 bel lt1) trodAll_mk0)), rfl, bel.frame _, fun h => by cases h⟩

theorem qamPoints_holds : Rows.QamPointsSaid :=
  OpenClaim.holds_of_wide 3 Try.f3 rfl rfl rfl rfl rfl rfl rfl ⟨rfl, rfl, rfl, rfl, rfl⟩ rfl rfl rfl rfl rfl (by kernel_rfl) Try.func3 (by kernel_rfl)
    (of_decide_eq_true (by kernel_rfl)) (by unfold Func.isWrapper; first | (rw [if_pos (by decide +kernel)]; kernel_rfl) | (rw [if_neg (by decide +kernel)]; exact ⟨rfl, rfl⟩))
    (fun os started H enc _ => points_lifted os started H enc)
end Go.Proofs.Ythncbdoiilgnhaa
