/- The law's valid. -/
import Derived.Test.YteabcdmgklhijaaFp
namespace Go.Proofs.Yteabcdmgklhijaa
open Go.RowKit
set_option linter.unusedSimpArgs false
set_option linter.unusedVariables false

def vw (f : Int × Int) : Nat := (f.2 % 18446744073709551616 % 65).toNat
def vv (f : Int × Int) : Int := if vw f < 64 then f.1 % 2 ^ vw f else f.1
/-- a field made to fit -/
def vf (f : Int × Int) : Int × Int := (vv f, (vw f : Int))
theorem vw_lt (f : Int × Int) : vw f < 65 := by unfold vw; omega
theorem vv_bd {f : Int × Int} (h : GoodF f) : 0 ≤ vv f ∧ vv f < 18446744073709551616 := by
  have h1 := h.1
  have h2 := h.2.1
  unfold vv
  split
  · have hp : (0 : Int) < 2 ^ vw f := Int.pow_pos (by decide)
    have h3 := Int.emod_nonneg f.1 (Int.ne_of_gt hp)
    have h4 : f.1 % 2 ^ vw f ≤ f.1 := by
      have h5 := Int.emod_add_mul_ediv f.1 (2 ^ vw f)
      have h6 := Int.mul_nonneg (Int.le_of_lt hp) (Int.ediv_nonneg h1 (Int.le_of_lt hp))
      omega
    omega
  · exact ⟨h1, h2⟩
theorem vf_good {f : Int × Int} (h : GoodF f) : GoodF (vf f) := by
  have h1 := vv_bd h
  have h2 := vw_lt f
  exact ⟨h1.1, h1.2, by show _ ≤ (vw f : Int); omega, by show (vw f : Int) ≤ _; omega⟩
theorem vf_chk {f : Int × Int} (h : GoodF f) : chkF (vf f) = 0 := by
  have h1 := vv_bd h
  have h2 := vw_lt f
  unfold chkF
  rw [if_neg (by show ¬ ((vw f : Int) < 0 ∨ 64 < (vw f : Int)); omega)]
  have hq : quoF (vf f) = 0 := by
    show (vv f).toNat / 2 ^ (vw f : Int).toNat = 0
    rw [Int.toNat_natCast]
    apply Nat.div_eq_of_lt
    by_cases h64 : vw f < 64
    · have e : vv f = f.1 % 2 ^ vw f := by unfold vv; rw [if_pos h64]
      have hp : (0 : Int) < 2 ^ vw f := Int.pow_pos (by decide)
      have h3 := Int.emod_lt_of_pos f.1 hp
      have e2 : ((2 ^ vw f : Nat) : Int) = (2 : Int) ^ vw f := by push_cast; rfl
      rw [e] at h1 ⊢
      omega
    · have h5 : vw f = 64 := by omega
      rw [h5]
      have : (2 : Nat) ^ 64 = 18446744073709551616 := by decide
      omega
  rw [if_pos hq]
theorem vfs_chk : ∀ {fs : List (Int × Int)}, (∀ f ∈ fs, GoodF f) → chkA (fs.map vf) = 0
  | [], _ => rfl
  | f :: fs, h => by
    simp only [List.map_cons, chkA]
    rw [if_pos (vf_chk (h f (by simp)))]
    exact vfs_chk fun g hg => h g (by simp [hg])
theorem vfs_good {fs : List (Int × Int)} (h : ∀ f ∈ fs, GoodF f) : ∀ f ∈ fs.map vf, GoodF f := by
  intro f hf
  obtain ⟨g, hg, rfl⟩ := List.mem_map.1 hf
  exact vf_good (h g hg)

theorem wrap65 (f : Int × Int) : IntKind.u64.wrap f.2 = f.2 % 18446744073709551616 := by
  unfold IntKind.wrap
  simp [IntKind.bits, IntKind.signed]
theorem shl_w {w : Nat} (h : w < 64) : IntKind.u64.wrap (1 * 2 ^ (min (w : Int).toNat IntKind.u64.bits)) = 2 ^ w := by
  have e : min (w : Int).toNat IntKind.u64.bits = w := by
    have : IntKind.u64.bits = 64 := rfl
    omega
  rw [e, Int.one_mul]
  have h1 : (2 : Nat) ^ w ≤ 2 ^ 63 := Nat.pow_le_pow_right (by decide) (by omega)
  have h2 : (2 : Nat) ^ 63 = 9223372036854775808 := by decide
  have h3 : ((2 ^ w : Nat) : Int) = (2 : Int) ^ w := by push_cast; rfl
  rw [← h3]
  generalize (2 : Nat) ^ w = q at *
  exact Z.wu64 (by omega)
theorem rem65 (f : Int × Int) : (f.2 % 18446744073709551616).tmod 65 = (vw f : Int) := by
  rw [Z.tmodn (by omega)]
  unfold vw
  omega
theorem rem_w {v : Int} {w : Nat} (h : 0 ≤ v) : v.tmod (2 ^ w) = v % 2 ^ w := Int.tmod_eq_emod_of_nonneg h

end Go.Proofs.Yteabcdmgklhijaa
