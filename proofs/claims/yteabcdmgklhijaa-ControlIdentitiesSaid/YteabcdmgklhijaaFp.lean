/- The reader: GetAll, GetBytes. -/
import Derived.Test.YteabcdmgklhijaaFo
namespace Go.Proofs.Yteabcdmgklhijaa
open Go.RowKit
set_option linter.unusedSimpArgs false
set_option linter.unusedVariables false

theorem gs8 {l : List Int} : ∀ (n : Nat) {a : Nat}, a + 8 * n ≤ 8 * l.length → gsE l a (List.replicate n 8) = 0 ∧ gsA l a (List.replicate n 8) = a + 8 * n
  | 0, a, _ => ⟨rfl, rfl⟩
  | n + 1, a, h => by
    have h1 : getE l a 8 = 0 := getE_ok (l := l) (a := a) (n := 8) (by omega) (by decide)
    have h2 : getA l a 8 = a + 8 := by unfold getA; rw [if_pos h1]; rfl
    obtain ⟨h3, h4⟩ := gs8 (l := l) n (a := a + 8) (by omega)
    refine ⟨?_, ?_⟩
    · simp only [List.replicate_succ, gsE]
      rw [if_pos h1, h2, h3]
    · have e : gsA l a (List.replicate (n + 1) 8) = gsA l (getA l a 8) (List.replicate n 8) := rfl
      rw [e, h2, h4]
      omega
def gbE (l : List Int) (a : Nat) (n : Int) : Int := if n < 0 then 2 else if ((8 * l.length : Int) - a) / 8 < n then 5 else 0
def gbV (l : List Int) (a : Nat) (n : Int) : List Int := if gbE l a n = 0 then gsV l a (List.replicate n.toNat 8) else []
def gbA (l : List Int) (a : Nat) (n : Int) : Nat := if gbE l a n = 0 then a + 8 * n.toNat else a

end Go.Proofs.Yteabcdmgklhijaa
