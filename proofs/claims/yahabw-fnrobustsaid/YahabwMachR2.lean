import Derived.Test.YahabwMachR
set_option linter.unusedVariables false
set_option linter.unusedSimpArgs false
namespace Go.Proofs.Yahabw
open Go.RowKit

def inN (x : Int) (N : Nat) : Bool := decide (0 ≤ x ∧ x < (N : Int))
theorem badR_0 (n N : Nat) (r a b x : Int) : badR n N ⟨0, r, a, b, x⟩ = !inN r N := by simp [badR, usesK, usesR, usesA, usesB, inN]
theorem badR_1 (n N : Nat) (r a b x : Int) : badR n N ⟨1, r, a, b, x⟩ = !inN r N := by simp [badR, usesK, usesR, usesA, usesB, inN]
theorem badR_2 (n N : Nat) (r a b x : Int) : badR n N ⟨2, r, a, b, x⟩ = (!inN r N || !inN a N || !inN b N) := by simp [badR, usesK, usesR, usesA, usesB, inN]
theorem badR_3 (n N : Nat) (r a b x : Int) : badR n N ⟨3, r, a, b, x⟩ = (!inN r N || !inN a N || !inN b N) := by simp [badR, usesK, usesR, usesA, usesB, inN]
theorem badR_4 (n N : Nat) (r a b x : Int) : badR n N ⟨4, r, a, b, x⟩ = (!inN r N || !inN a N || !inN b N) := by simp [badR, usesK, usesR, usesA, usesB, inN]
theorem badR_5 (n N : Nat) (r a b x : Int) : badR n N ⟨5, r, a, b, x⟩ = (!inN r N || !inN a N) := by simp [badR, usesK, usesR, usesA, usesB, inN]
theorem badR_6 (n N : Nat) (r a b x : Int) : badR n N ⟨6, r, a, b, x⟩ = (!inN a N || !inN b N) := by simp [badR, usesK, usesR, usesA, usesB, inN]
theorem badR_7 (n N : Nat) (r a b x : Int) : badR n N ⟨7, r, a, b, x⟩ = false := by simp [badR, usesK, usesR, usesA, usesB]
theorem badR_8 (n N : Nat) (r a b x : Int) : badR n N ⟨8, r, a, b, x⟩ = (decide (x < 0) || decide ((n : Int) < x)) := by simp [badR, usesK, usesR, usesA, usesB]
theorem badR_9 (n N : Nat) (r a b x : Int) : badR n N ⟨9, r, a, b, x⟩ = (!inN a N || decide (x < 0) || decide ((n : Int) < x)) := by simp [badR, usesK, usesR, usesA, usesB, inN, Bool.or_assoc]
theorem badR_other (n N : Nat) (c r a b x : Int) (h : ¬ (0 ≤ c ∧ c ≤ 9)) : badR n N ⟨c, r, a, b, x⟩ = true := by
  have : usesK c = false := by simp [usesK]; omega
  simp [badR, this]
end Go.Proofs.Yahabw
