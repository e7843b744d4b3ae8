import Derived.Test.YahabwMach
set_option linter.unusedVariables false
set_option linter.unusedSimpArgs false
namespace Go.Proofs.Yahabw
open Go.RowKit

def regR (args : List Int) (o : R5) (z : List Int) : List Int :=
  if o.op = 0 then z.set o.r.toNat o.k
  else if o.op = 1 then z.set o.r.toNat (argF args o.k)
  else if o.op = 2 then z.set o.r.toNat (wrap64 (z.getD o.a.toNat 0 + z.getD o.b.toNat 0))
  else if o.op = 3 then z.set o.r.toNat (wrap64 (z.getD o.a.toNat 0 - z.getD o.b.toNat 0))
  else if o.op = 4 then z.set o.r.toNat (wrap64 (z.getD o.a.toNat 0 * z.getD o.b.toNat 0))
  else if o.op = 5 then z.set o.r.toNat (z.getD o.a.toNat 0)
  else if o.op = 6 then (z.set o.a.toNat (z.getD o.b.toNat 0)).set o.b.toNat (z.getD o.a.toNat 0)
  else z
def nxtR (o : R5) (pc : Nat) (z : List Int) : Nat :=
  if o.op = 8 then o.k.toNat else if o.op = 9 ∧ z.getD o.a.toNat 0 = 0 then o.k.toNat else pc + 1
def badR (n : Nat) (N : Nat) (o : R5) : Bool :=
  !usesK o.op || (usesR o.op && !decide (0 ≤ o.r ∧ o.r < (N : Int))) || (usesA o.op && !decide (0 ≤ o.a ∧ o.a < (N : Int))) || (usesB o.op && !decide (0 ≤ o.b ∧ o.b < (N : Int))) ||
    (decide (o.op = 8 ∨ o.op = 9) && decide (o.k < 0 ∨ (n : Int) < o.k))

theorem regR_len (args : List Int) (o : R5) (z : List Int) : (regR args o z).length = z.length := by
  unfold regR
  repeat' split
  all_goals simp

/-- What the register machine answers: status, values, steps. -/
def runR (p : List R5) (N : Nat) (args : List Int) : Nat → Nat → List Int → Int × List Int × Int
  | 0, pc, z => match p[pc]? with
    | none => (0, [], 20000)
    | some o => if o.op = 10 then (if o.a < 0 ∨ (N : Int) < o.a then (2, [], 20000) else (0, z.take o.a.toNat, 20000)) else (1, [], 20000)
  | f + 1, pc, z => match p[pc]? with
    | none => (0, [], 20000 - ((f + 1 : Nat) : Int))
    | some o => if o.op = 10 then (if o.a < 0 ∨ (N : Int) < o.a then (2, [], 20000 - ((f + 1 : Nat) : Int)) else (0, z.take o.a.toNat, 20000 - ((f + 1 : Nat) : Int)))
      else if badR p.length N o = true then (2, [], 20000 - ((f + 1 : Nat) : Int))
      else runR p N args f (nxtR o pc z) (regR args o z)

theorem runR_end (p : List R5) (N : Nat) (args z : List Int) (k : Nat) (hk : k ≤ 20000) : runR p N args (20000 - k) p.length z = (0, [], (k : Int)) := by
  rcases hf : 20000 - k with _ | f
  · have : k = 20000 := by omega
    subst this
    simp [runR]
  · simp [runR]
    omega
theorem runR_halt (p : List R5) (N : Nat) (args z : List Int) (k pc : Nat) (o : R5) (hk : k ≤ 20000) (hp : p[pc]? = some o) (hc : o.op = 10) (ha : 0 ≤ o.a) (ha2 : o.a ≤ N) : runR p N args (20000 - k) pc z = (0, z.take o.a.toNat, (k : Int)) := by
  have h : ¬ (o.a < 0 ∨ (N : Int) < o.a) := by omega
  rcases hf : 20000 - k with _ | f
  · have : k = 20000 := by omega
    subst this
    simp only [runR, hp, if_pos hc, if_neg h]; rfl
  · have e : (20000 : Int) - ((f + 1 : Nat) : Int) = (k : Int) := by omega
    simp only [runR, hp, if_pos hc, if_neg h, e]
theorem runR_haltbad (p : List R5) (N : Nat) (args z : List Int) (k pc : Nat) (o : R5) (hk : k ≤ 20000) (hp : p[pc]? = some o) (hc : o.op = 10) (h : o.a < 0 ∨ (N : Int) < o.a) : runR p N args (20000 - k) pc z = (2, [], (k : Int)) := by
  rcases hf : 20000 - k with _ | f
  · have : k = 20000 := by omega
    subst this
    simp only [runR, hp, if_pos hc, if_pos h]; rfl
  · have e : (20000 : Int) - ((f + 1 : Nat) : Int) = (k : Int) := by omega
    simp only [runR, hp, if_pos hc, if_pos h, e]
theorem runR_fuel (p : List R5) (N : Nat) (args z : List Int) (pc : Nat) (o : R5) (hp : p[pc]? = some o) (hc : o.op ≠ 10) : runR p N args (20000 - 20000) pc z = (1, [], 20000) := by
  simp [runR, hp, hc]
theorem runR_fault (p : List R5) (N : Nat) (args z : List Int) (k pc : Nat) (o : R5) (hk : k < 20000) (hp : p[pc]? = some o) (hc : o.op ≠ 10) (h : badR p.length N o = true) : runR p N args (20000 - k) pc z = (2, [], (k : Int)) := by
  obtain ⟨f, hf⟩ : ∃ f, 20000 - k = f + 1 := ⟨20000 - k - 1, by omega⟩
  rw [hf]
  have e : (20000 : Int) - ((f + 1 : Nat) : Int) = (k : Int) := by omega
  simp only [runR, hp, if_neg hc, if_pos h, e]
theorem runR_step (p : List R5) (N : Nat) (args z : List Int) (k pc : Nat) (o : R5) (hk : k < 20000) (hp : p[pc]? = some o) (hc : o.op ≠ 10) (h : badR p.length N o = false) :
    runR p N args (20000 - k) pc z = runR p N args (20000 - (k + 1)) (nxtR o pc z) (regR args o z) := by
  obtain ⟨f, hf⟩ : ∃ f, 20000 - k = f + 1 := ⟨20000 - k - 1, by omega⟩
  rw [hf]
  have e : 20000 - (k + 1) = f := by omega
  have h' : ¬ badR p.length N o = true := by simp [h]
  rw [e]
  simp only [runR, hp, if_neg hc, if_neg h']

theorem runR_shape (p : List R5) (N : Nat) (args : List Int) : ∀ (f pc : Nat) (z : List Int), f ≤ 20000 → ShapeR (runR p N args f pc z)
  | 0, pc, z, _ => by
    unfold runR
    split
    · exact .inl ⟨rfl, by simp, by simp⟩
    · split
      · split
        · exact .inr (.inr ⟨rfl, by simp, by simp, rfl⟩)
        · exact .inl ⟨rfl, by simp, by simp⟩
      · exact .inr (.inl ⟨rfl, rfl, rfl⟩)
  | f + 1, pc, z, h => by
    unfold runR
    split
    · exact .inl ⟨rfl, by simp only; omega, by simp only; omega⟩
    · split
      · split
        · exact .inr (.inr ⟨rfl, by simp only; omega, by simp only; omega, rfl⟩)
        · exact .inl ⟨rfl, by simp only; omega, by simp only; omega⟩
      · split
        · exact .inr (.inr ⟨rfl, by simp only; omega, by simp only; omega, rfl⟩)
        · exact runR_shape p N args f _ _ (by omega)

theorem runR_len (p : List R5) (N : Nat) (args : List Int) : ∀ (f pc : Nat) (z : List Int), (runR p N args f pc z).2.1.length ≤ z.length
  | 0, pc, z => by
    unfold runR
    split
    · simp
    · split
      · split <;> simp <;> omega
      · simp
  | f + 1, pc, z => by
    unfold runR
    split
    · simp
    · split
      · split <;> simp <;> omega
      · split
        · simp
        · rename_i o _ _ _
          have h1 := runR_len p N args f (nxtR o pc z) (regR args o z)
          rw [regR_len] at h1
          exact h1

/-- The whole of 'RunReg'. -/
def runReg (p : List R5) (nregs : Int) (args : List Int) : Int × List Int × Int :=
  if nregs < 0 ∨ 65536 < nregs then (2, [], 0) else runR p nregs.toNat args 20000 0 (List.replicate nregs.toNat 0)
theorem runReg_shape (p : List R5) (nregs : Int) (args : List Int) : ShapeR (runReg p nregs args) := by
  unfold runReg
  split
  · exact .inr (.inr ⟨rfl, by simp, by simp, rfl⟩)
  · exact runR_shape _ _ _ _ _ _ (by omega)
theorem runReg_len (p : List R5) (nregs : Int) (args : List Int) : (runReg p nregs args).2.1.length ≤ 65536 := by
  unfold runReg
  split
  · simp
  · have := runR_len p nregs.toNat args 20000 0 (List.replicate nregs.toNat 0)
    simp only [List.length_replicate] at this
    omega
end Go.Proofs.Yahabw
