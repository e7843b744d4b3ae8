import Derived.Test.YahabwOut
import Derived.Test.YahabwImplDep
set_option linter.unusedVariables false
set_option linter.unusedSimpArgs false
namespace Go.Proofs.Yahabw
open Go.RowKit

def stkS (args : List Int) (c x : Int) (st : List Int) : List Int :=
  if c = 0 then st ++ [x]
  else if c = 1 then st ++ [argF args x]
  else if c = 2 then st.take (st.length - 2) ++ [wrap64 (st.getD (st.length - 2) 0 + st.getD (st.length - 1) 0)]
  else if c = 3 then st.take (st.length - 2) ++ [wrap64 (st.getD (st.length - 2) 0 - st.getD (st.length - 1) 0)]
  else if c = 4 then st.take (st.length - 2) ++ [wrap64 (st.getD (st.length - 2) 0 * st.getD (st.length - 1) 0)]
  else if c = 5 then st ++ [st.getD (st.length - 1) 0]
  else if c = 6 then st ++ [st.getD (st.length - 2) 0]
  else if c = 7 then st.take (st.length - 1)
  else if c = 8 then st.take (st.length - 2) ++ [st.getD (st.length - 1) 0, st.getD (st.length - 2) 0]
  else if c = 10 then st.take (st.length - 1)
  else st
def nxtS (c x : Int) (pc : Nat) (st : List Int) : Nat :=
  if c = 9 then x.toNat else if c = 10 ∧ st.getD (st.length - 1) 0 = 0 then x.toNat else pc + 1

theorem stkS_0 (args : List Int) (x : Int) (st : List Int) : stkS args 0 x st = st ++ [x] := by simp [stkS]
theorem stkS_1 (args : List Int) (x : Int) (st : List Int) : stkS args 1 x st = st ++ [argF args x] := by simp [stkS]
theorem stkS_2 (args : List Int) (x a b : Int) (r : List Int) : stkS args 2 x (r ++ [a, b]) = r ++ [wrap64 (a + b)] := by simp [stkS, List.getElem?_append]
theorem stkS_3 (args : List Int) (x a b : Int) (r : List Int) : stkS args 3 x (r ++ [a, b]) = r ++ [wrap64 (a - b)] := by simp [stkS, List.getElem?_append]
theorem stkS_4 (args : List Int) (x a b : Int) (r : List Int) : stkS args 4 x (r ++ [a, b]) = r ++ [wrap64 (a * b)] := by simp [stkS, List.getElem?_append]
theorem stkS_5 (args : List Int) (x a : Int) (r : List Int) : stkS args 5 x (r ++ [a]) = r ++ [a, a] := by simp [stkS, List.getElem?_append]
theorem stkS_6 (args : List Int) (x a b : Int) (r : List Int) : stkS args 6 x (r ++ [a, b]) = r ++ [a, b, a] := by simp [stkS, List.getElem?_append]
theorem stkS_7 (args : List Int) (x a : Int) (r : List Int) : stkS args 7 x (r ++ [a]) = r := by simp [stkS]
theorem stkS_8 (args : List Int) (x a b : Int) (r : List Int) : stkS args 8 x (r ++ [a, b]) = r ++ [b, a] := by simp [stkS, List.getElem?_append]
theorem stkS_9 (args : List Int) (x : Int) (st : List Int) : stkS args 9 x st = st := by simp [stkS]
theorem stkS_10 (args : List Int) (x a : Int) (r : List Int) : stkS args 10 x (r ++ [a]) = r := by simp [stkS]
theorem nxtS_9 (x : Int) (pc : Nat) (st : List Int) : nxtS 9 x pc st = x.toNat := by simp [nxtS]
theorem nxtS_10 (x : Int) (pc : Nat) (r : List Int) (a : Int) : nxtS 10 x pc (r ++ [a]) = if a = 0 then x.toNat else pc + 1 := by simp [nxtS]
theorem nxtS_other (c x : Int) (pc : Nat) (st : List Int) (h9 : c ≠ 9) (h10 : c ≠ 10) : nxtS c x pc st = pc + 1 := by simp [nxtS, h9, h10]

theorem top1 {st : List Int} (h : 1 ≤ st.length) : ∃ r a, st = r ++ [a] := by
  rcases List.eq_nil_or_concat st with rfl | ⟨r, a, rfl⟩
  · simp at h
  · exact ⟨r, a, by simp⟩
theorem top2 {st : List Int} (h : 2 ≤ st.length) : ∃ r a b, st = r ++ [a, b] := by
  obtain ⟨r, b, rfl⟩ := top1 (st := st) (by omega)
  obtain ⟨r2, a, rfl⟩ := top1 (st := r) (by simp at h; omega)
  exact ⟨r2, a, b, by simp⟩

theorem stkS_len (args : List Int) (c x : Int) (st : List Int) : (stkS args c x st).length ≤ st.length + 1 ∨ needsF c < 0 ∨ (st.length : Int) < needsF c := by
  unfold stkS
  split
  · left; simp
  split
  · left; simp
  split
  · left; simp
  split
  · left; simp
  split
  · left; simp
  split
  · left; simp
  split
  · left; simp
  split
  · left; simp; omega
  split
  · rename_i h
    subst h
    by_cases hl : 2 ≤ st.length
    · left; simp; omega
    · right; right; simp [needsF]; omega
  split
  · left; simp; omega
  · left; omega

/-- What the stack machine answers: status, values, steps. -/
def runS (p : List (Int × Int)) (args : List Int) : Nat → Nat → List Int → Int × List Int × Int
  | 0, pc, st => match p[pc]? with
    | none => (0, st, 20000)
    | some o => if o.1 = 11 then (0, st, 20000) else (1, [], 20000)
  | f + 1, pc, st => match p[pc]? with
    | none => (0, st, 20000 - ((f + 1 : Nat) : Int))
    | some o => if o.1 = 11 then (0, st, 20000 - ((f + 1 : Nat) : Int))
      else if needsF o.1 < 0 ∨ (st.length : Int) < needsF o.1 ∨ ((o.1 = 9 ∨ o.1 = 10) ∧ (o.2 < 0 ∨ (p.length : Int) < o.2)) then (2, [], 20000 - ((f + 1 : Nat) : Int))
      else runS p args f (nxtS o.1 o.2 pc st) (stkS args o.1 o.2 st)

theorem runS_end (p : List (Int × Int)) (args st : List Int) (k : Nat) (hk : k ≤ 20000) : runS p args (20000 - k) p.length st = (0, st, (k : Int)) := by
  rcases hf : 20000 - k with _ | f
  · have : k = 20000 := by omega
    subst this
    simp [runS]
  · simp [runS]
    omega
theorem runS_halt (p : List (Int × Int)) (args st : List Int) (k pc : Nat) (c x : Int) (hk : k ≤ 20000) (hp : p[pc]? = some (c, x)) (hc : c = 11) : runS p args (20000 - k) pc st = (0, st, (k : Int)) := by
  rcases hf : 20000 - k with _ | f
  · have : k = 20000 := by omega
    subst this
    simp [runS, hp, hc]
  · simp [runS, hp, hc]
    omega
theorem runS_fuel (p : List (Int × Int)) (args st : List Int) (pc : Nat) (c x : Int) (hp : p[pc]? = some (c, x)) (hc : c ≠ 11) : runS p args (20000 - 20000) pc st = (1, [], 20000) := by
  simp [runS, hp, hc]
theorem runS_fault (p : List (Int × Int)) (args st : List Int) (k pc : Nat) (c x : Int) (hk : k < 20000) (hp : p[pc]? = some (c, x)) (hc : c ≠ 11)
    (h : needsF c < 0 ∨ (st.length : Int) < needsF c ∨ ((c = 9 ∨ c = 10) ∧ (x < 0 ∨ (p.length : Int) < x))) : runS p args (20000 - k) pc st = (2, [], (k : Int)) := by
  obtain ⟨f, hf⟩ : ∃ f, 20000 - k = f + 1 := ⟨20000 - k - 1, by omega⟩
  rw [hf]
  have e : (20000 : Int) - ((f + 1 : Nat) : Int) = (k : Int) := by omega
  simp only [runS, hp, if_neg hc, if_pos h, e]
theorem runS_step (p : List (Int × Int)) (args st : List Int) (k pc : Nat) (c x : Int) (hk : k < 20000) (hp : p[pc]? = some (c, x)) (hc : c ≠ 11)
    (h : ¬ (needsF c < 0 ∨ (st.length : Int) < needsF c ∨ ((c = 9 ∨ c = 10) ∧ (x < 0 ∨ (p.length : Int) < x)))) : runS p args (20000 - k) pc st = runS p args (20000 - (k + 1)) (nxtS c x pc st) (stkS args c x st) := by
  obtain ⟨f, hf⟩ : ∃ f, 20000 - k = f + 1 := ⟨20000 - k - 1, by omega⟩
  rw [hf]
  have e : 20000 - (k + 1) = f := by omega
  rw [e]
  simp only [runS, hp, if_neg hc, if_neg h]

def ShapeR (R : Int × List Int × Int) : Prop := (R.1 = 0 ∧ 0 ≤ R.2.2 ∧ R.2.2 ≤ 20000) ∨ (R.1 = 1 ∧ R.2.2 = 20000 ∧ R.2.1.length = 0) ∨ (R.1 = 2 ∧ 0 ≤ R.2.2 ∧ R.2.2 ≤ 20000 ∧ R.2.1.length = 0)

theorem runS_shape (p : List (Int × Int)) (args : List Int) : ∀ (f pc : Nat) (st : List Int), f ≤ 20000 → ShapeR (runS p args f pc st)
  | 0, pc, st, _ => by
    unfold runS
    split
    · exact .inl ⟨rfl, by simp, by simp⟩
    · split
      · exact .inl ⟨rfl, by simp, by simp⟩
      · exact .inr (.inl ⟨rfl, rfl, rfl⟩)
  | f + 1, pc, st, h => by
    unfold runS
    split
    · exact .inl ⟨rfl, by simp only; omega, by simp only; omega⟩
    · split
      · exact .inl ⟨rfl, by simp only; omega, by simp only; omega⟩
      · split
        · exact .inr (.inr ⟨rfl, by simp only; omega, by simp only; omega, rfl⟩)
        · exact runS_shape p args f _ _ (by omega)

theorem runS_len (p : List (Int × Int)) (args : List Int) : ∀ (f pc : Nat) (st : List Int), (runS p args f pc st).2.1.length ≤ st.length + f
  | 0, pc, st => by
    unfold runS
    split
    · simp
    · split <;> simp
  | f + 1, pc, st => by
    unfold runS
    split
    · simp
    · split
      · simp
      · split
        · simp
        · rename_i o _ _ hb
          have h1 := runS_len p args f (nxtS o.1 o.2 pc st) (stkS args o.1 o.2 st)
          have h2 := stkS_len args o.1 o.2 st
          omega

/-- What a machine hands back. -/
def RunPost (R : Int × List Int × Int) (w : World) (e : Ending) (w' : World) : Prop :=
  ∃ a c, e = .returned (.agg #[.int .i64 R.1, .slice a R.2.1.length c, .int .i64 R.2.2]) ∧ w'.ownsRow w.heap.size 2 1 (.slice a R.2.1.length c) R.2.1.length (ints R.2.1) ∧ Below w.heap.size w w'

theorem needs_cases {c : Int} (h : ¬ needsF c < 0) (h11 : c ≠ 11) : c = 0 ∨ c = 1 ∨ c = 2 ∨ c = 3 ∨ c = 4 ∨ c = 5 ∨ c = 6 ∨ c = 7 ∨ c = 8 ∨ c = 9 ∨ c = 10 := by
  unfold needsF at h
  repeat' split at h
  all_goals omega
end Go.Proofs.Yahabw
