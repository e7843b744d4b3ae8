import Derived.Test.YahabwBase
set_option linter.unusedVariables false
set_option linter.unusedSimpArgs false
namespace Go.Proofs.Yahabw
open Go.RowKit

def needsF (c : Int) : Int :=
  if c = 0 ∨ c = 1 ∨ c = 9 ∨ c = 11 then 0 else if c = 5 ∨ c = 7 ∨ c = 10 then 1 else if c = 2 ∨ c = 3 ∨ c = 4 ∨ c = 6 ∨ c = 8 then 2 else -1
def deltaF (c : Int) : Int :=
  if c = 0 ∨ c = 1 ∨ c = 5 ∨ c = 6 then 1 else if c = 2 ∨ c = 3 ∨ c = 4 ∨ c = 7 ∨ c = 10 then -1 else 0

theorem needs_any (c : Int) (w : World) :
    Calls Yabv.prog 23 #[.int .i64 c] w fun e w' => e = .returned (.int .i64 (needsF c)) ∧ w' = w := by
  go_enter Yabv.func23, Yabv.ntmps23
  go_wp2
  all_goals go_ret
  all_goals exact ⟨ret_int (by simp_all [needsF]), rfl⟩

theorem delta_any (c : Int) (w : World) :
    Calls Yabv.prog 43 #[.int .i64 c] w fun e w' => e = .returned (.int .i64 (deltaF c)) ∧ w' = w := by
  go_enter Yabv.func43, Yabv.ntmps43
  go_wp2
  all_goals go_ret
  all_goals exact ⟨ret_int (by simp_all [deltaF]), rfl⟩

theorem ret_int2 {k : IntKind} {a b c d : Int} (h : a = b) (h2 : c = d) : Ending.returned (.tuple #[.int k a, .int k c]) = .returned (.tuple #[.int k b, .int k d]) := by rw [h, h2]

theorem effect_any (c : Int) (w : World) :
    Calls Yabv.prog 67 #[.int .i64 c] w fun e w' => e = .returned (.tuple #[.int .i64 (needsF c), .int .i64 (deltaF c)]) ∧ w' = w := by
  go_enter Yabv.func67, Yabv.ntmps67
  go_wp2
  all_goals go_ret2
  all_goals exact ⟨ret_int2 (by simp_all [needsF]) (by simp_all [deltaF]), rfl⟩

def usesR (c : Int) : Bool := decide (0 ≤ c ∧ c ≤ 5)
def usesA (c : Int) : Bool := decide (2 ≤ c ∧ c ≤ 6 ∨ c = 9)
def usesB (c : Int) : Bool := decide (2 ≤ c ∧ c ≤ 4 ∨ c = 6)
def usesK (c : Int) : Bool := decide (0 ≤ c ∧ c ≤ 9)

theorem ret_b4 {a b c d a' b' c' d' : Bool} (h1 : a = a') (h2 : b = b') (h3 : c = c') (h4 : d = d') : Ending.returned (.tuple #[.bool a, .bool b, .bool c, .bool d]) = .returned (.tuple #[.bool a', .bool b', .bool c', .bool d']) := by rw [h1, h2, h3, h4]

theorem uses_any (c : Int) (w : World) :
    Calls Yabv.prog 55 #[.int .i64 c] w fun e w' => e = .returned (.tuple #[.bool (usesR c), .bool (usesA c), .bool (usesB c), .bool (usesK c)]) ∧ w' = w := by
  go_enter Yabv.func55, Yabv.ntmps55
  go_wp2
  all_goals (try simp only [Exit.inBlock, Exit.then])
  all_goals refine bodyPost_ret (by simp [results, Yabv.results55, go_sem]; rfl) rfl ?_
  all_goals refine ⟨ret_b4 ?_ ?_ ?_ ?_, rfl⟩
  all_goals simp only [usesR, usesA, usesB, usesK]
  all_goals simp_all <;> omega

theorem inReg_any (x n : Int) (w : World) :
    Calls Yabv.prog 26 #[.int .i64 x, .int .i64 n] w fun e w' => e = .returned (.bool (decide (0 ≤ x ∧ x < n))) ∧ w' = w := by
  by_cases h : 0 ≤ x
  · go_enter Yabv.func26, Yabv.ntmps26
    go_wp2
    all_goals go_ret
    all_goals exact ⟨by simp_all, rfl⟩
  · have hd : decide (0 ≤ x) = false := by simpa using h
    go_enter Yabv.func26, Yabv.ntmps26
    go_wp2
    all_goals go_ret
    all_goals exact ⟨by simp_all, rfl⟩
theorem inRange_any (x n : Int) (w : World) :
    Calls Yabv.prog 56 #[.int .i64 x, .int .i64 n] w fun e w' => e = .returned (.bool (decide (0 ≤ x ∧ x < n))) ∧ w' = w := by
  by_cases h : 0 ≤ x
  · go_enter Yabv.func56, Yabv.ntmps56
    go_wp2
    all_goals go_ret
    all_goals exact ⟨by simp_all, rfl⟩
  · have hd : decide (0 ≤ x) = false := by simpa using h
    go_enter Yabv.func56, Yabv.ntmps56
    go_wp2
    all_goals go_ret
    all_goals exact ⟨by simp_all, rfl⟩
end Go.Proofs.Yahabw
