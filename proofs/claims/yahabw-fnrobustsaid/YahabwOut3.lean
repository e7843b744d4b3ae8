import Derived.Test.YahabwOut
import Derived.Test.YahabwConv5
set_option linter.unusedVariables false
set_option linter.unusedSimpArgs false
namespace Go.Proofs.Yahabw
open Go.RowKit

set_option maxHeartbeats 400000 in
theorem sameOutcome_any (a b : Option Addr) (ca cb : Nat) (p : List Int) (s1 st : Int) (w : World) (ha : w.ownsRow 0 2 1 (.slice a p.length ca) p.length (p.map (Value.int .i64)))
    (hb : w.ownsRow 0 2 1 (.slice b p.length cb) p.length (p.map (Value.int .i64))) (hlen : p.length ≤ 1000000000) :
    Calls Yabv.prog 50 #[.agg #[.int .i64 s1, .slice a p.length ca, .int .i64 st], .agg #[.int .i64 s1, .slice b p.length cb, .int .i64 st]] w fun e w' => e = .returned (.bool true) ∧ Below w.heap.size w w' := by
  go_enter Yabv.func50, Yabv.ntmps50
  go_wp2_with fail
  refine (sameI_any a b ca cb p _ ((ha.alloc _).alloc _) ((hb.alloc _).alloc _) hlen).mono ?_
  rintro e w1 ⟨rfl, hb1⟩
  go_wp2
  go_ret
  exact ⟨rfl, (((Below.refl _ _).alloc (Nat.le_refl _) _).alloc (by simp) _).trans (hb1.mono (by simp; omega))⟩

/-- An outcome whose shape is right. -/
theorem shapeOK_any (s1 st : Int) (a : Option Addr) (n cap : Nat) (w : World) (h : (s1 = 0 ∧ 0 ≤ st ∧ st ≤ 20000) ∨ (s1 = 1 ∧ st = 20000 ∧ n = 0) ∨ (s1 = 2 ∧ 0 ≤ st ∧ st ≤ 20000 ∧ n = 0)) :
    Calls Yabv.prog 7 #[.agg #[.int .i64 s1, .slice a n cap, .int .i64 st]] w fun e w' => e = .returned (.bool true) ∧ Below w.heap.size w w' := by
  rcases h with ⟨rfl, h1, h2⟩ | ⟨rfl, rfl, rfl⟩ | ⟨rfl, h1, h2, rfl⟩
  all_goals
    go_enter Yabv.func7, Yabv.ntmps7
    go_wp2
    go_ret
    exact ⟨rfl, (Below.refl _ _).alloc (Nat.le_refl _) _⟩

theorem regField_any (x n : Int) (hx : 0 ≤ x) (hx2 : x ≤ 255) (hn : -1000000 ≤ n) (hn2 : n ≤ 1000000) (w : World) :
    Calls Yabv.prog 25 #[.int .u8 x, .int .i64 n] w fun e w' => ∃ r : Int, e = .returned (.int .i64 r) ∧ -1 ≤ r ∧ r ≤ 1000 ∧ w' = w := by
  by_cases h0 : 0 ≤ n
  · by_cases h1 : n < 200
    · have h2 : 0 ≤ x % (n + 2) := Int.emod_nonneg _ (by omega)
      have h3 : x % (n + 2) < n + 2 := Int.emod_lt_of_pos _ (by omega)
      go_enter Yabv.func25, Yabv.ntmps25
      go_wp2
      go_ret
      exact ⟨_, rfl, by omega, by omega, rfl⟩
    · go_enter Yabv.func25, Yabv.ntmps25
      go_wp2
      go_ret
      exact ⟨_, rfl, by omega, by omega, rfl⟩
  · have hd : decide (0 ≤ n) = false := by simpa using h0
    go_enter Yabv.func25, Yabv.ntmps25
    go_wp2
    go_ret
    exact ⟨_, rfl, by omega, by omega, rfl⟩
end Go.Proofs.Yahabw
