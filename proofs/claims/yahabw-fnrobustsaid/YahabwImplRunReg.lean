import Derived.Test.YahabwImplRunR
set_option linter.unusedVariables false
set_option linter.unusedSimpArgs false
namespace Go.Proofs.Yahabw
open Go.RowKit

set_option maxRecDepth 100000 in
set_option maxHeartbeats 2000000 in
theorem implRunReg_any (a a2 : Option Addr) (cap cap2 : Nat) (nregs : Int) (p : List R5) (args : List Int) (w : World) (hp : w.ownsRow 0 65 5 (.slice a p.length cap) p.length (cellsR p))
    (ha : w.ownsRow 0 2 1 (.slice a2 args.length cap2) args.length (args.map (Value.int .i64))) (hlen : p.length ≤ 1000000000) (hlen2 : args.length ≤ 1000000000) :
    Calls Yabv.prog 10 #[.slice a p.length cap, .int .i64 nregs, .slice a2 args.length cap2] w (RunPost (runReg p nregs args) w) := by
  by_cases h : nregs < 0 ∨ 65536 < nregs
  · rw [show runReg p nregs args = (2, [], 0) from if_pos h]
    by_cases h0 : nregs < 0
    · clear h
      go_enter Yabv.func10, Yabv.ntmps10
      go_wp2
      exact bodyPost_ret (v := .agg #[.int .i64 2, .slice none 0 0, .int .i64 0]) (by simp [results, Yabv.results10, go_sem]) rfl ⟨none, 0, rfl, ⟨rfl, .inl ⟨rfl, rfl⟩⟩, (Below.refl _ _).alloc (Nat.le_refl _) _⟩
    · have h1 : 65536 < nregs := by omega
      have h0b : decide (nregs < 0) = false := by simpa using h0
      clear h h0
      go_enter Yabv.func10, Yabv.ntmps10
      go_wp2
      exact bodyPost_ret (v := .agg #[.int .i64 2, .slice none 0 0, .int .i64 0]) (by simp [results, Yabv.results10, go_sem]) rfl ⟨none, 0, rfl, ⟨rfl, .inl ⟨rfl, rfl⟩⟩, (Below.refl _ _).alloc (Nat.le_refl _) _⟩
  · obtain ⟨N, rfl⟩ := Int.eq_ofNat_of_zero_le (show 0 ≤ nregs by omega)
    rw [show runReg p (N : Int) args = runR p N args 20000 0 (List.replicate N 0) from if_neg h]
    exact implRunR_in a a2 cap cap2 N p args w hp ha hlen hlen2 (by omega)
end Go.Proofs.Yahabw
