import Derived.Test.YahabwSpecRunR
set_option linter.unusedVariables false
set_option linter.unusedSimpArgs false
namespace Go.Proofs.Yahabw
open Go.RowKit

set_option maxRecDepth 100000 in
set_option maxHeartbeats 2000000 in
theorem specRunReg_any (a a2 : Option Addr) (cap cap2 : Nat) (nregs : Int) (p : List R5) (args : List Int) (w : World) (hp : w.ownsRow 0 65 5 (.slice a p.length cap) p.length (cellsR p))
    (ha : w.ownsRow 0 2 1 (.slice a2 args.length cap2) args.length (args.map (Value.int .i64))) (hlen : p.length ≤ 1000000000) (hlen2 : args.length ≤ 1000000000) :
    Calls Yabv.prog 36 #[.slice a p.length cap, .int .i64 nregs, .slice a2 args.length cap2] w (RunPost (runReg p nregs args) w) := by
  have fin : ∀ w7 : World, Below (w.alloc (.cells #[.int .i64 0, .slice none 0 0, .int .i64 0] 34)).heap.size (w.alloc (.cells #[.int .i64 0, .slice none 0 0, .int .i64 0] 34)) w7 →
      w7.heap[w.heap.size]? = some (.cells #[.int .i64 0, .slice none 0 0, .int .i64 0] 34 (0, 0)) ∧ Below w.heap.size w w7 := fun w7 h =>
    ⟨keepb h (heap_alloc_new w _) (by simp), ((Below.refl _ _).alloc (Nat.le_refl _) _).trans (h.mono (by simp))⟩
  by_cases h : nregs < 0 ∨ 65536 < nregs
  · rw [show runReg p nregs args = (2, [], 0) from if_pos h]
    by_cases h0 : nregs < 0
    · clear h
      go_enter Yabv.func36, Yabv.ntmps36
      go_wp2_with fail
      refine (faulted_any _ _).mono ?_
      rintro e w7 ⟨rfl, hb7⟩
      obtain ⟨B7, hbf⟩ := fin w7 hb7
      have q0 := blk_cell B7 0 rfl
      have q1 := blk_cell B7 1 rfl
      have q2 := blk_cell B7 2 rfl
      have r0 := blk_free B7 0
      have r1 := blk_free B7 1
      have r2 := blk_free B7 2
      go_wp2
      exact bodyPost_ret (v := .agg #[.int .i64 2, .slice none 0 0, .int .i64 0]) (by simp [results, Yabv.results36, go_sem, q0, q1, q2]) rfl ⟨none, 0, rfl, ⟨rfl, .inl ⟨rfl, rfl⟩⟩, ((hbf.setCell (Nat.le_refl _) _).setCell (Nat.le_refl _) _).setCell (Nat.le_refl _) _⟩
    · have h1 : 65536 < nregs := by omega
      have h0b : decide (nregs < 0) = false := by simpa using h0
      clear h h0
      go_enter Yabv.func36, Yabv.ntmps36
      go_wp2_with fail
      refine (faulted_any _ _).mono ?_
      rintro e w7 ⟨rfl, hb7⟩
      obtain ⟨B7, hbf⟩ := fin w7 hb7
      have q0 := blk_cell B7 0 rfl
      have q1 := blk_cell B7 1 rfl
      have q2 := blk_cell B7 2 rfl
      have r0 := blk_free B7 0
      have r1 := blk_free B7 1
      have r2 := blk_free B7 2
      go_wp2
      exact bodyPost_ret (v := .agg #[.int .i64 2, .slice none 0 0, .int .i64 0]) (by simp [results, Yabv.results36, go_sem, q0, q1, q2]) rfl ⟨none, 0, rfl, ⟨rfl, .inl ⟨rfl, rfl⟩⟩, ((hbf.setCell (Nat.le_refl _) _).setCell (Nat.le_refl _) _).setCell (Nat.le_refl _) _⟩
  · obtain ⟨N, rfl⟩ := Int.eq_ofNat_of_zero_le (show 0 ≤ nregs by omega)
    rw [show runReg p (N : Int) args = runR p N args 20000 0 (List.replicate N 0) from if_neg h]
    exact specRunR_in a a2 cap cap2 N p args w hp ha hlen hlen2 (by omega)
end Go.Proofs.Yahabw
