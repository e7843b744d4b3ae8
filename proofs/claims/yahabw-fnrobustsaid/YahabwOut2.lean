import Derived.Test.YahabwOut
import Derived.Test.YahabwConv5
set_option linter.unusedVariables false
set_option linter.unusedSimpArgs false
namespace Go.Proofs.Yahabw
open Go.RowKit

set_option maxHeartbeats 1000000 in
theorem fromOutcome_any (a : Option Addr) (cap : Nat) (p : List Int) (s1 st : Int) (w : World) (hp : w.ownsRow 0 2 1 (.slice a p.length cap) p.length (p.map (Value.int .i64))) (hlen : p.length ≤ 1000000000) :
    Calls Yabv.prog 29 #[.agg #[.int .i64 s1, .slice a p.length cap, .int .i64 st]] w fun e w' => ∃ a' cap', e = .returned (.agg #[.int .i64 s1, .slice a' p.length cap', .int .i64 st]) ∧
      w'.ownsRow w.heap.size 2 1 (.slice a' p.length cap') p.length (p.map (Value.int .i64)) ∧ Below w.heap.size w w' := by
  go_enter Yabv.func29, Yabv.ntmps29
  go_wp2
  generalize hW : World.alloc (World.alloc w _) _ = W
  have hbW : Below w.heap.size w W := by rw [← hW]; exact ((Below.refl _ _).alloc (Nat.le_refl _) _).alloc (by simp) _
  have hsW : W.heap.size = w.heap.size + 2 := by rw [← hW]; simp
  have hz : w.heap.size + 1 < W.heap.size := by omega
  have hz' : w.heap.size < W.heap.size := by omega
  have B0 : W.heap[w.heap.size]? = some (.cells #[.int .i64 s1, .slice a p.length cap, .int .i64 st] 34 (0, 0)) := by
    rw [← hW, Below.heap_alloc _ _ _ (by simp)]; exact heap_alloc_new w _
  have B1 : W.heap[w.heap.size + 1]? = some (.cells #[.int .i64 0, .slice none 0 0, .int .i64 0] 73 (0, 0)) := by
    rw [← hW]; simpa using heap_alloc_new (w.alloc _) _
  clear hW hsW
  have q0 : W.cell? ⟨w.heap.size, 0, none⟩ = some (.int .i64 s1) := blk_cell B0 0 rfl
  have q1 : W.cell? ⟨w.heap.size, 1, none⟩ = some (.slice a p.length cap) := blk_cell B0 1 rfl
  have q2 : W.cell? ⟨w.heap.size, 2, none⟩ = some (.int .i64 st) := blk_cell B0 2 rfl
  have r0 : W.cell? ⟨w.heap.size + 1, 0, none⟩ = some (.int .i64 0) := blk_cell B1 0 rfl
  have r1 : W.cell? ⟨w.heap.size + 1, 1, none⟩ = some (.slice none 0 0) := blk_cell B1 1 rfl
  have r2 : W.cell? ⟨w.heap.size + 1, 2, none⟩ = some (.int .i64 0) := blk_cell B1 2 rfl
  have f0 : W.frozen? ⟨w.heap.size + 1, 0, none⟩ = false := blk_free B1 0
  have f1 : W.frozen? ⟨w.heap.size + 1, 1, none⟩ = false := blk_free B1 1
  have f2 : W.frozen? ⟨w.heap.size + 1, 2, none⟩ = false := blk_free B1 2
  clear B0 B1
  go_region_held3 (fun w' => w'.cell? ⟨w.heap.size, 0, none⟩ = some (.int .i64 s1) ∧ w'.cell? ⟨w.heap.size, 1, none⟩ = some (.slice a p.length cap) ∧ w'.cell? ⟨w.heap.size, 2, none⟩ = some (.int .i64 st)) (simp [*, go_sem])
    (first | (go_at_call 32; refine (copyI_any a cap false p W.drew (own_below' hp hbW.drew) hlen).mono ?_; rintro e w' ⟨a', cap', rfl, hown, hbel⟩; have k0 := keepc hbel q0 hz'; have k1 := keepc hbel q1 hz'; have k2 := keepc hbel q2 hz'; have k3 := keepc hbel r0 hz; have k4 := keepc hbel r1 hz; have k5 := keepc hbel r2 hz; have g0 := keepf hbel f0 hz; have g1 := keepf hbel f1 hz; have g2 := keepf hbel f2 hz))
  go_wp2
  have hne : (Value.slice a' p.length cap').ownBlock ≠ some (w.heap.size + 1) := fun h => by have := (hown.lt _ h).1; simp at this; omega
  refine bodyPost_ret (v := .agg #[.int .i64 s1, .slice a' p.length cap', .int .i64 st]) (by simp [results, Yabv.results29, go_sem, k3, k4, k5]) rfl ⟨_, _, rfl, ?_, ?_⟩
  · exact own_base (own_setCell (own_setCell (own_setCell hown _ _ _ hne) _ _ _ hne) _ _ _ hne) (by simp; omega)
  · exact (((hbW.drew.trans (hbel.mono (by simp; omega))).setCell (by simp) _).setCell (by simp) _).setCell (by simp) _
end Go.Proofs.Yahabw
