import Derived.Test.YahabwBase
set_option linter.unusedVariables false
set_option linter.unusedSimpArgs false
namespace Go.Proofs.Yahabw
open Go.RowKit

theorem faulted_any (st : Int) (w : World) :
    Calls Yabv.prog 49 #[.int .i64 st] w fun e w' => e = .returned (.agg #[.int .i64 2, .slice none 0 0, .int .i64 st]) ∧ Below w.heap.size w w' := by
  go_enter Yabv.func49, Yabv.ntmps49
  go_wp2
  exact bodyPost_ret (v := .agg #[.int .i64 2, .slice none 0 0, .int .i64 st]) (by simp [results, Yabv.results49, go_sem]) rfl ⟨rfl, (Below.refl _ _).alloc (Nat.le_refl _) _⟩

theorem outOfFuel_any (w : World) :
    Calls Yabv.prog 47 #[] w fun e w' => e = .returned (.agg #[.int .i64 1, .slice none 0 0, .int .i64 20000]) ∧ Below w.heap.size w w' := by
  go_enter Yabv.func47, Yabv.ntmps47
  go_wp2
  exact bodyPost_ret (v := .agg #[.int .i64 1, .slice none 0 0, .int .i64 20000]) (by simp [results, Yabv.results47, go_sem]) rfl ⟨rfl, (Below.refl _ _).alloc (Nat.le_refl _) _⟩

theorem halted_any (a : Option Addr) (cap : Nat) (p : List Int) (st : Int) (w : World) (hp : w.ownsRow 0 2 1 (.slice a p.length cap) p.length (p.map (Value.int .i64))) (hlen : p.length ≤ 1000000000) :
    Calls Yabv.prog 46 #[.slice a p.length cap, .int .i64 st] w fun e w' => ∃ a' cap', e = .returned (.agg #[.int .i64 0, .slice a' p.length cap', .int .i64 st]) ∧
      w'.ownsRow w.heap.size 2 1 (.slice a' p.length cap') p.length (p.map (Value.int .i64)) ∧ Below w.heap.size w w' := by
  obtain ⟨i0, hi, hz0, hz1, hz2⟩ := info_parts Yabv.info2
  go_enter Yabv.func46, Yabv.ntmps46
  go_wp2_with (at_make; refine wpList_make_full _ rfl _ _ 24 rfl w.heap.size 2 i0 _ 1 Yabv.underlying24 hi hz0 hz1 _ _ _ _ p.length rfl rfl rfl rfl (by rw [hz2]; omega) (by unfold maxLen; omega) (by simp) ?_)
  intro w1 hown hgrow
  rw [made_I] at hown
  have hszP : (Yabv.prog.info? 2).map (·.size) = some 1 := by rw [hi]; simp [hz1]
  have hb1 : Below w.heap.size w w1 := ((Below.refl _ _).alloc (Nat.le_refl _) _).trans ((below_of_grown hgrow).mono (by simp))
  have hp1 := own_below' hp hb1
  go_wp2_with (with_reducible refine wpList_copy_row rfl (.tmp 9) (.tmp 10) 24 rfl 2 Yabv.underlying24 hszP _ _ _ _ _ rfl rfl w.heap.size 0 _ _ hown hp1 (ints_oneCell _ _) ?_)
  intro w2 hown2 hgrow2
  have hblk : w2.heap[w.heap.size]? = some (.cells #[.int .i64 0, .slice none 0 0, .int .i64 0] 34 (0, 0)) := by
    rw [hgrow2.block _ (by have := hgrow.size; simp at this; omega) (by simp), hgrow.block _ (by simp) (by simp)]
    exact heap_alloc_new w _
  have q0 := blk_cell hblk 0 rfl
  have q1 := blk_cell hblk 1 rfl
  have q2 := blk_cell hblk 2 rfl
  have r0 := blk_free hblk 0
  have r1 := blk_free hblk 1
  have r2 := blk_free hblk 2
  have hb2 : Below w.heap.size w w2 := hb1.grown hgrow2 hb1.size (by simp)
  go_wp2
  refine bodyPost_ret (v := .agg #[.int .i64 0, .slice (some ⟨w.heap.size + 1, 0, none⟩) p.length p.length, .int .i64 st]) (by simp [results, Yabv.results46, go_sem, q0, q1, q2]) rfl ⟨_, _, rfl, ?_, ?_⟩
  · exact own_setCell (own_setCell (own_setCell hown2 _ _ _ (by simp [Value.ownBlock])) _ _ _ (by simp [Value.ownBlock])) _ _ _ (by simp [Value.ownBlock])
  · exact ((hb2.setCell (Nat.le_refl _) _).setCell (Nat.le_refl _) _).setCell (Nat.le_refl _) _

def argF (zs : List Int) (k : Int) : Int := if 0 ≤ k ∧ k < zs.length then zs.getD k.toNat 0 else 0

theorem argAt_any (a : Option Addr) (cap : Nat) (p : List Int) (k : Int) (w : World) (hp : w.ownsRow 0 2 1 (.slice a p.length cap) p.length (p.map (Value.int .i64))) (hlen : p.length ≤ 1000000000) :
    Calls Yabv.prog 57 #[.slice a p.length cap, .int .i64 k] w fun e w' => e = .returned (.int .i64 (argF p k)) ∧ w' = w := by
  by_cases h0 : 0 ≤ k
  · obtain ⟨i, rfl⟩ := Int.eq_ofNat_of_zero_le h0
    by_cases h1 : i < p.length
    · obtain ⟨g, rfl⟩ := own_some hp (by omega)
      have c0 := ownI_cell hp i h1
      have l1 : (i : Int) < (p.length : Int) := by omega
      have e : argF p i = p[i] := by simp [argF, h1]
      have HE := hide e
      clear e
      go_enter Yabv.func57, Yabv.ntmps57
      go_wp2
      go_ret
      exact ⟨ret_int (unhide HE).symm, rfl⟩
    · have l1 : ¬ (i : Int) < (p.length : Int) := by omega
      have e : argF p i = 0 := by simp [argF, h1]
      have HE := hide e
      clear e
      go_enter Yabv.func57, Yabv.ntmps57
      go_wp2
      go_ret
      exact ⟨ret_int (unhide HE).symm, rfl⟩
  · have hd : decide (0 ≤ k) = false := by simpa using h0
    have e : argF p k = 0 := by simp [argF]; omega
    have HE := hide e
    clear e
    go_enter Yabv.func57, Yabv.ntmps57
    go_wp2
    go_ret
    exact ⟨ret_int (unhide HE).symm, rfl⟩
end Go.Proofs.Yahabw
