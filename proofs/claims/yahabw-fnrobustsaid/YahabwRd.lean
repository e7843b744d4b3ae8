import Derived.Test.YahabwBase
set_option linter.unusedVariables false
set_option linter.unusedSimpArgs false
namespace Go.Proofs.Yahabw
open Go.RowKit

/-- A reader: its block; its bytes lie in another one. -/
structure Rd (w : World) (rb : Nat) (a : Option Addr) (n cap pos : Nat) : Prop where
  blk : w.heap[rb]? = some (.cells #[.slice a n cap, .int .i64 (pos : Int)] 51 (0, 0))
  le : pos ≤ n
  big : n ≤ 1048576
  bytes : 0 < n → ∃ bb off, a = some ⟨bb, off, none⟩ ∧ bb ≠ rb ∧ ∀ i, i < n → ∃ z : Int, w.cell? ⟨bb, off + i, none⟩ = some (.int .u8 z) ∧ 0 ≤ z ∧ z ≤ 255

theorem Rd.lt {w : World} {rb n cap pos : Nat} {a : Option Addr} (h : Rd w rb a n cap pos) : rb < w.heap.size := blk_lt h.blk

theorem cell_lt {w : World} {b o : Nat} {v : Value} (h : w.cell? ⟨b, o, none⟩ = some v) : b < w.heap.size := World.block_lt_of_cell? w ⟨b, o, none⟩ h

/-- A reader is as it was where its own block and that of its bytes are. -/
theorem Rd.keep {w w' : World} {rb n cap pos : Nat} {a : Option Addr} (h : Rd w rb a n cap pos) (hr : w'.heap[rb]? = w.heap[rb]?) (hb : 0 < n → ∀ bb off, a = some ⟨bb, off, none⟩ → bb ≠ rb → bb < w.heap.size → w'.heap[bb]? = w.heap[bb]?) : Rd w' rb a n cap pos := by
  refine ⟨hr.trans h.blk, h.le, h.big, fun hn => ?_⟩
  obtain ⟨bb, off, rfl, hne, hc⟩ := h.bytes hn
  have hlt : bb < w.heap.size := by obtain ⟨z, hz, _⟩ := hc 0 hn; exact cell_lt hz
  refine ⟨bb, off, rfl, hne, fun i hi => ?_⟩
  obtain ⟨z, hz, h0, h1⟩ := hc i hi
  exact ⟨z, (World.cell?_of_block (w := w) (a := ⟨bb, off + i, none⟩) (hb hn bb off rfl hne hlt)).trans hz, h0, h1⟩

theorem Rd.below {w w' : World} {rb n cap pos : Nat} {a : Option Addr} (h : Rd w rb a n cap pos) (hb : Below w.heap.size w w') : Rd w' rb a n cap pos :=
  h.keep (hb.block rb h.lt) (fun _ bb _ _ _ hl => hb.block bb hl)

/-- One step on. -/
theorem Rd.step {w : World} {rb n cap pos : Nat} {a : Option Addr} (h : Rd w rb a n cap pos) (hl : pos < n) : Rd (w.setCell ⟨rb, 1, none⟩ (.int .i64 ((pos : Int) + 1))) rb a n cap (pos + 1) := by
  refine ⟨?_, by omega, h.big, fun hn => ?_⟩
  · have := heap_setCell_same w rb 1 _ 51 (.int .i64 ((pos : Int) + 1)) h.blk
    simpa using this
  · obtain ⟨bb, off, rfl, hne, hc⟩ := h.bytes hn
    refine ⟨bb, off, rfl, hne, fun i hi => ?_⟩
    obtain ⟨z, hz, h0, h1⟩ := hc i hi
    exact ⟨z, (World.cell?_of_block (w := w) (a := ⟨bb, off + i, none⟩) (heap_setCell_other w ⟨rb, 1, none⟩ bb _ hne)).trans hz, h0, h1⟩

theorem Rd.drewN {w : World} {rb n cap pos : Nat} {a : Option Addr} (h : Rd w rb a n cap pos) (k : Nat) : Rd (w.drewN k) rb a n cap pos := h.keep rfl (fun _ _ _ _ _ _ => rfl)

theorem grown_drewN (w : World) (k : Nat) (row : Option Nat) : w.grownBy (w.drewN k) row := ⟨rfl, rfl, rfl, Nat.le_refl _, fun _ _ _ => rfl⟩

set_option maxHeartbeats 400000 in
theorem next_any {w : World} {rb n cap pos : Nat} {a : Option Addr} (h : Rd w rb a n cap pos) :
    Calls Yabv.prog 18 #[.pointer (some ⟨rb, 0, none⟩)] w fun e w' => ∃ c : Int, ∃ pos' : Nat, e = .returned (.int .u8 c) ∧ 0 ≤ c ∧ c ≤ 255 ∧ pos ≤ pos' ∧ (pos < n → pos' = pos + 1) ∧ Rd w' rb a n cap pos' ∧ w.grownBy w' (some rb) := by
  have q0 : w.cell? ⟨rb, 0, none⟩ = some (.slice a n cap) := blk_cell h.blk 0 rfl
  have q1 : w.cell? ⟨rb, 1, none⟩ = some (.int .i64 (pos : Int)) := blk_cell h.blk 1 rfl
  have f1 : w.frozen? ⟨rb, 1, none⟩ = false := blk_free h.blk 1
  have hle := h.le
  have hbig := h.big
  by_cases hl : pos < n
  · obtain ⟨bb, off, rfl, hne, hc⟩ := h.bytes (by omega)
    obtain ⟨z, hz, hz0, hz1⟩ := hc pos hl
    clear hc
    have l0 : (0 : Int) ≤ (pos : Int) := by omega
    have l1 : (pos : Int) < (n : Int) := by omega
    go_enter Yabv.func18, Yabv.ntmps18
    go_wp2
    go_quiet (fail)
    go_wp2
    go_quiet (fail)
    go_wp2
    go_ret
    exact ⟨z, pos + 1, rfl, hz0, hz1, by omega, fun _ => rfl, (h.drewN _).step hl, grown_trans (grown_drewN w _ _) (grown_setCell _ _ _)⟩
  · have l1 : ¬ (pos : Int) < (n : Int) := by omega
    go_enter Yabv.func18, Yabv.ntmps18
    go_wp2
    go_quiet (fail)
    go_wp2
    go_ret
    exact ⟨0, pos, rfl, by omega, by omega, by omega, fun hh => absurd hh hl, h.drewN _, grown_drewN w _ _⟩

theorem done_any {w : World} {rb n cap pos : Nat} {a : Option Addr} (h : Rd w rb a n cap pos) :
    Calls Yabv.prog 41 #[.pointer (some ⟨rb, 0, none⟩)] w fun e w' => e = .returned (.bool (decide (n ≤ pos))) ∧ ∃ k, w' = w.drewN k := by
  have q0 : w.cell? ⟨rb, 0, none⟩ = some (.slice a n cap) := blk_cell h.blk 0 rfl
  have q1 : w.cell? ⟨rb, 1, none⟩ = some (.int .i64 (pos : Int)) := blk_cell h.blk 1 rfl
  go_enter Yabv.func41, Yabv.ntmps41
  go_wp2
  go_quiet (fail)
  go_wp2
  go_ret
  exact ⟨by simp, _, rfl⟩

set_option maxHeartbeats 1000000 in
theorem value_any {w : World} {rb n cap pos : Nat} {a : Option Addr} (h : Rd w rb a n cap pos) :
    Calls Yabv.prog 19 #[.pointer (some ⟨rb, 0, none⟩)] w fun e w' => ∃ v : Int, ∃ pos' : Nat, e = .returned (.int .i64 v) ∧ I64 v ∧ pos ≤ pos' ∧ Rd w' rb a n cap pos' ∧ w.grownBy w' (some rb) := by
  go_enter Yabv.func19, Yabv.ntmps19
  go_wp2_with fail
  refine (next_any h).mono ?_
  rintro e w1 ⟨c, pos1, rfl, hc0, hc1, hp1, _, h1, hg1⟩
  by_cases k0 : c % 4 = 0
  · go_wp2_with fail
    refine (next_any h1).mono ?_
    rintro e w2 ⟨d, pos2, rfl, hd0, hd1, hp2, _, h2, hg2⟩
    go_wp2
    go_ret
    exact ⟨_, pos2, rfl, ⟨by omega, by omega⟩, by omega, h2, grown_trans hg1 hg2⟩
  by_cases k1 : c % 4 = 1
  · have k1a : (c % 4 == 0) = false := by rw [beq_eq_false_iff_ne]; omega
    have k1b : (c % 4 == 1) = true := by rw [beq_iff_eq]; omega
    clear k0 k1
    go_wp2_with fail
    go_loopw [4, 5] (fun u i wr => ∃ (k : Nat) (x : Int) (p : Nat), k ≤ 8 ∧ i = .int .i64 k ∧ u = .int .u64 x ∧ pos ≤ p ∧ Rd wr rb a n cap p ∧ w.grownBy wr (some rb))
      (fun _ i _ => 8 - (intOf i).toNat)
    case atStart => exact ⟨0, 0, pos1, by omega, rfl, rfl, hp1, h1, hg1⟩
    case round =>
      obtain ⟨k, x, p, hk, rfl, rfl, hp, hr, hg⟩ := hrel
      by_cases hlt : k < 8
      · go_wp2_with fail
        refine (next_any hr).mono ?_
        rintro e w2 ⟨d, pos2, rfl, hd0, hd1, hp2, _, h2, hg2⟩
        go_wp2
        go_roundw
        case rel => first | exact ⟨k + 1, _, pos2, by omega, by go_num, rfl, by omega, h2, grown_trans hg hg2⟩ | ((repeat apply Exists.intro); exact ⟨⟨k + 1, _, pos2, by omega, by go_num, rfl, by omega, h2, grown_trans hg hg2⟩, rfl⟩)
        case measure => simp [intOf]; omega
      · go_wp2
        go_ret
        exact ⟨_, p, rfl, I64_wrap _, hp, hr, hg⟩
  by_cases k2 : c % 4 = 2
  · go_wp2_with fail
    refine (next_any h1).mono ?_
    rintro e w2 ⟨d, pos2, rfl, hd0, hd1, hp2, _, h2, hg2⟩
    go_wp2
    go_ret
    exact ⟨_, pos2, rfl, ⟨by omega, by omega⟩, by omega, h2, grown_trans hg1 hg2⟩
  · have k3 : c % 4 = 3 := by omega
    go_wp2_with fail
    refine (next_any h1).mono ?_
    rintro e w2 ⟨d, pos2, rfl, hd0, hd1, hp2, _, h2, hg2⟩
    go_wp2
    all_goals go_ret
    all_goals exact ⟨_, pos2, rfl, ⟨by omega, by omega⟩, by omega, h2, grown_trans hg1 hg2⟩
end Go.Proofs.Yahabw
