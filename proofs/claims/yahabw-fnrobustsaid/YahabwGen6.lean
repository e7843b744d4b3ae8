import Derived.Test.YahabwGen5
import Derived.Deep.LoopGhost
set_option linter.unusedVariables false
set_option linter.unusedSimpArgs false
namespace Go.Proofs.Yahabw
open Go.RowKit

set_option maxHeartbeats 1000000 in
theorem block_of (f : Nat) (hB : ∀ g, g < f → BlockOK g) : BlockOK f := by
  intro w rb gb base a n cap pos m d nest h hf hp
  have HB := hide hB
  clear hB
  obtain ⟨p0, p1, p2, p3, p4⟩ := hp
  have hle := h.rd.le
  go_enter Yabv.func21, Yabv.ntmps21
  go_wp2_with fail
  go_loopg [2] (n - pos) (fun g dv wr => ∃ (d1 : Int) (pos1 m1 : Nat), dv = .int .i64 d1 ∧ g = n - pos1 ∧ pos ≤ pos1 ∧ pos1 ≤ n ∧ m ≤ m1 ∧ (m1 : Int) + (d1 - d) ≤ m + 8 * ((pos1 : Int) - pos) ∧ (m1 : Int) + (d - d1) ≤ m + 8 * ((pos1 : Int) - pos) ∧
    St wr rb gb base a n cap pos1 m1 ∧ Fr base rb gb w wr)
  case atStart => exact ⟨d, pos, m, rfl, rfl, Nat.le_refl _, hle, Nat.le_refl _, by omega, by omega, h, Fr.refl _ _ _ _⟩
  case round =>
    obtain ⟨d1, pos1, m1, rfl, hg, b1, b2, b3, b4, b5, hs, hfr⟩ := hrel
    have HG := hide hg
    clear hg
    go_wp2_with fail
    refine (done_any hs.rd).mono ?_
    rintro e w1 ⟨rfl, k1, rfl⟩
    obtain ⟨hs1, hf1⟩ := hs.drewN k1
    by_cases hlt : n ≤ pos1
    · have hd : decide (n ≤ pos1) = true := by simpa using hlt
      go_wp2
      go_ret
      exact ⟨d1, pos1, m1, rfl, b1, b2, b3, by omega, by omega, hs1, hfr.trans hf1⟩
    · have hd : decide (n ≤ pos1) = false := by simpa using hlt
      go_wp2_with fail
      refine (snext hs1).mono ?_
      rintro e w2 ⟨c, pos2, rfl, hc0, hc1, hp1, hp2, hp3, h2, f2⟩
      have hp4 := hp3 (by omega)
      clear hp3
      subst hp4
      by_cases k15 : c % 16 = 15
      · have k15b : (c % 16 == 15) = true := by rw [beq_iff_eq]; exact k15
        have k15' : 15 ≤ c % 16 := by omega
        clear k15
        by_cases hnest : 0 < nest
        · go_wp2
          go_ret
          exact ⟨d1, pos1 + 1, m1, rfl, by omega, by omega, b3, by omega, by omega, h2, hfr.trans (hf1.trans f2)⟩
        · go_wp2_with fail
          refine (genOne_of (unhide HB (n - (pos1 + 1)) (by omega)) w2 rb gb base a n cap (pos1 + 1) m1 d1 nest _ h2 (Nat.le_refl _) (by omega) (by omega) ⟨by omega, by omega, by omega, by omega, by omega⟩).mono ?_
          rintro e w3 ⟨d3, pos3, m3, rfl, c1, c2, c3, c4, c5, h3, f3⟩
          go_wp2
          go_roundg (n - pos3)
          case measure => have := unhide HG; omega
          case rel => exact ⟨d3, pos3, m3, rfl, rfl, by omega, c2, by omega, by omega, by omega, h3, hfr.trans (hf1.trans (f2.trans f3))⟩
      · have k15b : (c % 16 == 15) = false := by rw [beq_eq_false_iff_ne]; exact k15
        go_wp2_with fail
        refine (genOne_of (unhide HB (n - (pos1 + 1)) (by omega)) w2 rb gb base a n cap (pos1 + 1) m1 d1 nest _ h2 (Nat.le_refl _) (by omega) (by omega) ⟨by omega, by omega, by omega, by omega, by omega⟩).mono ?_
        rintro e w3 ⟨d3, pos3, m3, rfl, c1, c2, c3, c4, c5, h3, f3⟩
        go_wp2
        go_roundg (n - pos3)
        case measure => have := unhide HG; omega
        case rel => exact ⟨d3, pos3, m3, rfl, rfl, by omega, c2, by omega, by omega, by omega, h3, hfr.trans (hf1.trans (f2.trans f3))⟩

theorem blockOK (f : Nat) : BlockOK f := by
  induction f using Nat.strongRecOn with
  | _ f ih => exact block_of f ih
end Go.Proofs.Yahabw
