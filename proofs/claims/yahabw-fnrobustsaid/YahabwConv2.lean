import Derived.Test.YahabwBase
set_option linter.unusedVariables false
set_option linter.unusedSimpArgs false
namespace Go.Proofs.Yahabw
open Go.RowKit

set_option maxHeartbeats 400000 in
theorem fromR_any (a : Option Addr) (cap : Nat) (p : List R5) (w : World) (hp : w.ownsRow 0 65 5 (.slice a p.length cap) p.length (cellsR p)) (hlen : p.length ≤ 1000000000) :
    Calls Yabv.prog 16 #[.slice a p.length cap] w fun e w' => ∃ a' cap', e = .returned (.slice a' p.length cap') ∧
      w'.ownsRow w.heap.size 82 5 (.slice a' p.length cap') p.length (cellsR p) ∧ Below w.heap.size w w' := by
  obtain ⟨i0, hi, hz0, hz1, hz2⟩ := info_parts Yabv.info82
  go_enter Yabv.func16, Yabv.ntmps16
  go_wp2_with (at_make; refine wpList_make_full _ rfl _ _ 45 rfl w.heap.size 82 i0 _ 5 Yabv.underlying45 hi hz0 hz1 _ _ _ _ p.length rfl rfl rfl rfl (by rw [hz2]; omega) (by unfold maxLen; omega) (Nat.le_refl _) ?_)
  intro w1 hown hgrow
  rw [made_R] at hown
  have hb := below_of_grown hgrow
  clear hgrow
  go_wp2
  go_loopw [4] (fun i wr => ∃ k : Nat, k ≤ p.length ∧ i = .int .i64 k ∧ Below w.heap.size w wr ∧
      wr.ownsRow w.heap.size 82 5 (.slice (some ⟨w.heap.size, 0, none⟩) p.length p.length) p.length (cellsR (p.take k ++ List.replicate (p.length - k) ⟨0, 0, 0, 0, 0⟩)))
    (fun i _ => p.length - (intOf i).toNat)
  case atStart => exact ⟨0, Nat.zero_le _, rfl, hb, by simpa using hown⟩
  case round =>
    obtain ⟨k, hk, rfl, hbw, how⟩ := hrel
    by_cases hlt : k < p.length
    · obtain ⟨g, rfl⟩ := own_some hp (by omega)
      obtain ⟨c0, c1, c2, c3, c4⟩ := ownR_cell (own_below' hp hbw) k hlt
      have hL : (p.take k ++ List.replicate (p.length - k) (⟨0, 0, 0, 0, 0⟩ : R5)).length = p.length := by simp; omega
      have l0 : (0 : Int) ≤ (k : Int) := by omega
      have l1 : (k : Int) < (p.length : Int) := by omega
      have f0 := how.frozenAt (k * 5)
      have f1 := how.frozenAt (k * 5 + 1)
      have f2 := how.frozenAt (k * 5 + 2)
      have f3 := how.frozenAt (k * 5 + 3)
      have f4 := how.frozenAt (k * 5 + 4)
      obtain ⟨u0, e0⟩ := own_old how (k * 5) (by rw [cellsR_len, hL]; omega)
      obtain ⟨u1, e1⟩ := own_old how (k * 5 + 1) (by rw [cellsR_len, hL]; omega)
      obtain ⟨u2, e2⟩ := own_old how (k * 5 + 2) (by rw [cellsR_len, hL]; omega)
      obtain ⟨u3, e3⟩ := own_old how (k * 5 + 3) (by rw [cellsR_len, hL]; omega)
      obtain ⟨u4, e4⟩ := own_old how (k * 5 + 4) (by rw [cellsR_len, hL]; omega)
      have R := ownR_store how k (by omega) p[k].op p[k].r p[k].a p[k].b p[k].k
      rw [fill_step p ⟨0, 0, 0, 0, 0⟩ k hlt] at R
      have HR := hide R
      clear R hL
      go_wp2
      go_region
      all_goals
        go_wp2
        go_roundw
        case rel => exact ⟨k + 1, by omega, by go_num, (((((hbw.setCell (Nat.le_refl _) _).setCell (Nat.le_refl _) _).setCell (Nat.le_refl _) _).setCell (Nat.le_refl _) _).setCell (Nat.le_refl _) _).drew, (unhide HR).drew⟩
        case measure => simp [intOf]; omega
    · go_wp2
      go_ret
      have : k = p.length := by omega
      subst this
      exact ⟨_, _, rfl, by simpa using how, hbw⟩
end Go.Proofs.Yahabw
