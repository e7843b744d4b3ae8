import Derived.Test.YahabwBase
set_option linter.unusedVariables false
set_option linter.unusedSimpArgs false
namespace Go.Proofs.Yahabw
open Go.RowKit

set_option maxHeartbeats 400000 in
theorem toS_any (a : Option Addr) (cap : Nat) (nb : Bool) (p : List (Int × Int)) (w : World) (hp : w.ownsRow 0 78 2 (.slice a p.length cap) p.length (cellsS p)) (hlen : p.length ≤ 1000000000) :
    Calls Yabv.prog 31 #[.slice a p.length cap, .bool nb] w fun e w' => ∃ a' cap', e = .returned (.slice a' p.length cap') ∧
      w'.ownsRow w.heap.size 60 2 (.slice a' p.length cap') p.length (cellsS p) ∧ Below w.heap.size w w' := by
  obtain ⟨i0, hi, hz0, hz1, hz2⟩ := info_parts Yabv.info60
  by_cases h0 : p.length = 0
  · have hp0 : p = [] := List.eq_nil_of_length_eq_zero h0
    subst hp0
    cases nb
    · go_enter Yabv.func31, Yabv.ntmps31
      go_wp2
      go_ret
      exact ⟨_, _, rfl, World.ownsRow_lit (base := w.heap.size) (e := 60) (size := 2) w #[] 0 (Nat.le_refl _) (by decide) rfl, (Below.refl _ _).alloc (Nat.le_refl _) _⟩
    · go_enter Yabv.func31, Yabv.ntmps31
      go_wp2
      go_ret
      exact ⟨_, _, rfl, World.ownsRow_nil _ _ _ _, Below.refl _ _⟩
  have h1 : ((p.length : Int) == 0) = false := by rw [beq_eq_false_iff_ne]; omega
  go_enter Yabv.func31, Yabv.ntmps31
  go_wp2_with (at_make; refine wpList_make_full _ rfl _ _ 23 rfl w.heap.size 60 i0 _ 2 Yabv.underlying23 hi hz0 hz1 _ _ _ _ p.length rfl rfl rfl rfl (by rw [hz2]; omega) (by unfold maxLen; omega) (Nat.le_refl _) ?_)
  intro w1 hown hgrow
  rw [made_S] at hown
  have hb := below_of_grown hgrow
  clear hgrow
  go_wp2
  go_loopw [6] (fun i wr => ∃ k : Nat, k ≤ p.length ∧ i = .int .i64 k ∧ Below w.heap.size w wr ∧
      wr.ownsRow w.heap.size 60 2 (.slice (some ⟨w.heap.size, 0, none⟩) p.length p.length) p.length (cellsS (p.take k ++ List.replicate (p.length - k) (0, 0))))
    (fun i _ => p.length - (intOf i).toNat)
  case atStart => exact ⟨0, Nat.zero_le _, rfl, hb, by simpa using hown⟩
  case round =>
    obtain ⟨k, hk, rfl, hbw, how⟩ := hrel
    by_cases hlt : k < p.length
    · obtain ⟨g, rfl⟩ := own_some hp (by omega)
      obtain ⟨c0, c1⟩ := ownS_cell (own_below' hp hbw) k hlt
      have hL : (p.take k ++ List.replicate (p.length - k) ((0 : Int), (0 : Int))).length = p.length := by simp; omega
      have l0 : (0 : Int) ≤ (k : Int) := by omega
      have l1 : (k : Int) < (p.length : Int) := by omega
      have f0 := how.frozenAt (k * 2)
      have f1 := how.frozenAt (k * 2 + 1)
      obtain ⟨u0, e0⟩ := own_old how (k * 2) (by rw [cellsS_len, hL]; omega)
      obtain ⟨u1, e1⟩ := own_old how (k * 2 + 1) (by rw [cellsS_len, hL]; omega)
      have R := ownS_store how k (by omega) p[k].1 p[k].2
      rw [fill_step p (0, 0) k hlt] at R
      have HR := hide R
      clear R hL
      go_wp2
      go_region
      all_goals
        go_wp2
        go_roundw
        case rel => exact ⟨k + 1, by omega, by go_num, ((hbw.setCell (Nat.le_refl _) _).setCell (Nat.le_refl _) _).drew, (unhide HR).drew⟩
        case measure => simp [intOf]; omega
    · go_wp2
      go_ret
      have : k = p.length := by omega
      subst this
      exact ⟨_, _, rfl, by simpa using how, hbw⟩
end Go.Proofs.Yahabw
