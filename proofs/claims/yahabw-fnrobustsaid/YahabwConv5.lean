import Derived.Test.YahabwBase
set_option linter.unusedVariables false
set_option linter.unusedSimpArgs false
namespace Go.Proofs.Yahabw
open Go.RowKit

set_option maxHeartbeats 400000 in
theorem copyI_any (a : Option Addr) (cap : Nat) (nb : Bool) (p : List Int) (w : World) (hp : w.ownsRow 0 2 1 (.slice a p.length cap) p.length (p.map (Value.int .i64))) (hlen : p.length ≤ 1000000000) :
    Calls Yabv.prog 32 #[.slice a p.length cap, .bool nb] w fun e w' => ∃ a' cap', e = .returned (.slice a' p.length cap') ∧
      w'.ownsRow w.heap.size 2 1 (.slice a' p.length cap') p.length (p.map (Value.int .i64)) ∧ Below w.heap.size w w' := by
  obtain ⟨i0, hi, hz0, hz1, hz2⟩ := info_parts Yabv.info2
  by_cases h0 : p.length = 0
  · have hp0 : p = [] := List.eq_nil_of_length_eq_zero h0
    subst hp0
    cases nb
    · go_enter Yabv.func32, Yabv.ntmps32
      go_wp2
      go_ret
      exact ⟨_, _, rfl, World.ownsRow_lit (base := w.heap.size) (e := 2) (size := 1) w #[] 0 (Nat.le_refl _) (by decide) rfl, (Below.refl _ _).alloc (Nat.le_refl _) _⟩
    · go_enter Yabv.func32, Yabv.ntmps32
      go_wp2
      go_ret
      exact ⟨_, _, rfl, World.ownsRow_nil _ _ _ _, Below.refl _ _⟩
  have h1 : ((p.length : Int) == 0) = false := by rw [beq_eq_false_iff_ne]; omega
  go_enter Yabv.func32, Yabv.ntmps32
  go_wp2_with (at_make; refine wpList_make_full _ rfl _ _ 24 rfl w.heap.size 2 i0 _ 1 Yabv.underlying24 hi hz0 hz1 _ _ _ _ p.length rfl rfl rfl rfl (by rw [hz2]; omega) (by unfold maxLen; omega) (Nat.le_refl _) ?_)
  intro w1 hown hgrow
  rw [made_I] at hown
  have hb := below_of_grown hgrow
  clear hgrow
  go_wp2
  go_loopw [6] (fun i wr => ∃ k : Nat, k ≤ p.length ∧ i = .int .i64 k ∧ Below w.heap.size w wr ∧
      wr.ownsRow w.heap.size 2 1 (.slice (some ⟨w.heap.size, 0, none⟩) p.length p.length) p.length ((p.take k ++ List.replicate (p.length - k) 0).map (Value.int .i64)))
    (fun i _ => p.length - (intOf i).toNat)
  case atStart => exact ⟨0, Nat.zero_le _, rfl, hb, by simpa using hown⟩
  case round =>
    obtain ⟨k, hk, rfl, hbw, how⟩ := hrel
    by_cases hlt : k < p.length
    · obtain ⟨g, rfl⟩ := own_some hp (by omega)
      have c0 := ownI_cell (own_below' hp hbw) k hlt
      have hL : (p.take k ++ List.replicate (p.length - k) (0 : Int)).length = p.length := by simp; omega
      have l0 : (0 : Int) ≤ (k : Int) := by omega
      have l1 : (k : Int) < (p.length : Int) := by omega
      have f0 := how.frozenAt k
      obtain ⟨u0, e0⟩ := own_old how k (by rw [List.length_map, hL]; omega)
      have R := ownI_store how k p[k]
      rw [fill_step p 0 k hlt] at R
      have HR := hide R
      clear R hL
      go_wp2
      go_roundw
      case rel => exact ⟨k + 1, by omega, by go_num, (hbw.setCell (Nat.le_refl _) _), (unhide HR)⟩
      case measure => simp [intOf]; omega
    · go_wp2
      go_ret
      have : k = p.length := by omega
      subst this
      exact ⟨_, _, rfl, by simpa using how, hbw⟩

set_option maxHeartbeats 400000 in
theorem sameI_any (a b : Option Addr) (ca cb : Nat) (p : List Int) (w : World) (ha : w.ownsRow 0 2 1 (.slice a p.length ca) p.length (p.map (Value.int .i64)))
    (hb : w.ownsRow 0 2 1 (.slice b p.length cb) p.length (p.map (Value.int .i64))) (hlen : p.length ≤ 1000000000) :
    Calls Yabv.prog 52 #[.slice a p.length ca, .slice b p.length cb] w fun e w' => e = .returned (.bool true) ∧ Below w.heap.size w w' := by
  go_enter Yabv.func52, Yabv.ntmps52
  go_wp2
  go_loopw [5] (fun i wr => ∃ k : Nat, k ≤ p.length ∧ i = .int .i64 k ∧ Below w.heap.size w wr)
    (fun i _ => p.length - (intOf i).toNat)
  case atStart => exact ⟨0, Nat.zero_le _, rfl, Below.refl _ _⟩
  case round =>
    obtain ⟨k, hk, rfl, hbw⟩ := hrel
    by_cases hlt : k < p.length
    · obtain ⟨g, rfl⟩ := own_some ha (by omega)
      obtain ⟨g', rfl⟩ := own_some hb (by omega)
      have c0 := ownI_cell (own_below' ha hbw) k hlt
      have c1 := ownI_cell (own_below' hb hbw) k hlt
      have l0 : (0 : Int) ≤ (k : Int) := by omega
      have l1 : (k : Int) < (p.length : Int) := by omega
      go_wp2
      go_region
      all_goals
        go_wp2
        go_roundw
        case rel => exact ⟨k + 1, by omega, by go_num, hbw.drew⟩
        case measure => simp [intOf]; omega
    · go_wp2
      go_ret
      exact ⟨rfl, hbw⟩

set_option maxHeartbeats 400000 in
theorem sameS_any (a b : Option Addr) (ca cb : Nat) (p : List (Int × Int)) (w : World) (ha : w.ownsRow 0 78 2 (.slice a p.length ca) p.length (cellsS p))
    (hb : w.ownsRow 0 60 2 (.slice b p.length cb) p.length (cellsS p)) (hlen : p.length ≤ 1000000000) :
    Calls Yabv.prog 51 #[.slice a p.length ca, .slice b p.length cb] w fun e w' => e = .returned (.bool true) ∧ Below w.heap.size w w' := by
  go_enter Yabv.func51, Yabv.ntmps51
  go_wp2
  go_loopw [5] (fun i wr => ∃ k : Nat, k ≤ p.length ∧ i = .int .i64 k ∧ Below w.heap.size w wr)
    (fun i _ => p.length - (intOf i).toNat)
  case atStart => exact ⟨0, Nat.zero_le _, rfl, Below.refl _ _⟩
  case round =>
    obtain ⟨k, hk, rfl, hbw⟩ := hrel
    by_cases hlt : k < p.length
    · obtain ⟨g, rfl⟩ := own_some ha (by omega)
      obtain ⟨g', rfl⟩ := own_some hb (by omega)
      obtain ⟨c0, c1⟩ := ownS_cell (own_below' ha hbw) k hlt
      obtain ⟨d0, d1⟩ := ownS_cell (own_below' hb hbw) k hlt
      have l0 : (0 : Int) ≤ (k : Int) := by omega
      have l1 : (k : Int) < (p.length : Int) := by omega
      go_wp2
      go_quiet (fail)
      go_wp2
      go_roundw
      case rel => exact ⟨k + 1, by omega, by go_num, below_drewN hbw _⟩
      case measure => simp [intOf]; omega
    · go_wp2
      go_ret
      exact ⟨rfl, hbw⟩
end Go.Proofs.Yahabw
