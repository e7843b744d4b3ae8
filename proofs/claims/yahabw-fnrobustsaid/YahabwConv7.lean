import Derived.Test.YahabwBase
set_option linter.unusedVariables false
set_option linter.unusedSimpArgs false
namespace Go.Proofs.Yahabw
open Go.RowKit

theorem stored5 {w : World} {base e size n cap g : Nat} {xs : List Value} (h : w.ownsRow base e size (.slice (some ⟨g, 0, none⟩) n cap) n xs) (j0 j1 j2 j3 j4 : Nat) (v0 v1 v2 v3 v4 : Value) :
    w.grownBy (((((w.setCell ⟨g, j0, none⟩ v0).setCell ⟨g, j1, none⟩ v1).setCell ⟨g, j2, none⟩ v2).setCell ⟨g, j3, none⟩ v3).setCell ⟨g, j4, none⟩ v4) (some g) := by
  have h0 := h.stored j0 v0
  have h1 := h0.1.stored j1 v1
  have h2 := h1.1.stored j2 v2
  have h3 := h2.1.stored j3 v3
  have h4 := h3.1.stored j4 v4
  exact grown_trans h0.2 (grown_trans h1.2 (grown_trans h2.2 (grown_trans h3.2 h4.2)))

set_option maxHeartbeats 400000 in
theorem flipI_any (a : Option Addr) (cap base : Nat) (p : List Int) (w : World) (hp : w.ownsRow base 2 1 (.slice a p.length cap) p.length (p.map (Value.int .i64))) (hlen : p.length ≤ 1000000000) :
    Calls Yabv.prog 54 #[.slice a p.length cap] w fun e w' => e = .returned (.tuple #[]) ∧ w.grownBy w' (Value.slice a p.length cap).ownBlock := by
  go_enter Yabv.func54, Yabv.ntmps54
  go_wp2
  go_loopw [2] (fun i wr => ∃ k : Nat, ∃ q : List Int, k ≤ p.length ∧ i = .int .i64 k ∧ w.grownBy wr (Value.slice a p.length cap).ownBlock ∧ q.length = p.length ∧
      wr.ownsRow base 2 1 (.slice a p.length cap) p.length (q.map (Value.int .i64)))
    (fun i _ => p.length - (intOf i).toNat)
  case atStart => exact ⟨0, p, Nat.zero_le _, rfl, World.grownBy.refl _ _, rfl, hp⟩
  case round =>
    obtain ⟨k, q, hk, rfl, hgr, hq, how⟩ := hrel
    by_cases hlt : k < p.length
    · obtain ⟨g, rfl⟩ := own_some hp (by omega)
      have hgl := (how.lt g rfl).2
      obtain ⟨x0, c0⟩ : ∃ x, wr.cell? ⟨g, k, none⟩ = some (.int .i64 x) := ⟨_, ownI_cell how k (by omega)⟩
      have l0 : (0 : Int) ≤ (k : Int) := by omega
      have l1 : (k : Int) < (p.length : Int) := by omega
      have f0 := how.frozenAt k
      have hkq : k < q.length := by omega
      have HQ := hide hq
      clear hq
      go_wp2
      go_roundw
      case rel => exact ⟨k + 1, _, by omega, by go_num, grown_trans hgr (how.stored _ _).2, by rw [List.length_set]; exact unhide HQ, ownI_store how k _⟩
      case measure => simp [intOf]; omega
    · go_wp2
      go_end0
      exact ⟨rfl, hgr⟩

set_option maxHeartbeats 400000 in
theorem flipS_any (a : Option Addr) (cap base : Nat) (p : List (Int × Int)) (w : World) (hp : w.ownsRow base 60 2 (.slice a p.length cap) p.length (cellsS p)) (hlen : p.length ≤ 1000000000) :
    Calls Yabv.prog 53 #[.slice a p.length cap] w fun e w' => e = .returned (.tuple #[]) ∧ w.grownBy w' (Value.slice a p.length cap).ownBlock := by
  go_enter Yabv.func53, Yabv.ntmps53
  go_wp2
  go_loopw [2] (fun i wr => ∃ k : Nat, ∃ q : List (Int × Int), k ≤ p.length ∧ i = .int .i64 k ∧ w.grownBy wr (Value.slice a p.length cap).ownBlock ∧ q.length = p.length ∧
      wr.ownsRow base 60 2 (.slice a p.length cap) p.length (cellsS q))
    (fun i _ => p.length - (intOf i).toNat)
  case atStart => exact ⟨0, p, Nat.zero_le _, rfl, World.grownBy.refl _ _, rfl, hp⟩
  case round =>
    obtain ⟨k, q, hk, rfl, hgr, hq, how⟩ := hrel
    by_cases hlt : k < p.length
    · obtain ⟨g, rfl⟩ := own_some hp (by omega)
      have hgl := (how.lt g rfl).2
      obtain ⟨x0, x1, c0, c1⟩ : ∃ x y, wr.cell? ⟨g, k * 2, none⟩ = some (.int .i64 x) ∧ wr.cell? ⟨g, k * 2 + 1, none⟩ = some (.int .i64 y) := ⟨_, _, ownS_cell how k (by omega)⟩
      have l0 : (0 : Int) ≤ (k : Int) := by omega
      have l1 : (k : Int) < (p.length : Int) := by omega
      have f0 := how.frozenAt (k * 2)
      have f1 := how.frozenAt (k * 2 + 1)
      have hkq : k < q.length := by omega
      have HQ := hide hq
      clear hq
      go_wp2
      go_roundw
      case rel =>
        refine ⟨k + 1, _, by omega, by go_num, ?_, ?_, (ownS_store how k hkq _ _).alloc _⟩
        · exact grown_trans hgr (grown_trans (grown_trans (how.stored _ _).2 ((how.stored _ _).1.stored _ _).2) (World.grownBy_alloc _ _ _))
        · rw [List.length_set]; exact unhide HQ
      case measure => simp [intOf]; omega
    · go_wp2
      go_end0
      exact ⟨rfl, hgr⟩

set_option maxHeartbeats 400000 in
theorem flipR_any (a : Option Addr) (cap base : Nat) (p : List R5) (w : World) (hp : w.ownsRow base 65 5 (.slice a p.length cap) p.length (cellsR p)) (hlen : p.length ≤ 1000000000) :
    Calls Yabv.prog 59 #[.slice a p.length cap] w fun e w' => e = .returned (.tuple #[]) ∧ w.grownBy w' (Value.slice a p.length cap).ownBlock := by
  go_enter Yabv.func59, Yabv.ntmps59
  go_wp2
  go_loopw [2] (fun i wr => ∃ k : Nat, ∃ q : List R5, k ≤ p.length ∧ i = .int .i64 k ∧ w.grownBy wr (Value.slice a p.length cap).ownBlock ∧ q.length = p.length ∧
      wr.ownsRow base 65 5 (.slice a p.length cap) p.length (cellsR q))
    (fun i _ => p.length - (intOf i).toNat)
  case atStart => exact ⟨0, p, Nat.zero_le _, rfl, World.grownBy.refl _ _, rfl, hp⟩
  case round =>
    obtain ⟨k, q, hk, rfl, hgr, hq, how⟩ := hrel
    by_cases hlt : k < p.length
    · obtain ⟨g, rfl⟩ := own_some hp (by omega)
      have hgl := (how.lt g rfl).2
      obtain ⟨x0, x1, x2, x3, x4, c0, c1, c2, c3, c4⟩ : ∃ x0 x1 x2 x3 x4, wr.cell? ⟨g, k * 5, none⟩ = some (.int .i64 x0) ∧ wr.cell? ⟨g, k * 5 + 1, none⟩ = some (.int .i64 x1) ∧ wr.cell? ⟨g, k * 5 + 2, none⟩ = some (.int .i64 x2) ∧ wr.cell? ⟨g, k * 5 + 3, none⟩ = some (.int .i64 x3) ∧ wr.cell? ⟨g, k * 5 + 4, none⟩ = some (.int .i64 x4) := ⟨_, _, _, _, _, ownR_cell how k (by omega)⟩
      have l0 : (0 : Int) ≤ (k : Int) := by omega
      have l1 : (k : Int) < (p.length : Int) := by omega
      have f0 := how.frozenAt (k * 5)
      have f1 := how.frozenAt (k * 5 + 1)
      have f2 := how.frozenAt (k * 5 + 2)
      have f3 := how.frozenAt (k * 5 + 3)
      have f4 := how.frozenAt (k * 5 + 4)
      have hkq : k < q.length := by omega
      have HQ := hide hq
      clear hq
      go_wp2
      go_roundw
      case rel =>
        refine ⟨k + 1, _, by omega, by go_num, ?_, ?_, (ownR_store how k hkq _ _ _ _ _).alloc _⟩
        · exact grown_trans hgr (grown_trans (stored5 how _ _ _ _ _ _ _ _ _ _) (World.grownBy_alloc _ _ _))
        · rw [List.length_set]; exact unhide HQ
      case measure => simp [intOf]; omega
    · go_wp2
      go_end0
      exact ⟨rfl, hgr⟩

end Go.Proofs.Yahabw
