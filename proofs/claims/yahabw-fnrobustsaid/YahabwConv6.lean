import Derived.Test.YahabwBase
set_option linter.unusedVariables false
set_option linter.unusedSimpArgs false
namespace Go.Proofs.Yahabw
open Go.RowKit

set_option maxHeartbeats 1000000 in
theorem sameR_any (a b : Option Addr) (ca cb : Nat) (p : List R5) (w : World) (ha : w.ownsRow 0 82 5 (.slice a p.length ca) p.length (cellsR p))
    (hb : w.ownsRow 0 65 5 (.slice b p.length cb) p.length (cellsR p)) (hlen : p.length ≤ 1000000000) :
    Calls Yabv.prog 58 #[.slice a p.length ca, .slice b p.length cb] w fun e w' => e = .returned (.bool true) ∧ Below w.heap.size w w' := by
  go_enter Yabv.func58, Yabv.ntmps58
  go_wp2
  go_loopw [5] (fun i wr => ∃ k : Nat, k ≤ p.length ∧ i = .int .i64 k ∧ Below w.heap.size w wr)
    (fun i _ => p.length - (intOf i).toNat)
  case atStart => exact ⟨0, Nat.zero_le _, rfl, Below.refl _ _⟩
  case round =>
    obtain ⟨k, hk, rfl, hbw⟩ := hrel
    by_cases hlt : k < p.length
    · obtain ⟨g, rfl⟩ := own_some ha (by omega)
      obtain ⟨g', rfl⟩ := own_some hb (by omega)
      have hgl := ((own_below' ha hbw).lt g rfl).2
      have hgl' := ((own_below' hb hbw).lt g' rfl).2
      obtain ⟨c0, c1, c2, c3, c4⟩ := ownR_cell (own_below' ha hbw) k hlt
      obtain ⟨d0, d1, d2, d3, d4⟩ := ownR_cell (own_below' hb hbw) k hlt
      have l0 : (0 : Int) ≤ (k : Int) := by omega
      have l1 : (k : Int) < (p.length : Int) := by omega
      have hsz := hbw.size
      go_wp2
      go_roundw
      case rel => exact ⟨k + 1, by omega, by go_num, ((hbw.alloc hbw.size _).alloc (by simp; omega) _)⟩
      case measure => simp [intOf]; omega
    · go_wp2
      go_ret
      exact ⟨rfl, hbw⟩
end Go.Proofs.Yahabw
