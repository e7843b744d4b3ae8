import Derived.Test.YahabwSpecDep
set_option linter.unusedVariables false
set_option linter.unusedSimpArgs false
namespace Go.Proofs.Yahabw
open Go.RowKit

theorem implMaxD_any (a : Option Addr) (cap : Nat) (p : List (Int × Int)) (w : World) (hp : w.ownsRow 0 60 2 (.slice a p.length cap) p.length (cellsS p)) (hlen : p.length ≤ 1000000000) :
    Calls Yabv.prog 5 #[.slice a p.length cap] w fun e w' => ∃ m ok, e = .returned (.tuple #[.int .i64 m, .bool ok]) ∧ IsMD p m ok ∧ Below w.heap.size w w' := by
  go_enter Yabv.func5, Yabv.ntmps5
  go_wp2_with fail
  refine (implDep_any a cap p w hp hlen).mono ?_
  rintro e w1 (⟨a1, c1, dep, m, rfl, hm, _, _, _, _, _, hb⟩ | ⟨rfl, hm, hb⟩)
  · go_wp2
    go_ret2
    exact ⟨m, true, rfl, hm, hb⟩
  · go_wp2
    go_ret2
    exact ⟨0, false, rfl, hm, hb⟩

set_option maxHeartbeats 1000000 in
theorem specMaxD_any (a : Option Addr) (cap : Nat) (p : List (Int × Int)) (w : World) (hp : w.ownsRow 0 60 2 (.slice a p.length cap) p.length (cellsS p)) (hlen : p.length ≤ 1000000000) :
    Calls Yabv.prog 34 #[.slice a p.length cap] w fun e w' => ∃ m ok, e = .returned (.tuple #[.int .i64 m, .bool ok]) ∧ IsMD p m ok ∧ Below w.heap.size w w' := by
  go_enter Yabv.func34, Yabv.ntmps34
  go_wp2_with fail
  refine (specDep_any a cap p w hp hlen).mono ?_
  rintro e w1 (⟨a1, c1, dep, rfl, hg, hD, hb⟩ | ⟨rfl, hm, hb⟩)
  · have hsm := hg.small
    obtain ⟨g1, rfl⟩ := own_some hD (by omega)
    have hdl := hg.base.len
    have HDL := hide hdl
    clear hdl
    go_wp2_with fail
    go_loopw [6, 18] (fun mv kv wr => ∃ (m : Int) (k : Nat), mv = .int .i64 m ∧ kv = .int .i64 (k : Int) ∧ k ≤ p.length + 1 ∧ wr = w1 ∧ 0 ≤ m ∧ Hid (∀ j, j < k → ∀ x, dep[j]? = some x → x ≤ m) ∧ Hid (m = 0 ∨ ∃ i : Nat, dep[i]? = some m ∧ 0 ≤ m))
      (fun _ kv _ => p.length + 1 - (intOf kv).toNat)
    case atStart => exact ⟨0, 0, rfl, rfl, Nat.zero_le _, rfl, by omega, fun j hj => absurd hj (by omega), .inl rfl⟩
    case round =>
      obtain ⟨m, k, rfl, rfl, hk, rfl, hm0, HM, HA⟩ := hrel
      by_cases hlt : k < p.length + 1
      · obtain ⟨x, hx⟩ : ∃ x, dep[k]? = some x := ⟨_, List.getElem?_eq_getElem (by rw [unhide HDL]; exact hlt)⟩
        have cx := ownI_cell? hD hx
        have HX := hide hx
        clear hx
        have l1 : (k : Int) < (p.length : Int) + 1 := by omega
        by_cases hxm : m < x
        · go_wp2
          go_roundw
          case rel => exact ⟨x, k + 1, rfl, by go_num, by omega, trivial, by omega, fun j hj y hy => by
            by_cases e : j = k
            · subst e; have := unhide HX; rw [hy] at this; simp at this; omega
            · have := unhide HM j (by omega) y hy; omega, .inr ⟨k, unhide HX, by omega⟩⟩
          case measure => simp [intOf]; omega
        · go_wp2
          go_roundw
          case rel => exact ⟨m, k + 1, rfl, by go_num, by omega, trivial, by omega, fun j hj y hy => by
            by_cases e : j = k
            · subst e; have := unhide HX; rw [hy] at this; simp at this; omega
            · exact unhide HM j (by omega) y hy, HA⟩
          case measure => simp [intOf]; omega
      · go_wp2
        go_ret2
        refine ⟨m, true, rfl, isMD_dep hsm hg.base hg.clo (fun i x hx => unhide HM i ?_ x hx) (unhide HA), hb⟩
        have := (List.getElem?_eq_some_iff.1 hx).1
        rw [unhide HDL] at this
        omega
  · go_wp2
    go_ret2
    exact ⟨0, false, rfl, .inr ⟨rfl, rfl, hm⟩, hb⟩
end Go.Proofs.Yahabw
