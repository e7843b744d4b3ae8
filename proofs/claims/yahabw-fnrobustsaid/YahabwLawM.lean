import Derived.Test.YahabwMaxD
import Derived.Test.YahabwConv1
import Derived.Test.YahabwConv3
import Derived.Test.YahabwConv5
import Derived.Test.YahabwConv7
set_option linter.unusedVariables false
set_option linter.unusedSimpArgs false
namespace Go.Proofs.Yahabw
open Go.RowKit

set_option maxHeartbeats 1000000 in
theorem exMaxD_any (a : Option Addr) (cap : Nat) (nb : Bool) (p : List (Int × Int)) (m : Int) (ok : Bool) (w : World) (hp : w.ownsRow 0 78 2 (.slice a p.length cap) p.length (cellsS p)) (hlen : p.length ≤ 1000000000) (hm : IsMD p m ok) :
    Calls Yabv.prog 35 #[.slice a p.length cap, .int .i64 m, .bool ok, .bool nb] w fun e w' => e = .returned (.bool true) ∧ Below w.heap.size w w' := by
  have HM := hide hm
  clear hm
  go_enter Yabv.func35, Yabv.ntmps35
  go_wp2_with fail
  refine (toS_any a cap nb p _ hp hlen).mono ?_
  rintro e w1 ⟨a1, c1, rfl, hp1, hb1⟩
  go_wp2_with fail
  refine (implMaxD_any a1 c1 p w1 (own_base hp1 (Nat.zero_le _)) hlen).mono ?_
  rintro e w2 ⟨m2, ok2, rfl, hm2, hb2⟩
  obtain ⟨rfl, rfl⟩ := IsMD.unique (unhide HM) hm2
  clear hm2
  have hp2 := own_below' hp1 hb2
  have HB2 : Below w.heap.size w w2 := hb1.trans (hb2.mono hb1.size)
  clear hb1 hb2 hp1
  go_wp2_with fail
  refine (sameS_any a a1 cap c1 p w2 (own_below' hp HB2) (own_base hp2 (Nat.zero_le _)) hlen).mono ?_
  rintro e w3 ⟨rfl, hb3⟩
  have hp3 := own_below' hp2 hb3
  have HB3 : Below w.heap.size w w3 := HB2.trans (hb3.mono HB2.size)
  clear hb3 hp2
  go_wp2_with fail
  refine (flipS_any a1 c1 w.heap.size p w3 hp3 hlen).mono ?_
  rintro e w4 ⟨rfl, hg4⟩
  have HB4 : Below w.heap.size w w4 := HB3.grown hg4 HB3.size (fun j hj => (hp3.lt j hj).1)
  clear hg4 hp3 HB3 HB2
  go_wp2_with fail
  refine (toS_any a cap nb p w4 (own_below' hp HB4) hlen).mono ?_
  rintro e w5 ⟨a5, c5, rfl, hp5, hb5⟩
  go_wp2_with fail
  refine (implMaxD_any a5 c5 p w5 (own_base hp5 (Nat.zero_le _)) hlen).mono ?_
  rintro e w6 ⟨m6, ok6, rfl, hm6, hb6⟩
  obtain ⟨rfl, rfl⟩ := IsMD.unique (unhide HM) hm6
  clear hm6
  have hp6 := own_below' hp5 hb6
  have HB6 : Below w.heap.size w w6 := (HB4.trans (hb5.mono HB4.size)).trans (hb6.mono (HB4.trans (hb5.mono HB4.size)).size)
  clear hb5 hb6 hp5
  go_wp2_with fail
  refine (sameS_any a a5 cap c5 p w6 (own_below' hp HB6) (own_base hp6 (Nat.zero_le _)) hlen).mono ?_
  rintro e w7 ⟨rfl, hb7⟩
  go_wp2
  go_ret
  exact ⟨rfl, HB6.trans (hb7.mono HB6.size)⟩

set_option maxHeartbeats 1000000 in
theorem lawMaxD_any (a : Option Addr) (cap : Nat) (p : List (Int × Int)) (w : World) (hp : w.ownsRow 0 78 2 (.slice a p.length cap) p.length (cellsS p)) (hlen : p.length ≤ 1000000000) :
    Calls Yabv.prog 14 #[.slice a p.length cap] w fun e w' => e = .returned (.bool true) ∧ Below w.heap.size w w' := by
  by_cases hl : (1048576 : Int) < (p.length : Int)
  · go_enter Yabv.func14, Yabv.ntmps14
    go_wp2
    go_ret
    exact ⟨rfl, Below.refl _ _⟩
  have hlb : decide ((1048576 : Int) < (p.length : Int)) = false := by simpa using hl
  clear hl
  go_enter Yabv.func14, Yabv.ntmps14
  go_wp2_with fail
  refine (toS_any a cap false p _ hp hlen).mono ?_
  rintro e w1 ⟨a1, c1, rfl, hp1, hb1⟩
  go_wp2_with fail
  refine (specMaxD_any a1 c1 p w1 (own_base hp1 (Nat.zero_le _)) hlen).mono ?_
  rintro e w2 ⟨m, ok, rfl, hm, hb2⟩
  have HB2 : Below w.heap.size w w2 := hb1.trans (hb2.mono hb1.size)
  have HM := hide hm
  clear hm hb1 hb2 hp1
  go_wp2_with fail
  refine (exMaxD_any a cap true p m ok w2 (own_below' hp HB2) hlen (unhide HM)).mono ?_
  rintro e w3 ⟨rfl, hb3⟩
  have HB3 : Below w.heap.size w w3 := HB2.trans (hb3.mono HB2.size)
  clear hb3 HB2
  go_wp2_with fail
  refine (exMaxD_any a cap false p m ok w3 (own_below' hp HB3) hlen (unhide HM)).mono ?_
  rintro e w4 ⟨rfl, hb4⟩
  go_wp2
  go_ret
  exact ⟨rfl, HB3.trans (hb4.mono HB3.size)⟩
end Go.Proofs.Yahabw
