import Derived.Test.YahabwSpecList
import Derived.Test.YahabwImplList
import Derived.Test.YahabwConv2
import Derived.Test.YahabwConv4
import Derived.Test.YahabwConv6
import Derived.Test.YahabwConv7
set_option linter.unusedVariables false
set_option linter.unusedSimpArgs false
namespace Go.Proofs.Yahabw
open Go.RowKit

set_option maxHeartbeats 1000000 in
theorem exList_any (a : Option Addr) (cap : Nat) (nb : Bool) (p : List R5) (w : World) (hp : w.ownsRow 0 82 5 (.slice a p.length cap) p.length (cellsR p)) (hlen : p.length ≤ 2000000) (ok : ∀ o ∈ p, Ok5 o) :
    Calls Yabv.prog 40 #[.slice a p.length cap, .string (strOfNums (listAux 0 p)), .bool nb] w fun e w' => e = .returned (.bool true) ∧ Below w.heap.size w w' := by
  have HC1 := fun (a1 : Option Addr) (c1 : Nat) (w1 : World) (h : w1.ownsRow 0 65 5 (.slice a1 p.length c1) p.length (cellsR p)) => implListing_any a1 c1 p w1 h hlen ok
  generalize strOfNums (listAux 0 p) = T at *
  have HC := hide HC1
  have hlen' : p.length ≤ 1000000000 := by omega
  clear HC1 ok
  go_enter Yabv.func40, Yabv.ntmps40
  go_wp2_with fail
  refine (toR_any a cap nb p _ hp hlen').mono ?_
  rintro e w1 ⟨a1, c1, rfl, hp1, hb1⟩
  go_wp2_with fail
  refine (unhide HC a1 c1 w1 (own_base hp1 (Nat.zero_le _))).mono ?_
  rintro e w2 ⟨rfl, hb2⟩
  have hp2 := own_below' hp1 hb2
  have HB2 : Below w.heap.size w w2 := hb1.trans (hb2.mono hb1.size)
  clear hb1 hb2 hp1
  go_wp2_with fail
  refine (sameR_any a a1 cap c1 p w2 (own_below' hp HB2) (own_base hp2 (Nat.zero_le _)) hlen').mono ?_
  rintro e w3 ⟨rfl, hb3⟩
  have hp3 := own_below' hp2 hb3
  have HB3 : Below w.heap.size w w3 := HB2.trans (hb3.mono HB2.size)
  clear hb3 hp2
  go_wp2_with fail
  refine (flipR_any a1 c1 w.heap.size p w3 hp3 hlen').mono ?_
  rintro e w4 ⟨rfl, hg4⟩
  have HB4 : Below w.heap.size w w4 := HB3.grown hg4 HB3.size (fun j hj => (hp3.lt j hj).1)
  clear hg4 hp3 HB3 HB2
  go_wp2_with fail
  refine (toR_any a cap nb p w4 (own_below' hp HB4) hlen').mono ?_
  rintro e w5 ⟨a5, c5, rfl, hp5, hb5⟩
  go_wp2_with fail
  refine (unhide HC a5 c5 w5 (own_base hp5 (Nat.zero_le _))).mono ?_
  rintro e w6 ⟨rfl, hb6⟩
  have hp6 := own_below' hp5 hb6
  have HB6 : Below w.heap.size w w6 := (HB4.trans (hb5.mono HB4.size)).trans (hb6.mono (HB4.trans (hb5.mono HB4.size)).size)
  clear hb5 hb6 hp5
  go_wp2_with fail
  refine (sameR_any a a5 cap c5 p w6 (own_below' hp HB6) (own_base hp6 (Nat.zero_le _)) hlen').mono ?_
  rintro e w7 ⟨rfl, hb7⟩
  go_wp2
  go_ret
  exact ⟨rfl, HB6.trans (hb7.mono HB6.size)⟩

set_option maxHeartbeats 1000000 in
theorem lawList_any (a : Option Addr) (cap : Nat) (p : List R5) (w : World) (hp : w.ownsRow 0 82 5 (.slice a p.length cap) p.length (cellsR p)) (hlen : p.length ≤ 1000000000) (ok : ∀ o ∈ p, Ok5 o) :
    Calls Yabv.prog 17 #[.slice a p.length cap] w fun e w' => e = .returned (.bool true) ∧ Below w.heap.size w w' := by
  by_cases hl : (1048576 : Int) < (p.length : Int)
  · go_enter Yabv.func17, Yabv.ntmps17
    go_wp2
    go_ret
    exact ⟨rfl, Below.refl _ _⟩
  have hlb : decide ((1048576 : Int) < (p.length : Int)) = false := by simpa using hl
  have hl2 : p.length ≤ 2000000 := by omega
  have HC1 := fun (w1 : World) (nb : Bool) (h : w1.ownsRow 0 82 5 (.slice a p.length cap) p.length (cellsR p)) => exList_any a cap nb p w1 h hl2 ok
  have HS1 := fun (a1 : Option Addr) (c1 : Nat) (w1 : World) (h : w1.ownsRow 0 65 5 (.slice a1 p.length c1) p.length (cellsR p)) => specListing_any a1 c1 p w1 h hl2 ok
  generalize strOfNums (listAux 0 p) = T at *
  have HC := hide HC1
  have HS := hide HS1
  clear hl HC1 HS1 ok
  go_enter Yabv.func17, Yabv.ntmps17
  go_wp2_with fail
  refine (toR_any a cap false p _ hp hlen).mono ?_
  rintro e w1 ⟨a1, c1, rfl, hp1, hb1⟩
  go_wp2_with fail
  refine (unhide HS a1 c1 w1 (own_base hp1 (Nat.zero_le _))).mono ?_
  rintro e w2 ⟨rfl, hb2⟩
  have HB2 : Below w.heap.size w w2 := hb1.trans (hb2.mono hb1.size)
  clear hb1 hb2 hp1
  go_wp2_with fail
  refine (unhide HC w2 true (own_below' hp HB2)).mono ?_
  rintro e w3 ⟨rfl, hb3⟩
  have HB3 : Below w.heap.size w w3 := HB2.trans (hb3.mono HB2.size)
  clear hb3 HB2
  go_wp2_with fail
  refine (unhide HC w3 false (own_below' hp HB3)).mono ?_
  rintro e w4 ⟨rfl, hb4⟩
  go_wp2
  go_ret
  exact ⟨rfl, HB3.trans (hb4.mono HB3.size)⟩
end Go.Proofs.Yahabw
