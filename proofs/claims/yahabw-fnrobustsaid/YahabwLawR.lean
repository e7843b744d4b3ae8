import Derived.Test.YahabwImplRunReg
import Derived.Test.YahabwSpecRunReg
import Derived.Test.YahabwConv4
import Derived.Test.YahabwConv6
import Derived.Test.YahabwOut2
import Derived.Test.YahabwOut3
import Derived.Test.YahabwConv7
import Derived.Test.YahabwLawK
set_option linter.unusedVariables false
set_option linter.unusedSimpArgs false
namespace Go.Proofs.Yahabw
open Go.RowKit

set_option maxRecDepth 100000 in
set_option maxHeartbeats 4000000 in
theorem exRunR_any (a a2 a3 : Option Addr) (cap cap2 cap3 : Nat) (nb : Bool) (nregs : Int) (p : List R5) (args vs : List Int) (s1 st : Int) (w : World) (hp : w.ownsRow 0 82 5 (.slice a p.length cap) p.length (cellsR p))
    (ha : w.ownsRow 0 2 1 (.slice a2 args.length cap2) args.length (args.map (Value.int .i64))) (hv : w.ownsRow 0 2 1 (.slice a3 vs.length cap3) vs.length (vs.map (Value.int .i64)))
    (hR : runReg p nregs args = (s1, vs, st)) (hlen : p.length ≤ 1000000000) (hlen2 : args.length ≤ 1000000000) (hlen3 : vs.length ≤ 1000000000) :
    Calls Yabv.prog 38 #[.slice a p.length cap, .int .i64 nregs, .slice a2 args.length cap2, .agg #[.int .i64 s1, .slice a3 vs.length cap3, .int .i64 st], .bool nb] w fun e w' => e = .returned (.bool true) ∧ Below w.heap.size w w' := by
  have HC1 := fun (b1 b2 : Option Addr) (d1 d2 : Nat) (u : World) (h1 : u.ownsRow 0 65 5 (.slice b1 p.length d1) p.length (cellsR p)) (h2 : u.ownsRow 0 2 1 (.slice b2 args.length d2) args.length (args.map (Value.int .i64))) => implRunReg_any b1 b2 d1 d2 nregs p args u h1 h2 hlen hlen2
  rw [hR] at HC1
  have HC := hide HC1
  clear HC1 hR
  go_enter Yabv.func38, Yabv.ntmps38
  go_wp2_with fail
  refine (toR_any a cap nb p _ (hp.alloc _) hlen).mono ?_
  rintro e w1 ⟨a1, c1, rfl, hp1', hb1⟩
  have HB1 : Below w.heap.size w w1 := ((Below.refl _ _).alloc (Nat.le_refl _) _).trans (hb1.mono (by simp))
  have B1 : w1.heap[w.heap.size]? = some (.cells #[.int .i64 s1, .slice a3 vs.length cap3, .int .i64 st] 73 (0, 0)) := keepb hb1 (heap_alloc_new w _) (by simp)
  have hp1 : w1.ownsRow (w.heap.size + 1) 65 5 (.slice a1 p.length c1) p.length (cellsR p) := own_base hp1' (by simp)
  have hs1 : w.heap.size + 1 ≤ w1.heap.size := blk_lt B1
  have hpj : ∀ j, (Value.slice a1 p.length c1).ownBlock = some j → w.heap.size < j ∧ j < w1.heap.size := fun j hj => ⟨(hp1.lt j hj).1, (hp1.lt j hj).2⟩
  clear hb1 hp1'
  go_wp2_with fail
  refine (copyI_any a2 cap2 nb args w1 (own_below' ha HB1) hlen2).mono ?_
  rintro e w2 ⟨a21, c21, rfl, ha2, hb2⟩
  have HB2 : Below w.heap.size w w2 := HB1.trans (hb2.mono HB1.size)
  have B2 := keepb hb2 B1 (blk_lt B1)
  have hp2 := own_below' hp1 hb2
  have hs2 : w1.heap.size ≤ w2.heap.size := hb2.size
  have haj : ∀ j, (Value.slice a21 args.length c21).ownBlock = some j → w1.heap.size ≤ j ∧ j < w2.heap.size := fun j hj => ⟨(ha2.lt j hj).1, (ha2.lt j hj).2⟩
  clear hb2 hp1 B1 HB1
  go_wp2_with fail
  refine (unhide HC a1 a21 c1 c21 w2 (own_base hp2 (Nat.zero_le _)) (own_base ha2 (Nat.zero_le _))).mono ?_
  rintro e w3 ⟨ag, cg, rfl, hg3', hb3⟩
  have hg3 : w3.ownsRow w2.heap.size 2 1 (.slice ag vs.length cg) vs.length (vs.map (Value.int .i64)) := hg3'
  have HB3 : Below w.heap.size w w3 := HB2.trans (hb3.mono HB2.size)
  have B3 := keepb hb3 B2 (blk_lt B2)
  have hp3 := own_below' hp2 hb3
  have ha3 := own_below' ha2 hb3
  have hs3 : w2.heap.size ≤ w3.heap.size := hb3.size
  have hgj : ∀ j, (Value.slice ag vs.length cg).ownBlock = some j → w2.heap.size ≤ j ∧ j < w3.heap.size := fun j hj => ⟨(hg3.lt j hj).1, (hg3.lt j hj).2⟩
  clear hb3 hp2 ha2 B2 HB2 hg3'
  go_wp2
  generalize hWW : World.alloc w3 _ = W
  have HBW : Below w.heap.size w W := by rw [← hWW]; exact HB3.alloc HB3.size _
  have B0 : W.heap[w.heap.size]? = some (.cells #[.int .i64 s1, .slice a3 vs.length cap3, .int .i64 st] 73 (0, 0)) := by rw [← hWW, Below.heap_alloc _ _ _ (blk_lt B3)]; exact B3
  have B1 : W.heap[w3.heap.size]? = some (.cells #[.int .i64 s1, .slice ag vs.length cg, .int .i64 st] 34 (0, 0)) := by rw [← hWW]; exact heap_alloc_new w3 _
  have hpW : W.ownsRow (w.heap.size + 1) 65 5 (.slice a1 p.length c1) p.length (cellsR p) := by rw [← hWW]; exact hp3.alloc _
  have haW : W.ownsRow w1.heap.size 2 1 (.slice a21 args.length c21) args.length (args.map (Value.int .i64)) := by rw [← hWW]; exact ha3.alloc _
  have hgW : W.ownsRow w2.heap.size 2 1 (.slice ag vs.length cg) vs.length (vs.map (Value.int .i64)) := by rw [← hWW]; exact hg3.alloc _
  clear hWW HB3 B3 hp3 ha3 hg3
  have hz0 : w.heap.size < W.heap.size := blk_lt B0
  have hz1 : w3.heap.size < W.heap.size := blk_lt B1
  generalize w3.heap.size = bx at *
  generalize w2.heap.size = n2 at *
  generalize w1.heap.size = n1 at *
  have q0 : W.cell? ⟨w.heap.size, 0, none⟩ = some (.int .i64 s1) := blk_cell B0 0 rfl
  have q1 : W.cell? ⟨w.heap.size, 1, none⟩ = some (.slice a3 vs.length cap3) := blk_cell B0 1 rfl
  have q2 : W.cell? ⟨w.heap.size, 2, none⟩ = some (.int .i64 st) := blk_cell B0 2 rfl
  have q3 : W.cell? ⟨bx, 0, none⟩ = some (.int .i64 s1) := blk_cell B1 0 rfl
  have q4 : W.cell? ⟨bx, 1, none⟩ = some (.slice ag vs.length cg) := blk_cell B1 1 rfl
  have q5 : W.cell? ⟨bx, 2, none⟩ = some (.int .i64 st) := blk_cell B1 2 rfl
  have Q := And.intro q0 (And.intro q1 (And.intro q2 (And.intro q3 (And.intro q4 q5))))
  have tB := HBW
  go_region_held3 (fun w' => w'.cell? ⟨w.heap.size, 0, none⟩ = some (.int .i64 s1) ∧ w'.cell? ⟨w.heap.size, 1, none⟩ = some (.slice a3 vs.length cap3) ∧ w'.cell? ⟨w.heap.size, 2, none⟩ = some (.int .i64 st) ∧ w'.cell? ⟨bx, 0, none⟩ = some (.int .i64 s1) ∧ w'.cell? ⟨bx, 1, none⟩ = some (.slice ag vs.length cg) ∧ w'.cell? ⟨bx, 2, none⟩ = some (.int .i64 st)) (first | assumption | (simp [go_sem, *]; done))
    (first | (go_at_call 29; refine (fromOutcome_any ag cg vs s1 st W.drew (own_base (World.ownsRow.drew hgW) (Nat.zero_le _)) hlen3).mono ?_; rintro e t1 ⟨ta, tc, rfl, tow, tb1⟩; have ts1 := keep6 tb1 Q hz0 hz1) | (go_at_call 50; refine (sameOutcome_any ta a3 tc cap3 vs s1 st t1 (own_base tow (Nat.zero_le _)) (own_below' (own_below' hv (Below.drew tB)) tb1) hlen3).mono ?_; rintro e t2 ⟨rfl, tb2⟩; have tc2 := tb1.trans (tb2.mono tb1.size); have ts2 := keep6 tc2 Q hz0 hz1) | (go_at_call 58; refine (sameR_any a a1 cap c1 p t2 (own_below' (own_below' hp (Below.drew tB)) tc2) (own_base (own_below' (World.ownsRow.drew hpW) tc2) (Nat.zero_le _)) hlen).mono ?_; rintro e t3 ⟨rfl, tb3⟩; have tc3 := tc2.trans (tb3.mono tc2.size); have ts3 := keep6 tc3 Q hz0 hz1) | (go_at_call 52; refine (sameI_any a2 a21 cap2 c21 args t3 (own_below' (own_below' ha (Below.drew tB)) tc3) (own_base (own_below' (World.ownsRow.drew haW) tc3) (Nat.zero_le _)) hlen2).mono ?_; rintro e t4 ⟨rfl, tb4⟩; have tc4 := tc3.trans (tb4.mono tc3.size); have ts4 := keep6 tc4 Q hz0 hz1))
  have B0' := keepb tc4 B0 hz0
  have B1' := keepb tc4 B1 hz1
  have hp4 := own_below' (World.ownsRow.drew hpW) tc4
  have ha4 := own_below' (World.ownsRow.drew haW) tc4
  have hg4 := own_below' (World.ownsRow.drew hgW) tc4
  have HB4 : Below w.heap.size w t4 := (Below.drew HBW).trans (tc4.mono HBW.size)
  clear tc4 tb4 ts4 tc3 tb3 ts3 tc2 tb2 ts2 tb1 ts1 tow Q q0 q1 q2 q3 q4 q5 tB hz0 hz1 B0 B1 hpW haW hgW HBW
  go_wp2_with fail
  refine (flipR_any a1 c1 (w.heap.size + 1) p t4 hp4 hlen).mono ?_
  rintro e w5 ⟨rfl, hg5⟩
  have HB5 : Below w.heap.size w w5 := HB4.grown hg5 HB4.size (fun j hj => by have := hpj j hj; omega)
  have B05 := keepg hg5 B0' (fun e => by have := hpj _ e.symm; omega)
  have B15 := keepg hg5 B1' (fun e => by have := hpj _ e.symm; omega)
  have ha5 := ha4.kept hg5 (own_apart haj hpj (fun i j h1 h2 => by omega))
  have hG5 := hg4.kept hg5 (own_apart hgj hpj (fun i j h1 h2 => by omega))
  clear hg5 hp4 ha4 hg4 B0' B1' HB4
  go_wp2_with fail
  refine (flipI_any a21 c21 n1 args w5 ha5 hlen2).mono ?_
  rintro e w6 ⟨rfl, hg6⟩
  have HB6 : Below w.heap.size w w6 := HB5.grown hg6 HB5.size (fun j hj => by have := haj j hj; omega)
  have B06 := keepg hg6 B05 (fun e => by have := haj _ e.symm; omega)
  have B16 := keepg hg6 B15 (fun e => by have := haj _ e.symm; omega)
  have hG6 := hG5.kept hg6 (own_apart hgj haj (fun i j h1 h2 => by omega))
  clear hg6 ha5 hG5 B05 B15 HB5 hpj haj
  have hz0 : w.heap.size < w6.heap.size := blk_lt B06
  have hz1 : bx < w6.heap.size := blk_lt B16
  have q0 : w6.cell? ⟨w.heap.size, 0, none⟩ = some (.int .i64 s1) := blk_cell B06 0 rfl
  have q1 : w6.cell? ⟨w.heap.size, 1, none⟩ = some (.slice a3 vs.length cap3) := blk_cell B06 1 rfl
  have q2 : w6.cell? ⟨w.heap.size, 2, none⟩ = some (.int .i64 st) := blk_cell B06 2 rfl
  have q3 : w6.cell? ⟨bx, 0, none⟩ = some (.int .i64 s1) := blk_cell B16 0 rfl
  have q4 : w6.cell? ⟨bx, 1, none⟩ = some (.slice ag vs.length cg) := blk_cell B16 1 rfl
  have q5 : w6.cell? ⟨bx, 2, none⟩ = some (.int .i64 st) := blk_cell B16 2 rfl
  have Q := And.intro q0 (And.intro q1 (And.intro q2 (And.intro q3 (And.intro q4 q5))))
  have xB := HB6
  go_wp2
  go_region_held3 (fun w' => w'.cell? ⟨w.heap.size, 0, none⟩ = some (.int .i64 s1) ∧ w'.cell? ⟨w.heap.size, 1, none⟩ = some (.slice a3 vs.length cap3) ∧ w'.cell? ⟨w.heap.size, 2, none⟩ = some (.int .i64 st) ∧ w'.cell? ⟨bx, 0, none⟩ = some (.int .i64 s1) ∧ w'.cell? ⟨bx, 1, none⟩ = some (.slice ag vs.length cg) ∧ w'.cell? ⟨bx, 2, none⟩ = some (.int .i64 st)) (first | assumption | (simp [go_sem, *]; done))
    (first | (go_at_call 29; refine (fromOutcome_any ag cg vs s1 st w6.drew (own_base (World.ownsRow.drew hG6) (Nat.zero_le _)) hlen3).mono ?_; rintro e x1 ⟨xa, xc, rfl, xow, xb1⟩; have xs1 := keep6 xb1 Q hz0 hz1) | (go_at_call 50; refine (sameOutcome_any xa a3 xc cap3 vs s1 st x1 (own_base xow (Nat.zero_le _)) (own_below' (own_below' hv (Below.drew xB)) xb1) hlen3).mono ?_; rintro e x2 ⟨rfl, xb2⟩; have xc2 := xb1.trans (xb2.mono xb1.size); have xs2 := keep6 xc2 Q hz0 hz1))
  have B07 := keepb xc2 B06 hz0
  have B17 := keepb xc2 B16 hz1
  have hG7 := own_below' (World.ownsRow.drew hG6) xc2
  have HB7 : Below w.heap.size w x2 := (Below.drew HB6).trans (xc2.mono HB6.size)
  clear xc2 xb2 xs2 xb1 xs1 xow Q q0 q1 q2 q3 q4 q5 xB hz0 hz1 B06 B16 hG6 HB6
  have q4 : x2.cell? ⟨bx, 1, none⟩ = some (.slice ag vs.length cg) := blk_cell B17 1 rfl
  go_wp2_with fail
  refine (flipI_any ag cg n2 vs x2 hG7 hlen3).mono ?_
  rintro e w8 ⟨rfl, hg8⟩
  have HB8 : Below w.heap.size w w8 := HB7.grown hg8 HB7.size (fun j hj => by have := hgj j hj; omega)
  have B08 := keepg hg8 B07 (fun e => by have := hgj _ e.symm; omega)
  clear hg8 hG7 B07 B17 HB7 hgj q4
  clear hs3 hs2 hs1
  go_wp2_with fail
  refine (toR_any a cap nb p w8 (own_below' hp HB8) hlen).mono ?_
  rintro e w9 ⟨a9, c9, rfl, hp9, hb9⟩
  have HB9 : Below w.heap.size w w9 := HB8.trans (hb9.mono HB8.size)
  have B09 := keepb hb9 B08 (blk_lt B08)
  clear hb9 HB8 B08
  go_wp2_with fail
  refine (copyI_any a2 cap2 nb args w9 (own_below' ha HB9) hlen2).mono ?_
  rintro e w10 ⟨a10, c10, rfl, ha10, hb10⟩
  have HB10 : Below w.heap.size w w10 := HB9.trans (hb10.mono HB9.size)
  have B010 := keepb hb10 B09 (blk_lt B09)
  have hp10 := own_below' hp9 hb10
  clear hb10 HB9 B09 hp9
  go_wp2_with fail
  refine (unhide HC a9 a10 c9 c10 w10 (own_base hp10 (Nat.zero_le _)) (own_base ha10 (Nat.zero_le _))).mono ?_
  rintro e w11 ⟨ah, ch, rfl, hg11', hb11⟩
  have hg11 : w11.ownsRow w10.heap.size 2 1 (.slice ah vs.length ch) vs.length (vs.map (Value.int .i64)) := hg11'
  have HB11 : Below w.heap.size w w11 := HB10.trans (hb11.mono HB10.size)
  have B11 := keepb hb11 B010 (blk_lt B010)
  have hp11 := own_below' hp10 hb11
  have ha11 := own_below' ha10 hb11
  clear hb11 hp10 ha10 B010 HB10 hg11'
  go_wp2
  generalize hWW : World.alloc w11 _ = V
  have HBV : Below w.heap.size w V := by rw [← hWW]; exact HB11.alloc HB11.size _
  have B0 : V.heap[w.heap.size]? = some (.cells #[.int .i64 s1, .slice a3 vs.length cap3, .int .i64 st] 73 (0, 0)) := by rw [← hWW, Below.heap_alloc _ _ _ (blk_lt B11)]; exact B11
  have B1 : V.heap[w11.heap.size]? = some (.cells #[.int .i64 s1, .slice ah vs.length ch, .int .i64 st] 34 (0, 0)) := by rw [← hWW]; exact heap_alloc_new w11 _
  have hpV := hp11.alloc (.cells #[.int .i64 s1, .slice ah vs.length ch, .int .i64 st] 34)
  have haV := ha11.alloc (.cells #[.int .i64 s1, .slice ah vs.length ch, .int .i64 st] 34)
  have hgV := hg11.alloc (.cells #[.int .i64 s1, .slice ah vs.length ch, .int .i64 st] 34)
  rw [hWW] at hpV haV hgV
  clear hWW HB11 B11 hp11 ha11 hg11
  have hz0 : w.heap.size < V.heap.size := blk_lt B0
  have hz1 : w11.heap.size < V.heap.size := blk_lt B1
  generalize w11.heap.size = by2 at *
  have q0 : V.cell? ⟨w.heap.size, 0, none⟩ = some (.int .i64 s1) := blk_cell B0 0 rfl
  have q1 : V.cell? ⟨w.heap.size, 1, none⟩ = some (.slice a3 vs.length cap3) := blk_cell B0 1 rfl
  have q2 : V.cell? ⟨w.heap.size, 2, none⟩ = some (.int .i64 st) := blk_cell B0 2 rfl
  have q3 : V.cell? ⟨by2, 0, none⟩ = some (.int .i64 s1) := blk_cell B1 0 rfl
  have q4 : V.cell? ⟨by2, 1, none⟩ = some (.slice ah vs.length ch) := blk_cell B1 1 rfl
  have q5 : V.cell? ⟨by2, 2, none⟩ = some (.int .i64 st) := blk_cell B1 2 rfl
  have Q := And.intro q0 (And.intro q1 (And.intro q2 (And.intro q3 (And.intro q4 q5))))
  have uB := HBV
  go_region_held3 (fun w' => w'.cell? ⟨w.heap.size, 0, none⟩ = some (.int .i64 s1) ∧ w'.cell? ⟨w.heap.size, 1, none⟩ = some (.slice a3 vs.length cap3) ∧ w'.cell? ⟨w.heap.size, 2, none⟩ = some (.int .i64 st) ∧ w'.cell? ⟨by2, 0, none⟩ = some (.int .i64 s1) ∧ w'.cell? ⟨by2, 1, none⟩ = some (.slice ah vs.length ch) ∧ w'.cell? ⟨by2, 2, none⟩ = some (.int .i64 st)) (first | assumption | (simp [go_sem, *]; done))
    (first | (go_at_call 29; refine (fromOutcome_any ah ch vs s1 st V.drew (own_base (World.ownsRow.drew hgV) (Nat.zero_le _)) hlen3).mono ?_; rintro e u1 ⟨ua, uc, rfl, uow, ub1⟩; have us1 := keep6 ub1 Q hz0 hz1) | (go_at_call 50; refine (sameOutcome_any ua a3 uc cap3 vs s1 st u1 (own_base uow (Nat.zero_le _)) (own_below' (own_below' hv (Below.drew uB)) ub1) hlen3).mono ?_; rintro e u2 ⟨rfl, ub2⟩; have uc2 := ub1.trans (ub2.mono ub1.size); have us2 := keep6 uc2 Q hz0 hz1) | (go_at_call 58; refine (sameR_any a a9 cap c9 p u2 (own_below' (own_below' hp (Below.drew uB)) uc2) (own_base (own_below' (World.ownsRow.drew hpV) uc2) (Nat.zero_le _)) hlen).mono ?_; rintro e u3 ⟨rfl, ub3⟩; have uc3 := uc2.trans (ub3.mono uc2.size); have us3 := keep6 uc3 Q hz0 hz1) | (go_at_call 52; refine (sameI_any a2 a10 cap2 c10 args u3 (own_below' (own_below' ha (Below.drew uB)) uc3) (own_base (own_below' (World.ownsRow.drew haV) uc3) (Nat.zero_le _)) hlen2).mono ?_; rintro e u4 ⟨rfl, ub4⟩; have uc4 := uc3.trans (ub4.mono uc3.size); have us4 := keep6 uc4 Q hz0 hz1))
  have HBF : Below w.heap.size w u4 := (Below.drew HBV).trans (uc4.mono HBV.size)
  go_wp2
  go_ret
  exact ⟨rfl, HBF⟩

set_option maxHeartbeats 2000000 in
theorem lawRunR_any (a a2 : Option Addr) (cap cap2 : Nat) (nregs : Int) (p : List R5) (args : List Int) (w : World) (hp : w.ownsRow 0 82 5 (.slice a p.length cap) p.length (cellsR p))
    (ha : w.ownsRow 0 2 1 (.slice a2 args.length cap2) args.length (args.map (Value.int .i64))) (hlen : p.length ≤ 1000000000) (hlen2 : args.length ≤ 1000000000) :
    Calls Yabv.prog 15 #[.slice a p.length cap, .int .i64 nregs, .slice a2 args.length cap2] w fun e w' => e = .returned (.bool true) ∧ Below w.heap.size w w' := by
  by_cases hl : (1048576 : Int) < (p.length : Int)
  · go_enter Yabv.func15, Yabv.ntmps15
    go_wp2
    go_ret
    exact ⟨rfl, Below.refl _ _⟩
  have hlb : decide ((1048576 : Int) < (p.length : Int)) = false := by simpa using hl
  clear hl
  by_cases hl2 : (1048576 : Int) < (args.length : Int)
  · go_enter Yabv.func15, Yabv.ntmps15
    go_wp2
    go_ret
    exact ⟨rfl, Below.refl _ _⟩
  have hlb2 : decide ((1048576 : Int) < (args.length : Int)) = false := by simpa using hl2
  clear hl2
  obtain ⟨s1, vs, st, hR⟩ : ∃ s1 vs st, runReg p nregs args = (s1, vs, st) := ⟨_, _, _, rfl⟩
  have hlen3 : vs.length ≤ 1000000000 := by
    have e : vs = (runReg p nregs args).2.1 := by rw [hR]
    rw [e]; have := runReg_len p nregs args; omega
  have HE1 := fun (nb : Bool) (b3 : Option Addr) (d3 : Nat) (u : World) (h1 : u.ownsRow 0 82 5 (.slice a p.length cap) p.length (cellsR p)) (h2 : u.ownsRow 0 2 1 (.slice a2 args.length cap2) args.length (args.map (Value.int .i64))) (h3 : u.ownsRow 0 2 1 (.slice b3 vs.length d3) vs.length (vs.map (Value.int .i64))) => exRunR_any a a2 b3 cap cap2 d3 nb nregs p args vs s1 st u h1 h2 h3 hR hlen hlen2 hlen3
  have HC1 := fun (b1 b2 : Option Addr) (d1 d2 : Nat) (u : World) (h1 : u.ownsRow 0 65 5 (.slice b1 p.length d1) p.length (cellsR p)) (h2 : u.ownsRow 0 2 1 (.slice b2 args.length d2) args.length (args.map (Value.int .i64))) => specRunReg_any b1 b2 d1 d2 nregs p args u h1 h2 hlen hlen2
  rw [hR] at HC1
  have HC := hide HC1
  have HE := hide HE1
  clear HC1 HE1 hR
  go_enter Yabv.func15, Yabv.ntmps15
  go_wp2_with fail
  refine (toR_any a cap false p _ hp hlen).mono ?_
  rintro e w1 ⟨a1, c1, rfl, hp1, hb1⟩
  go_wp2_with fail
  refine (copyI_any a2 cap2 false args w1 (own_below' ha hb1) hlen2).mono ?_
  rintro e w2 ⟨a21, c21, rfl, ha2, hb2⟩
  have HB2 : Below w.heap.size w w2 := hb1.trans (hb2.mono hb1.size)
  have hp2 := own_below' hp1 hb2
  clear hb1 hb2 hp1
  go_wp2_with fail
  refine (unhide HC a1 a21 c1 c21 w2 (own_base hp2 (Nat.zero_le _)) (own_base ha2 (Nat.zero_le _))).mono ?_
  rintro e w3 ⟨ag, cg, rfl, hg3', hb3⟩
  have hg3 : w3.ownsRow w2.heap.size 2 1 (.slice ag vs.length cg) vs.length (vs.map (Value.int .i64)) := hg3'
  have HB3 : Below w.heap.size w w3 := HB2.trans (hb3.mono HB2.size)
  clear hb3 HB2 hp2 ha2 hg3'
  go_wp2_with fail
  refine (fromOutcome_any ag cg vs s1 st w3 (own_base hg3 (Nat.zero_le _)) hlen3).mono ?_
  rintro e w4 ⟨aw, cw, rfl, hw4, hb4⟩
  have HB4 : Below w.heap.size w w4 := HB3.trans (hb4.mono HB3.size)
  clear hb4 HB3 hg3
  go_wp2_with fail
  refine (unhide HE true aw cw _ ((own_below' hp HB4).alloc _) ((own_below' ha HB4).alloc _) ((own_base hw4 (Nat.zero_le _)).alloc _)).mono ?_
  rintro e w5 ⟨rfl, hb5⟩
  have B5 : w5.heap[w4.heap.size]? = some (.cells #[.int .i64 s1, .slice aw vs.length cw, .int .i64 st] 73 (0, 0)) := keepb hb5 (heap_alloc_new w4 _) (by simp)
  have hw5 : w5.ownsRow 0 2 1 (.slice aw vs.length cw) vs.length (vs.map (Value.int .i64)) := own_below' ((own_base hw4 (Nat.zero_le _)).alloc _) hb5
  have HB5 : Below w.heap.size w w5 := (HB4.alloc HB4.size _).trans (hb5.mono (by have := HB4.size; simp; omega))
  clear hb5 HB4 hw4
  have q0 := blk_cell B5 0 rfl
  have q1 := blk_cell B5 1 rfl
  have q2 := blk_cell B5 2 rfl
  go_wp2_with fail
  refine (unhide HE false aw cw w5 (own_below' hp HB5) (own_below' ha HB5) hw5).mono ?_
  rintro e w6 ⟨rfl, hb6⟩
  go_wp2
  go_ret
  exact ⟨rfl, HB5.trans (hb6.mono HB5.size)⟩
end Go.Proofs.Yahabw
