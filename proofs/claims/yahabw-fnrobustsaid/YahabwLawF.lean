import Derived.Test.YahabwTextN
import Derived.Test.YahabwLawM
import Derived.Test.YahabwLawL
import Derived.Test.YahabwLawS
import Derived.Test.YahabwDecReg
import Derived.Test.YahabwImplTr
import Derived.Test.YahabwMachR
set_option linter.unusedVariables false
set_option linter.unusedSimpArgs false
namespace Go.Proofs.Yahabw
open Go.RowKit

theorem Bytes.below {w w' : World} {a : Option Addr} {n : Nat} (h : Bytes w a n) (hb : Below w.heap.size w w') : Bytes w' a n := by
  refine ⟨h.big, fun hn => ?_⟩
  obtain ⟨bb, off, ha, hc⟩ := h.bytes hn
  refine ⟨bb, off, ha, fun i hi => ?_⟩
  obtain ⟨z, hz, h0, h1⟩ := hc i hi
  exact ⟨z, keepc hb hz (h.inB hn bb off ha), h0, h1⟩
def Con10 : Prop := ∀ (a a2 : Option Addr) (cap cap2 : Nat) (nregs : Int) (p : List R5) (args : List Int) (w : World) (_ : w.ownsRow 0 65 5 (.slice a p.length cap) p.length (cellsR p))
    (_ : w.ownsRow 0 2 1 (.slice a2 args.length cap2) args.length (args.map (Value.int .i64))) (_ : p.length ≤ 1000000000) (_ : args.length ≤ 1000000000),
    Calls Yabv.prog 10 #[.slice a p.length cap, .int .i64 nregs, .slice a2 args.length cap2] w (RunPost (runReg p nregs args) w)
def Con15 : Prop := ∀ (a a2 : Option Addr) (cap cap2 : Nat) (nregs : Int) (p : List R5) (args : List Int) (w : World) (_ : w.ownsRow 0 82 5 (.slice a p.length cap) p.length (cellsR p))
    (_ : w.ownsRow 0 2 1 (.slice a2 args.length cap2) args.length (args.map (Value.int .i64))) (_ : p.length ≤ 1000000000) (_ : args.length ≤ 1000000000),
    Calls Yabv.prog 15 #[.slice a p.length cap, .int .i64 nregs, .slice a2 args.length cap2] w fun e w' => e = .returned (.bool true) ∧ Below w.heap.size w w'

theorem robust_long (a : Option Addr) (n cap : Nat) (w : World) (hl : (1048576 : Int) < (n : Int)) :
    Calls Yabv.prog 3 #[.slice a n cap] w fun e w' => e = .returned (.bool true) ∧ Below w.heap.size w w' := by
  go_enter Yabv.func3, Yabv.ntmps3
  go_wp2
  go_ret
  exact ⟨rfl, Below.refl _ _⟩

set_option maxRecDepth 100000 in
set_option maxHeartbeats 8000000 in
theorem robust_any (a : Option Addr) (n cap : Nat) (w : World) (hb : Bytes w a n) (h10 : Con10) (h15 : Con15) :
    Calls Yabv.prog 3 #[.slice a n cap] w fun e w' => e = .returned (.bool true) ∧ Below w.heap.size w w' := by
  have hlb : decide ((1048576 : Int) < (n : Int)) = false := by have := hb.big; simp; omega
  have H10 : Hid Con10 := h10
  have H15 : Hid Con15 := h15
  clear h10 h15
  go_enter Yabv.func3, Yabv.ntmps3
  go_wp2_with fail
  refine (decode_any a n cap w hb).mono ?_
  rintro e w1 ⟨a1, c1, ops, a2, c2, zs, rfl, ho1, -, hl1, ho2, -, hl2, hb1⟩
  have hl1' : ops.length ≤ 1000000000 := by omega
  have hl2' : zs.length ≤ 1000000000 := by omega
  go_wp2_with fail
  refine (implMaxD_any a1 c1 ops w1 (own_base ho1 (Nat.zero_le _)) hl1').mono ?_
  rintro e w2 ⟨m, ok, rfl, hm, D2⟩
  have HM := hide hm
  have hm0 : decide (m < 0) = false := by have := hm.nonneg; simp; omega
  clear hm
  go_wp2_with fail
  refine (implTr_any a1 c1 ops w2 (own_base (own_below' ho1 D2) (Nat.zero_le _)) hl1').mono ?_
  rintro e w3 (⟨ao, co, m', rfl, hm', hb3⟩ | ⟨rfl, hm', hb3⟩)
  · obtain ⟨rfl, rfl⟩ := IsMD.unique (unhide HM) hm'
    have D3 := D2.trans (hb3.mono D2.size)
    clear hm' HM hb3 D2
    go_wp2_with fail
    refine (implRunS_any a1 a2 c1 c2 ops zs w3 (own_base (own_below' ho1 D3) (Nat.zero_le _)) (own_base (own_below' ho2 D3) (Nat.zero_le _)) hl1' hl2').mono ?_
    obtain ⟨s1, vs, st, hRS⟩ : ∃ s1 vs st, runS ops zs 20000 0 [] = (s1, vs, st) := ⟨_, _, _, rfl⟩
    have hsh : ShapeR (s1, vs, st) := hRS ▸ runS_shape ops zs 20000 0 [] (Nat.le_refl _)
    rw [hRS]
    have HSH := hide hsh
    clear hRS hsh
    rintro e w4 ⟨ag, cg, rfl, -, hb4⟩
    have D4 := D3.trans (hb4.mono D3.size)
    clear hb4 D3
    go_wp2_with fail
    refine (shapeOK_any s1 st ag vs.length cg w4 (unhide HSH)).mono ?_
    rintro e w5 ⟨rfl, hb5⟩
    have D5 := D4.trans (hb5.mono D4.size)
    clear hb5 D4 HSH
    go_wp2_with fail
    refine (decReg_any a n cap w5 (hb.below (hb1.trans (D5.mono hb1.size)))).mono ?_
    rintro e w6 ⟨b1, d1, rops, m2, b2, d2, rzs, rfl, hq1, hok2, hl3, hm1, hm2, hq2, -, hl4, hb6⟩
    have D6 := D5.trans (hb6.mono D5.size)
    have hl3' : rops.length ≤ 1000000000 := by omega
    have hl4' : rzs.length ≤ 1000000000 := by omega
    clear hb6 D5
    go_wp2_with fail
    refine (unhide H10 b1 b2 d1 d2 m2 rops rzs w6 (own_base hq1 (Nat.zero_le _)) (own_base hq2 (Nat.zero_le _)) hl3' hl4').mono ?_
    obtain ⟨s2, vs2, st2, hRS⟩ : ∃ s1 vs st, runReg rops m2 rzs = (s1, vs, st) := ⟨_, _, _, rfl⟩
    have hsh : ShapeR (s2, vs2, st2) := hRS ▸ runReg_shape rops m2 rzs
    rw [hRS]
    have HSH := hide hsh
    clear hRS hsh
    rintro e w7 ⟨ah, ch, rfl, -, hb7⟩
    have D7 := D6.trans (hb7.mono D6.size)
    have E7 := hb7
    clear hb7 D6
    go_wp2_with fail
    refine (shapeOK_any s2 st2 ah vs2.length ch w7 (unhide HSH)).mono ?_
    rintro e w8 ⟨rfl, hb8⟩
    have D8 := D7.trans (hb8.mono D7.size)
    have E8 := E7.trans (hb8.mono E7.size)
    clear hb8 D7 E7 HSH
    have HL := implListing_any b1 d1 rops w8 (own_base (own_below' hq1 E8) (Nat.zero_le _)) (by omega) hok2
    obtain ⟨T, cnt, hT, hTs, hc0, hcn, hck, hst, hla⟩ := list_facts rops (by omega)
    rw [hT] at HL
    have HLL := hide HL
    have HST := hide hst
    have HLA := hide hla
    have HC0 := hide hc0
    have HCN := hide hcn
    have HCK := hide hck
    have HOK := hide hok2
    clear HL hT hst hla hc0 hcn hck hok2
    go_wp2_with fail
    refine (unhide HLL).mono ?_
    rintro e w9 ⟨rfl, hb9⟩
    have D9 := D8.trans (hb9.mono D8.size)
    have E9 := E8.trans (hb9.mono E8.size)
    clear hb9 D8 E8 HLL
    go_wp2_with fail
    go_loopw [14, 15] (fun lv iv wr => ∃ k : Nat, k ≤ T.size ∧ lv = .int .i64 (cnt k : Nat) ∧ iv = .int .i64 k ∧ w9 = wr) (fun _ iv _ => T.size - (intOf iv).toNat)
    case atStart => exact ⟨0, Nat.zero_le _, by rw [unhide HC0]; rfl, rfl, rfl⟩
    case round =>
      obtain ⟨k, hk, rfl, rfl, rfl⟩ := hrel
      by_cases hlt : k < T.size
      · have hltI : (k : Int) < (T.size : Int) := by omega
        have hix := str_index T k hlt
        have hck := unhide HCK k
        have hcI : (cnt k : Int) ≤ 300000000 := by omega
        rcases unhide HST k hlt with ⟨hby, hcs⟩ | ⟨hby, hcs⟩
        · have HCS := hide hcs
          rw [hby] at hix
          clear hcs hby hck
          go_wp2
          go_roundw
          case rel => exact ⟨k + 1, by omega, by rw [unhide HCS]; go_num, by go_num, trivial⟩
          case measure => simp [intOf]; omega
        · have HCS := hide hcs
          have hbb : (byteOf T k == 10) = false := by rw [beq_eq_false_iff_ne]; exact hby
          generalize byteOf T k = bt at *
          clear hcs hck hby
          go_wp2
          go_roundw
          case rel => exact ⟨k + 1, by omega, by rw [unhide HCS], by go_num, trivial⟩
          case measure => simp [intOf]; omega
      · obtain rfl : k = T.size := by omega
        rw [unhide HCN]
        clear hlt hk HST HCK HC0 HCN
        by_cases hT0 : T.size = 0
        · have hT0I : ((T.size : Int) == 0) = true := by rw [hT0]; rfl
          have hT0J : ((T.size : Int) != 0) = false := by rw [hT0]; rfl
          clear HLA
          go_wp2_with fail
          refine (fromS_any a1 c1 ops w9 (own_base (own_below' ho1 D9) (Nat.zero_le _)) hl1').mono ?_
          rintro e w10 ⟨e1, f1, rfl, hs10, hb10⟩
          have D10 := D9.trans (hb10.mono D9.size)
          have E10 := E9.trans (hb10.mono E9.size)
          clear hb10 D9 E9
          go_wp2_with fail
          refine (lawRunS_any e1 a2 f1 c2 ops zs w10 (own_base hs10 (Nat.zero_le _)) (own_base (own_below' ho2 D10) (Nat.zero_le _)) hl1' hl2').mono ?_
          rintro e w11 ⟨rfl, hb11⟩
          have D11 := D10.trans (hb11.mono D10.size)
          have E11 := E10.trans (hb11.mono E10.size)
          clear hb11 D10 E10 hs10
          go_wp2_with fail
          refine (fromS_any a1 c1 ops w11 (own_base (own_below' ho1 D11) (Nat.zero_le _)) hl1').mono ?_
          rintro e w12 ⟨e2, f2, rfl, hs12, hb12⟩
          have D12 := D11.trans (hb12.mono D11.size)
          have E12 := E11.trans (hb12.mono E11.size)
          clear hb12 D11 E11
          go_wp2_with fail
          refine (lawMaxD_any e2 f2 ops w12 (own_base hs12 (Nat.zero_le _)) hl1').mono ?_
          rintro e w13 ⟨rfl, hb13⟩
          have D13 := D12.trans (hb13.mono D12.size)
          have E13 := E12.trans (hb13.mono E12.size)
          clear hb13 D12 E12 hs12
          go_wp2_with fail
          refine (fromR_any b1 d1 rops w13 (own_base (own_below' hq1 E13) (Nat.zero_le _)) hl3').mono ?_
          rintro e w14 ⟨e3, f3, rfl, hs14, hb14⟩
          have D14 := D13.trans (hb14.mono D13.size)
          have E14 := E13.trans (hb14.mono E13.size)
          clear hb14 D13 E13
          go_wp2_with fail
          refine (unhide H15 e3 b2 f3 d2 m2 rops rzs w14 (own_base hs14 (Nat.zero_le _)) (own_base (own_below' hq2 E14) (Nat.zero_le _)) hl3' hl4').mono ?_
          rintro e w15 ⟨rfl, hb15⟩
          have D15 := D14.trans (hb15.mono D14.size)
          have E15 := E14.trans (hb15.mono E14.size)
          clear hb15 D14 E14 hs14
          go_wp2_with fail
          refine (fromR_any b1 d1 rops w15 (own_base (own_below' hq1 E15) (Nat.zero_le _)) hl3').mono ?_
          rintro e w16 ⟨e4, f4, rfl, hs16, hb16⟩
          have D16 := D15.trans (hb16.mono D15.size)
          clear hb16 D15 E15
          go_wp2_with fail
          refine (lawList_any e4 f4 rops w16 (own_base hs16 (Nat.zero_le _)) hl3' (unhide HOK)).mono ?_
          rintro e w17 ⟨rfl, hb17⟩
          have D17 := D16.trans (hb17.mono D16.size)
          go_wp2
          go_ret
          exact ⟨rfl, hb1.trans (D17.mono hb1.size)⟩
        · have hix := str_index T (T.size - 1) (by omega)
          rw [unhide HLA hT0] at hix
          have hT1 : ((T.size - 1 : Nat) : Int) = (T.size : Int) - 1 := by omega
          rw [hT1] at hix
          have hT0J : ((T.size : Int) != 0) = true := by rw [bne_iff_ne]; omega
          have hT2 : 1 ≤ (T.size : Int) := by omega
          clear HLA
          go_wp2_with fail
          refine (fromS_any a1 c1 ops w9 (own_base (own_below' ho1 D9) (Nat.zero_le _)) hl1').mono ?_
          rintro e w10 ⟨e1, f1, rfl, hs10, hb10⟩
          have D10 := D9.trans (hb10.mono D9.size)
          have E10 := E9.trans (hb10.mono E9.size)
          clear hb10 D9 E9
          go_wp2_with fail
          refine (lawRunS_any e1 a2 f1 c2 ops zs w10 (own_base hs10 (Nat.zero_le _)) (own_base (own_below' ho2 D10) (Nat.zero_le _)) hl1' hl2').mono ?_
          rintro e w11 ⟨rfl, hb11⟩
          have D11 := D10.trans (hb11.mono D10.size)
          have E11 := E10.trans (hb11.mono E10.size)
          clear hb11 D10 E10 hs10
          go_wp2_with fail
          refine (fromS_any a1 c1 ops w11 (own_base (own_below' ho1 D11) (Nat.zero_le _)) hl1').mono ?_
          rintro e w12 ⟨e2, f2, rfl, hs12, hb12⟩
          have D12 := D11.trans (hb12.mono D11.size)
          have E12 := E11.trans (hb12.mono E11.size)
          clear hb12 D11 E11
          go_wp2_with fail
          refine (lawMaxD_any e2 f2 ops w12 (own_base hs12 (Nat.zero_le _)) hl1').mono ?_
          rintro e w13 ⟨rfl, hb13⟩
          have D13 := D12.trans (hb13.mono D12.size)
          have E13 := E12.trans (hb13.mono E12.size)
          clear hb13 D12 E12 hs12
          go_wp2_with fail
          refine (fromR_any b1 d1 rops w13 (own_base (own_below' hq1 E13) (Nat.zero_le _)) hl3').mono ?_
          rintro e w14 ⟨e3, f3, rfl, hs14, hb14⟩
          have D14 := D13.trans (hb14.mono D13.size)
          have E14 := E13.trans (hb14.mono E13.size)
          clear hb14 D13 E13
          go_wp2_with fail
          refine (unhide H15 e3 b2 f3 d2 m2 rops rzs w14 (own_base hs14 (Nat.zero_le _)) (own_base (own_below' hq2 E14) (Nat.zero_le _)) hl3' hl4').mono ?_
          rintro e w15 ⟨rfl, hb15⟩
          have D15 := D14.trans (hb15.mono D14.size)
          have E15 := E14.trans (hb15.mono E14.size)
          clear hb15 D14 E14 hs14
          go_wp2_with fail
          refine (fromR_any b1 d1 rops w15 (own_base (own_below' hq1 E15) (Nat.zero_le _)) hl3').mono ?_
          rintro e w16 ⟨e4, f4, rfl, hs16, hb16⟩
          have D16 := D15.trans (hb16.mono D15.size)
          clear hb16 D15 E15
          go_wp2_with fail
          refine (lawList_any e4 f4 rops w16 (own_base hs16 (Nat.zero_le _)) hl3' (unhide HOK)).mono ?_
          rintro e w17 ⟨rfl, hb17⟩
          have D17 := D16.trans (hb17.mono D16.size)
          go_wp2
          go_ret
          exact ⟨rfl, hb1.trans (D17.mono hb1.size)⟩
  · obtain ⟨rfl, rfl⟩ := IsMD.unique (unhide HM) hm'
    have D3 := D2.trans (hb3.mono D2.size)
    clear hm' HM hb3 D2
    go_wp2_with fail
    refine (implRunS_any a1 a2 c1 c2 ops zs w3 (own_base (own_below' ho1 D3) (Nat.zero_le _)) (own_base (own_below' ho2 D3) (Nat.zero_le _)) hl1' hl2').mono ?_
    obtain ⟨s1, vs, st, hRS⟩ : ∃ s1 vs st, runS ops zs 20000 0 [] = (s1, vs, st) := ⟨_, _, _, rfl⟩
    have hsh : ShapeR (s1, vs, st) := hRS ▸ runS_shape ops zs 20000 0 [] (Nat.le_refl _)
    rw [hRS]
    have HSH := hide hsh
    clear hRS hsh
    rintro e w4 ⟨ag, cg, rfl, -, hb4⟩
    have D4 := D3.trans (hb4.mono D3.size)
    clear hb4 D3
    go_wp2_with fail
    refine (shapeOK_any s1 st ag vs.length cg w4 (unhide HSH)).mono ?_
    rintro e w5 ⟨rfl, hb5⟩
    have D5 := D4.trans (hb5.mono D4.size)
    clear hb5 D4 HSH
    go_wp2_with fail
    refine (decReg_any a n cap w5 (hb.below (hb1.trans (D5.mono hb1.size)))).mono ?_
    rintro e w6 ⟨b1, d1, rops, m2, b2, d2, rzs, rfl, hq1, hok2, hl3, hm1, hm2, hq2, -, hl4, hb6⟩
    have D6 := D5.trans (hb6.mono D5.size)
    have hl3' : rops.length ≤ 1000000000 := by omega
    have hl4' : rzs.length ≤ 1000000000 := by omega
    clear hb6 D5
    go_wp2_with fail
    refine (unhide H10 b1 b2 d1 d2 m2 rops rzs w6 (own_base hq1 (Nat.zero_le _)) (own_base hq2 (Nat.zero_le _)) hl3' hl4').mono ?_
    obtain ⟨s2, vs2, st2, hRS⟩ : ∃ s1 vs st, runReg rops m2 rzs = (s1, vs, st) := ⟨_, _, _, rfl⟩
    have hsh : ShapeR (s2, vs2, st2) := hRS ▸ runReg_shape rops m2 rzs
    rw [hRS]
    have HSH := hide hsh
    clear hRS hsh
    rintro e w7 ⟨ah, ch, rfl, -, hb7⟩
    have D7 := D6.trans (hb7.mono D6.size)
    have E7 := hb7
    clear hb7 D6
    go_wp2_with fail
    refine (shapeOK_any s2 st2 ah vs2.length ch w7 (unhide HSH)).mono ?_
    rintro e w8 ⟨rfl, hb8⟩
    have D8 := D7.trans (hb8.mono D7.size)
    have E8 := E7.trans (hb8.mono E7.size)
    clear hb8 D7 E7 HSH
    have HL := implListing_any b1 d1 rops w8 (own_base (own_below' hq1 E8) (Nat.zero_le _)) (by omega) hok2
    obtain ⟨T, cnt, hT, hTs, hc0, hcn, hck, hst, hla⟩ := list_facts rops (by omega)
    rw [hT] at HL
    have HLL := hide HL
    have HST := hide hst
    have HLA := hide hla
    have HC0 := hide hc0
    have HCN := hide hcn
    have HCK := hide hck
    have HOK := hide hok2
    clear HL hT hst hla hc0 hcn hck hok2
    go_wp2_with fail
    refine (unhide HLL).mono ?_
    rintro e w9 ⟨rfl, hb9⟩
    have D9 := D8.trans (hb9.mono D8.size)
    have E9 := E8.trans (hb9.mono E8.size)
    clear hb9 D8 E8 HLL
    go_wp2_with fail
    go_loopw [14, 15] (fun lv iv wr => ∃ k : Nat, k ≤ T.size ∧ lv = .int .i64 (cnt k : Nat) ∧ iv = .int .i64 k ∧ w9 = wr) (fun _ iv _ => T.size - (intOf iv).toNat)
    case atStart => exact ⟨0, Nat.zero_le _, by rw [unhide HC0]; rfl, rfl, rfl⟩
    case round =>
      obtain ⟨k, hk, rfl, rfl, rfl⟩ := hrel
      by_cases hlt : k < T.size
      · have hltI : (k : Int) < (T.size : Int) := by omega
        have hix := str_index T k hlt
        have hck := unhide HCK k
        have hcI : (cnt k : Int) ≤ 300000000 := by omega
        rcases unhide HST k hlt with ⟨hby, hcs⟩ | ⟨hby, hcs⟩
        · have HCS := hide hcs
          rw [hby] at hix
          clear hcs hby hck
          go_wp2
          go_roundw
          case rel => exact ⟨k + 1, by omega, by rw [unhide HCS]; go_num, by go_num, trivial⟩
          case measure => simp [intOf]; omega
        · have HCS := hide hcs
          have hbb : (byteOf T k == 10) = false := by rw [beq_eq_false_iff_ne]; exact hby
          generalize byteOf T k = bt at *
          clear hcs hck hby
          go_wp2
          go_roundw
          case rel => exact ⟨k + 1, by omega, by rw [unhide HCS], by go_num, trivial⟩
          case measure => simp [intOf]; omega
      · obtain rfl : k = T.size := by omega
        rw [unhide HCN]
        clear hlt hk HST HCK HC0 HCN
        by_cases hT0 : T.size = 0
        · have hT0I : ((T.size : Int) == 0) = true := by rw [hT0]; rfl
          have hT0J : ((T.size : Int) != 0) = false := by rw [hT0]; rfl
          clear HLA
          go_wp2_with fail
          refine (fromS_any a1 c1 ops w9 (own_base (own_below' ho1 D9) (Nat.zero_le _)) hl1').mono ?_
          rintro e w10 ⟨e1, f1, rfl, hs10, hb10⟩
          have D10 := D9.trans (hb10.mono D9.size)
          have E10 := E9.trans (hb10.mono E9.size)
          clear hb10 D9 E9
          go_wp2_with fail
          refine (lawRunS_any e1 a2 f1 c2 ops zs w10 (own_base hs10 (Nat.zero_le _)) (own_base (own_below' ho2 D10) (Nat.zero_le _)) hl1' hl2').mono ?_
          rintro e w11 ⟨rfl, hb11⟩
          have D11 := D10.trans (hb11.mono D10.size)
          have E11 := E10.trans (hb11.mono E10.size)
          clear hb11 D10 E10 hs10
          go_wp2_with fail
          refine (fromS_any a1 c1 ops w11 (own_base (own_below' ho1 D11) (Nat.zero_le _)) hl1').mono ?_
          rintro e w12 ⟨e2, f2, rfl, hs12, hb12⟩
          have D12 := D11.trans (hb12.mono D11.size)
          have E12 := E11.trans (hb12.mono E11.size)
          clear hb12 D11 E11
          go_wp2_with fail
          refine (lawMaxD_any e2 f2 ops w12 (own_base hs12 (Nat.zero_le _)) hl1').mono ?_
          rintro e w13 ⟨rfl, hb13⟩
          have D13 := D12.trans (hb13.mono D12.size)
          have E13 := E12.trans (hb13.mono E12.size)
          clear hb13 D12 E12 hs12
          go_wp2_with fail
          refine (fromR_any b1 d1 rops w13 (own_base (own_below' hq1 E13) (Nat.zero_le _)) hl3').mono ?_
          rintro e w14 ⟨e3, f3, rfl, hs14, hb14⟩
          have D14 := D13.trans (hb14.mono D13.size)
          have E14 := E13.trans (hb14.mono E13.size)
          clear hb14 D13 E13
          go_wp2_with fail
          refine (unhide H15 e3 b2 f3 d2 m2 rops rzs w14 (own_base hs14 (Nat.zero_le _)) (own_base (own_below' hq2 E14) (Nat.zero_le _)) hl3' hl4').mono ?_
          rintro e w15 ⟨rfl, hb15⟩
          have D15 := D14.trans (hb15.mono D14.size)
          have E15 := E14.trans (hb15.mono E14.size)
          clear hb15 D14 E14 hs14
          go_wp2_with fail
          refine (fromR_any b1 d1 rops w15 (own_base (own_below' hq1 E15) (Nat.zero_le _)) hl3').mono ?_
          rintro e w16 ⟨e4, f4, rfl, hs16, hb16⟩
          have D16 := D15.trans (hb16.mono D15.size)
          clear hb16 D15 E15
          go_wp2_with fail
          refine (lawList_any e4 f4 rops w16 (own_base hs16 (Nat.zero_le _)) hl3' (unhide HOK)).mono ?_
          rintro e w17 ⟨rfl, hb17⟩
          have D17 := D16.trans (hb17.mono D16.size)
          go_wp2
          go_ret
          exact ⟨rfl, hb1.trans (D17.mono hb1.size)⟩
        · have hix := str_index T (T.size - 1) (by omega)
          rw [unhide HLA hT0] at hix
          have hT1 : ((T.size - 1 : Nat) : Int) = (T.size : Int) - 1 := by omega
          rw [hT1] at hix
          have hT0J : ((T.size : Int) != 0) = true := by rw [bne_iff_ne]; omega
          have hT2 : 1 ≤ (T.size : Int) := by omega
          clear HLA
          go_wp2_with fail
          refine (fromS_any a1 c1 ops w9 (own_base (own_below' ho1 D9) (Nat.zero_le _)) hl1').mono ?_
          rintro e w10 ⟨e1, f1, rfl, hs10, hb10⟩
          have D10 := D9.trans (hb10.mono D9.size)
          have E10 := E9.trans (hb10.mono E9.size)
          clear hb10 D9 E9
          go_wp2_with fail
          refine (lawRunS_any e1 a2 f1 c2 ops zs w10 (own_base hs10 (Nat.zero_le _)) (own_base (own_below' ho2 D10) (Nat.zero_le _)) hl1' hl2').mono ?_
          rintro e w11 ⟨rfl, hb11⟩
          have D11 := D10.trans (hb11.mono D10.size)
          have E11 := E10.trans (hb11.mono E10.size)
          clear hb11 D10 E10 hs10
          go_wp2_with fail
          refine (fromS_any a1 c1 ops w11 (own_base (own_below' ho1 D11) (Nat.zero_le _)) hl1').mono ?_
          rintro e w12 ⟨e2, f2, rfl, hs12, hb12⟩
          have D12 := D11.trans (hb12.mono D11.size)
          have E12 := E11.trans (hb12.mono E11.size)
          clear hb12 D11 E11
          go_wp2_with fail
          refine (lawMaxD_any e2 f2 ops w12 (own_base hs12 (Nat.zero_le _)) hl1').mono ?_
          rintro e w13 ⟨rfl, hb13⟩
          have D13 := D12.trans (hb13.mono D12.size)
          have E13 := E12.trans (hb13.mono E12.size)
          clear hb13 D12 E12 hs12
          go_wp2_with fail
          refine (fromR_any b1 d1 rops w13 (own_base (own_below' hq1 E13) (Nat.zero_le _)) hl3').mono ?_
          rintro e w14 ⟨e3, f3, rfl, hs14, hb14⟩
          have D14 := D13.trans (hb14.mono D13.size)
          have E14 := E13.trans (hb14.mono E13.size)
          clear hb14 D13 E13
          go_wp2_with fail
          refine (unhide H15 e3 b2 f3 d2 m2 rops rzs w14 (own_base hs14 (Nat.zero_le _)) (own_base (own_below' hq2 E14) (Nat.zero_le _)) hl3' hl4').mono ?_
          rintro e w15 ⟨rfl, hb15⟩
          have D15 := D14.trans (hb15.mono D14.size)
          have E15 := E14.trans (hb15.mono E14.size)
          clear hb15 D14 E14 hs14
          go_wp2_with fail
          refine (fromR_any b1 d1 rops w15 (own_base (own_below' hq1 E15) (Nat.zero_le _)) hl3').mono ?_
          rintro e w16 ⟨e4, f4, rfl, hs16, hb16⟩
          have D16 := D15.trans (hb16.mono D15.size)
          clear hb16 D15 E15
          go_wp2_with fail
          refine (lawList_any e4 f4 rops w16 (own_base hs16 (Nat.zero_le _)) hl3' (unhide HOK)).mono ?_
          rintro e w17 ⟨rfl, hb17⟩
          have D17 := D16.trans (hb17.mono D16.size)
          go_wp2
          go_ret
          exact ⟨rfl, hb1.trans (D17.mono hb1.size)⟩
end Go.Proofs.Yahabw
