import Derived.Test.YahabwRet
import Derived.Deep.CutBlock
set_option linter.unusedVariables false
set_option linter.unusedSimpArgs false
namespace Go.Proofs.Yahabw
open Go.RowKit


theorem inN_dec (x : Int) (N : Nat) : (!inN x N) = (!decide (0 ≤ x) || !decide (x < (N : Int))) := by simp [inN, Bool.decide_and, Bool.not_and]

set_option maxRecDepth 100000 in
set_option maxHeartbeats 8000000 in
theorem implRunR_in (a a2 : Option Addr) (cap cap2 N : Nat) (p : List R5) (args : List Int) (w : World) (hp : w.ownsRow 0 65 5 (.slice a p.length cap) p.length (cellsR p))
    (ha : w.ownsRow 0 2 1 (.slice a2 args.length cap2) args.length (args.map (Value.int .i64))) (hlen : p.length ≤ 1000000000) (hlen2 : args.length ≤ 1000000000) (hN : N ≤ 65536) :
    Calls Yabv.prog 10 #[.slice a p.length cap, .int .i64 N, .slice a2 args.length cap2] w (RunPost (runR p N args 20000 0 (List.replicate N 0)) w) := by
  obtain ⟨i0, hi, hz0, hz1, hz2⟩ := info_parts Yabv.info2
  have hszP : (Yabv.prog.info? 2).map (·.size) = some 1 := by rw [hi]; simp [hz1]
  have hN1 : decide ((65536 : Int) < (N : Int)) = false := by simp; omega
  have hN2 : (N : Int) ≤ 65536 := by omega
  obtain ⟨R, hR⟩ : ∃ R, R = runR p N args 20000 0 (List.replicate N 0) := ⟨_, rfl⟩
  rw [← hR]
  have HR := hide hR
  clear hR
  go_enter Yabv.func10, Yabv.ntmps10
  go_wp2_with (at_make; refine wpList_make_full _ rfl _ _ 24 rfl (w.heap.size + 1) 2 i0 _ 1 Yabv.underlying24 hi hz0 hz1 _ _ _ _ N rfl rfl rfl rfl (by rw [hz2]; omega) (by unfold maxLen; omega) (by simp) ?_)
  intro w1 hw1 hg1
  rw [made_I] at hw1
  have B0 : w1.heap[w.heap.size]? = some (.cells #[.int .i64 0, .slice none 0 0, .int .i64 0] 34 (0, 0)) := by
    rw [hg1.block _ (by simp) (by simp)]; exact heap_alloc_new w _
  have hb1 : Below w.heap.size w w1 := ((Below.refl _ _).alloc (Nat.le_refl _) _).trans ((below_of_grown hg1).mono (by simp))
  clear hg1
  go_wp2_with fail
  go_loopw [9, 10] (fun pv kv wr => ∃ (pc k : Nat) (z : List Int), pv = .int .i64 pc ∧ kv = .int .i64 k ∧ pc ≤ p.length ∧ k ≤ 20000 ∧ Hid (z.length = N) ∧ Hid (runR p N args (20000 - k) pc z = R) ∧
      wr.ownsRow (w.heap.size + 1) 2 1 (.slice (some ⟨w.heap.size + 1, 0, none⟩) N N) N (z.map (Value.int .i64)) ∧ wr.heap[w.heap.size]? = some (.cells #[.int .i64 0, .slice none 0 0, .int .i64 0] 34 (0, 0)) ∧ Below w.heap.size w wr)
    (fun _ kv _ => 20000 - (intOf kv).toNat)
  case atStart => exact ⟨0, 0, List.replicate N 0, rfl, rfl, Nat.zero_le _, Nat.zero_le _, by show _ = _; simp, (unhide HR).symm, hw1, B0, hb1⟩
  case round =>
    clear HR B0 hb1 hw1
    obtain ⟨pc, k, z, rfl, rfl, hpc, hk, HZ, HR, hv, B0, hbw⟩ := hrel
    have hbs : w.heap.size ≤ wr.heap.size := hbw.size
    have hbs' : w.heap.size < wr.heap.size := blk_lt B0
    have hbs2 : w.heap.size + 1 < wr.heap.size := (hv.lt _ rfl).2
    by_cases hend : pc = p.length
    · subst hend
      have HEND := runR_end p N args z k hk
      have q0 := blk_cell B0 0 rfl
      have q1 := blk_cell B0 1 rfl
      have q2 := blk_cell B0 2 rfl
      have r0 := blk_free B0 0
      have r1 := blk_free B0 1
      have r2 := blk_free B0 2
      as_aux_lemma =>
        go_wp2_with ((with_reducible refine ret_box (x := .int .i64 0) (y := .slice none 0 0) (z := .int .i64 k) Yabv.results10 B0 ?_); rw [← unhide HR, HEND]; exact ⟨_, _, rfl, ⟨rfl, .inl ⟨rfl, rfl⟩⟩, ((hbw.setCell (Nat.le_refl _) _).setCell (Nat.le_refl _) _).setCell (Nat.le_refl _) _⟩)
    have hip : pc < p.length := by omega
    have hendb : ((pc : Int) == (p.length : Int)) = false := by rw [beq_eq_false_iff_ne]; omega
    have l2 : (pc : Int) < (p.length : Int) := by omega
    obtain ⟨gp, rfl⟩ := own_some hp (by omega)
    have hpw := own_below' hp hbw
    obtain ⟨c0, c1, c2, c3, c4⟩ := ownR_cell hpw pc hip
    have HP : Hid (p[pc]? = some p[pc]) := List.getElem?_eq_getElem hip
    generalize p[pc] = op at *
    obtain ⟨c, r, a, b, x⟩ := op
    simp only at c0 c1 c2 c3 c4
    go_upto_if 44 with fail
    clear c0 c1 c2 c3 c4
    generalize hWW : World.alloc wr _ = W
    have hbW : Below w.heap.size w W := by rw [← hWW]; exact hbw.alloc hbw.size _
    have hWs : wr.heap.size < W.heap.size := by rw [← hWW]; simp
    have hvW : W.ownsRow (w.heap.size + 1) 2 1 (.slice (some ⟨w.heap.size + 1, 0, none⟩) N N) N (z.map (Value.int .i64)) := by rw [← hWW]; exact hv.alloc _
    have B1 : W.heap[w.heap.size]? = some (.cells #[.int .i64 0, .slice none 0 0, .int .i64 0] 34 (0, 0)) := by rw [← hWW, Below.heap_alloc _ _ _ hbs']; exact B0
    have C1 : W.heap[wr.heap.size]? = some (.cells #[.int .i64 c, .int .i64 r, .int .i64 a, .int .i64 b, .int .i64 x] 65 (0, 0)) := by rw [← hWW]; exact heap_alloc_new wr _
    have c0 : W.cell? ⟨wr.heap.size, 0, none⟩ = some (.int .i64 c) := blk_cell C1 0 rfl
    have c1 : W.cell? ⟨wr.heap.size, 1, none⟩ = some (.int .i64 r) := blk_cell C1 1 rfl
    have c2 : W.cell? ⟨wr.heap.size, 2, none⟩ = some (.int .i64 a) := blk_cell C1 2 rfl
    have c3 : W.cell? ⟨wr.heap.size, 3, none⟩ = some (.int .i64 b) := blk_cell C1 3 rfl
    have c4 : W.cell? ⟨wr.heap.size, 4, none⟩ = some (.int .i64 x) := blk_cell C1 4 rfl
    have q0 := blk_cell B1 0 rfl
    have q1 := blk_cell B1 1 rfl
    have q2 := blk_cell B1 2 rfl
    have r0 := blk_free B1 0
    have r1 := blk_free B1 1
    have r2 := blk_free B1 2
    clear hWW hv B0 hbw C1 hpw
    generalize wr.heap.size = bx at *
    have hBW : w.heap.size < W.heap.size := by omega
    have hbx : bx < W.heap.size := hWs
    by_cases h10 : c = 10
    · by_cases ha0 : a < 0
      · have HEND := runR_haltbad p N args z k pc _ hk (unhide HP) h10 (.inl ha0)
        subst h10
        as_aux_lemma =>
          go_wp2_with ((with_reducible refine ret_box (x := .int .i64 2) (y := .slice none 0 0) (z := .int .i64 k) Yabv.results10 B1 ?_); rw [← unhide HR, HEND]; exact ⟨_, _, rfl, ⟨rfl, .inl ⟨rfl, rfl⟩⟩, ((hbW.setCell (Nat.le_refl _) _).setCell (Nat.le_refl _) _).setCell (Nat.le_refl _) _⟩)
      have ha0b : decide (a < 0) = false := by simpa using ha0
      by_cases ha1 : (N : Int) < a
      · have HEND := runR_haltbad p N args z k pc _ hk (unhide HP) h10 (.inr ha1)
        subst h10
        as_aux_lemma =>
          go_wp2_with ((with_reducible refine ret_box (x := .int .i64 2) (y := .slice none 0 0) (z := .int .i64 k) Yabv.results10 B1 ?_); rw [← unhide HR, HEND]; exact ⟨_, _, rfl, ⟨rfl, .inl ⟨rfl, rfl⟩⟩, ((hbW.setCell (Nat.le_refl _) _).setCell (Nat.le_refl _) _).setCell (Nat.le_refl _) _⟩)
      have ha1b : decide ((N : Int) < a) = false := by simpa using ha1
      have HEND := runR_halt p N args z k pc _ hk (unhide HP) h10 (by simpa using ha0) (by simpa using ha1)
      subst h10
      simp only at HEND
      obtain ⟨an, rfl⟩ := Int.eq_ofNat_of_zero_le (show 0 ≤ a by omega)
      have han : an ≤ N := by omega
      have han2 : (an : Int) ≤ (N : Int) := by omega
      have hvt := own_take hvW an han
      clear q0 q1 q2 r0 r1 r2
      by_cases hN0 : N = 0
      · subst hN0
        obtain rfl : an = 0 := by omega
        replace c2 : W.cell? ⟨bx, 2, none⟩ = some (.int .i64 0) := c2
        as_aux_lemma =>
          go_wp2_with (at_make; refine wpList_make_full _ rfl _ _ 24 rfl w.heap.size 2 i0 _ 1 Yabv.underlying24 hi hz0 hz1 _ _ _ _ 0 rfl rfl rfl rfl (by rw [hz2]; omega) (by unfold maxLen; omega) (by omega) ?_)
          intro w1 hown hgrow
          rw [made_I] at hown
          have hv1 := own_below' hvt (below_of_grown hgrow)
          have hb1 : Below w.heap.size w w1 := hbW.grown hgrow hbW.size (by simp)
          have c2' : w1.cell? ⟨bx, 2, none⟩ = some (.int .i64 (0 : Int)) := keepc (below_of_grown hgrow) c2 hbx
          go_wp2_with (with_reducible refine wpList_copy_row rfl (.tmp 59) (.tmp 63) 24 rfl 2 Yabv.underlying24 hszP _ _ _ _ _ rfl rfl w.heap.size (w.heap.size + 1) _ _ hown hv1 (ints_oneCell _ _) ?_)
          intro w2 hown2 hgrow2
          have B2 : w2.heap[w.heap.size]? = some (.cells #[.int .i64 0, .slice none 0 0, .int .i64 0] 34 (0, 0)) := by
            rw [hgrow2.block _ (by have := hgrow.size; omega) (by simp; omega), hgrow.block _ hBW (by simp)]
            exact B1
          have q0 := blk_cell B2 0 rfl
          have q1 := blk_cell B2 1 rfl
          have q2 := blk_cell B2 2 rfl
          have r0 := blk_free B2 0
          have r1 := blk_free B2 1
          have r2 := blk_free B2 2
          have hb2 : Below w.heap.size w w2 := hb1.grown hgrow2 hb1.size (by simp; omega)
          go_wp2_with ((with_reducible refine ret_box (x := .int .i64 0) (y := .slice (some ⟨W.heap.size, 0, none⟩) 0 0) (z := .int .i64 k) Yabv.results10 B2 ?_); rw [← unhide HR, HEND]; have hzl : (z.take 0).length = 0 := (by have := unhide HZ; rw [List.length_take]; omega); simp only [Int.toNat_natCast]; refine ⟨some ⟨W.heap.size, 0, none⟩, 0, by rw [hzl], ?_, ((hb2.setCell (Nat.le_refl _) _).setCell (Nat.le_refl _) _).setCell (Nat.le_refl _) _⟩; have hne : (Value.slice (some ⟨W.heap.size, 0, none⟩) 0 0).ownBlock ≠ some w.heap.size := (by simp [Value.ownBlock]; omega); rw [hzl]; show World.ownsRow _ _ _ _ _ _ ((z.take 0).map (Value.int .i64)); (first | rw [List.map_take] at hown2 ⊢ | rw [List.map_take]); exact own_setCell (own_setCell (own_setCell hown2 _ _ _ hne) _ _ _ hne) _ _ _ hne)
      · skip
        as_aux_lemma =>
          go_wp2_with (at_make; refine wpList_make_full _ rfl _ _ 24 rfl w.heap.size 2 i0 _ 1 Yabv.underlying24 hi hz0 hz1 _ _ _ _ an rfl rfl rfl rfl (by rw [hz2]; omega) (by unfold maxLen; omega) (by omega) ?_)
          intro w1 hown hgrow
          rw [made_I] at hown
          have hv1 := own_below' hvt (below_of_grown hgrow)
          have hb1 : Below w.heap.size w w1 := hbW.grown hgrow hbW.size (by simp)
          have c2' : w1.cell? ⟨bx, 2, none⟩ = some (.int .i64 (an : Int)) := keepc (below_of_grown hgrow) c2 hbx
          go_wp2_with (with_reducible refine wpList_copy_row rfl (.tmp 59) (.tmp 63) 24 rfl 2 Yabv.underlying24 hszP _ _ _ _ _ rfl rfl w.heap.size (w.heap.size + 1) _ _ hown hv1 (ints_oneCell _ _) ?_)
          intro w2 hown2 hgrow2
          have B2 : w2.heap[w.heap.size]? = some (.cells #[.int .i64 0, .slice none 0 0, .int .i64 0] 34 (0, 0)) := by
            rw [hgrow2.block _ (by have := hgrow.size; omega) (by simp; omega), hgrow.block _ hBW (by simp)]
            exact B1
          have q0 := blk_cell B2 0 rfl
          have q1 := blk_cell B2 1 rfl
          have q2 := blk_cell B2 2 rfl
          have r0 := blk_free B2 0
          have r1 := blk_free B2 1
          have r2 := blk_free B2 2
          have hb2 : Below w.heap.size w w2 := hb1.grown hgrow2 hb1.size (by simp; omega)
          go_wp2_with ((with_reducible refine ret_box (x := .int .i64 0) (y := .slice (some ⟨W.heap.size, 0, none⟩) an an) (z := .int .i64 k) Yabv.results10 B2 ?_); rw [← unhide HR, HEND]; have hzl : (z.take an).length = an := (by have := unhide HZ; rw [List.length_take]; omega); simp only [Int.toNat_natCast]; refine ⟨some ⟨W.heap.size, 0, none⟩, an, by rw [hzl], ?_, ((hb2.setCell (Nat.le_refl _) _).setCell (Nat.le_refl _) _).setCell (Nat.le_refl _) _⟩; have hne : (Value.slice (some ⟨W.heap.size, 0, none⟩) an an).ownBlock ≠ some w.heap.size := (by simp [Value.ownBlock]; omega); rw [hzl]; show World.ownsRow _ _ _ _ _ _ ((z.take an).map (Value.int .i64)); (first | rw [List.map_take] at hown2 ⊢ | rw [List.map_take]); exact own_setCell (own_setCell (own_setCell hown2 _ _ _ hne) _ _ _ hne) _ _ _ hne)
    have h10b : (c == 10) = false := by rw [beq_eq_false_iff_ne]; exact h10
    by_cases hkf : k = 20000
    · have HEND := runR_fuel p N args z pc _ (unhide HP) h10
      subst hkf
      as_aux_lemma =>
        go_wp2_with ((with_reducible refine ret_box (x := .int .i64 1) (y := .slice none 0 0) (z := .int .i64 20000) Yabv.results10 B1 ?_); rw [← unhide HR, HEND]; exact ⟨_, _, rfl, ⟨rfl, .inl ⟨rfl, rfl⟩⟩, ((hbW.setCell (Nat.le_refl _) _).setCell (Nat.le_refl _) _).setCell (Nat.le_refl _) _⟩)
    have hkl : k < 20000 := by omega
    have hkb : ((k : Int) == 20000) = false := by rw [beq_eq_false_iff_ne]; omega
    go_upto_block 2 with fail
    go_cut [13] from 33 to 304 (fun bv wc => bv = .bool (badR p.length N ⟨c, r, a, b, x⟩) ∧ W = wc)
    case first =>
      clear q0 q1 q2 r0 r1 r2 HR HP HZ hvW B1 hbW ha hp
      by_cases k0 : c = 0
      · subst k0
        as_aux_lemma =>
          go_wp2_with fail
          refine (inReg_any _ N _).mono ?_
          rintro e w6 ⟨rfl, hw6⟩
          rw [hw6]
          clear hw6 w6
          as_aux_lemma =>
            go_wp2
            go_meet
            case rel => exact ⟨by rw [badR_0, inN_dec] <;> rfl, rfl⟩
      have k0b : (c == 0) = false := by rw [beq_eq_false_iff_ne]; exact k0
      by_cases k1 : c = 1
      · subst k1
        as_aux_lemma =>
          go_wp2_with fail
          refine (inReg_any _ N _).mono ?_
          rintro e w6 ⟨rfl, hw6⟩
          rw [hw6]
          clear hw6 w6
          as_aux_lemma =>
            go_wp2
            go_meet
            case rel => exact ⟨by rw [badR_1, inN_dec] <;> rfl, rfl⟩
      have k1b : (c == 1) = false := by rw [beq_eq_false_iff_ne]; exact k1
      by_cases k2 : c = 2
      · subst k2
        as_aux_lemma =>
          go_wp2_with fail
          refine (inReg_any _ N _).mono ?_
          rintro e w6 ⟨rfl, hw6⟩
          rw [hw6]
          clear hw6 w6
          by_cases hr : inN r N = false
          · rw [show decide (0 ≤ r ∧ r < (N : Int)) = false from hr]
            as_aux_lemma =>
              go_wp2
              go_meet
              case rel => exact ⟨by rw [badR_2, hr] <;> rfl, rfl⟩
          have hr : inN r N = true := by simpa using hr
          rw [show decide (0 ≤ r ∧ r < (N : Int)) = true from hr]
          go_wp2_with fail
          refine (inReg_any _ N _).mono ?_
          rintro e w6 ⟨rfl, hw6⟩
          rw [hw6]
          clear hw6 w6
          by_cases ha : inN a N = false
          · rw [show decide (0 ≤ a ∧ a < (N : Int)) = false from ha]
            as_aux_lemma =>
              go_wp2
              go_meet
              case rel => exact ⟨by rw [badR_2, hr, ha] <;> rfl, rfl⟩
          have ha : inN a N = true := by simpa using ha
          rw [show decide (0 ≤ a ∧ a < (N : Int)) = true from ha]
          go_wp2_with fail
          refine (inReg_any _ N _).mono ?_
          rintro e w6 ⟨rfl, hw6⟩
          rw [hw6]
          clear hw6 w6
          as_aux_lemma =>
            go_wp2
            go_meet
            case rel => exact ⟨by rw [badR_2, hr, ha, inN_dec] <;> rfl, rfl⟩
      have k2b : (c == 2) = false := by rw [beq_eq_false_iff_ne]; exact k2
      by_cases k3 : c = 3
      · subst k3
        as_aux_lemma =>
          go_wp2_with fail
          refine (inReg_any _ N _).mono ?_
          rintro e w6 ⟨rfl, hw6⟩
          rw [hw6]
          clear hw6 w6
          by_cases hr : inN r N = false
          · rw [show decide (0 ≤ r ∧ r < (N : Int)) = false from hr]
            as_aux_lemma =>
              go_wp2
              go_meet
              case rel => exact ⟨by rw [badR_3, hr] <;> rfl, rfl⟩
          have hr : inN r N = true := by simpa using hr
          rw [show decide (0 ≤ r ∧ r < (N : Int)) = true from hr]
          go_wp2_with fail
          refine (inReg_any _ N _).mono ?_
          rintro e w6 ⟨rfl, hw6⟩
          rw [hw6]
          clear hw6 w6
          by_cases ha : inN a N = false
          · rw [show decide (0 ≤ a ∧ a < (N : Int)) = false from ha]
            as_aux_lemma =>
              go_wp2
              go_meet
              case rel => exact ⟨by rw [badR_3, hr, ha] <;> rfl, rfl⟩
          have ha : inN a N = true := by simpa using ha
          rw [show decide (0 ≤ a ∧ a < (N : Int)) = true from ha]
          go_wp2_with fail
          refine (inReg_any _ N _).mono ?_
          rintro e w6 ⟨rfl, hw6⟩
          rw [hw6]
          clear hw6 w6
          as_aux_lemma =>
            go_wp2
            go_meet
            case rel => exact ⟨by rw [badR_3, hr, ha, inN_dec] <;> rfl, rfl⟩
      have k3b : (c == 3) = false := by rw [beq_eq_false_iff_ne]; exact k3
      by_cases k4 : c = 4
      · subst k4
        as_aux_lemma =>
          go_wp2_with fail
          refine (inReg_any _ N _).mono ?_
          rintro e w6 ⟨rfl, hw6⟩
          rw [hw6]
          clear hw6 w6
          by_cases hr : inN r N = false
          · rw [show decide (0 ≤ r ∧ r < (N : Int)) = false from hr]
            as_aux_lemma =>
              go_wp2
              go_meet
              case rel => exact ⟨by rw [badR_4, hr] <;> rfl, rfl⟩
          have hr : inN r N = true := by simpa using hr
          rw [show decide (0 ≤ r ∧ r < (N : Int)) = true from hr]
          go_wp2_with fail
          refine (inReg_any _ N _).mono ?_
          rintro e w6 ⟨rfl, hw6⟩
          rw [hw6]
          clear hw6 w6
          by_cases ha : inN a N = false
          · rw [show decide (0 ≤ a ∧ a < (N : Int)) = false from ha]
            as_aux_lemma =>
              go_wp2
              go_meet
              case rel => exact ⟨by rw [badR_4, hr, ha] <;> rfl, rfl⟩
          have ha : inN a N = true := by simpa using ha
          rw [show decide (0 ≤ a ∧ a < (N : Int)) = true from ha]
          go_wp2_with fail
          refine (inReg_any _ N _).mono ?_
          rintro e w6 ⟨rfl, hw6⟩
          rw [hw6]
          clear hw6 w6
          as_aux_lemma =>
            go_wp2
            go_meet
            case rel => exact ⟨by rw [badR_4, hr, ha, inN_dec] <;> rfl, rfl⟩
      have k4b : (c == 4) = false := by rw [beq_eq_false_iff_ne]; exact k4
      by_cases k5 : c = 5
      · subst k5
        as_aux_lemma =>
          go_wp2_with fail
          refine (inReg_any _ N _).mono ?_
          rintro e w6 ⟨rfl, hw6⟩
          rw [hw6]
          clear hw6 w6
          by_cases hr : inN r N = false
          · rw [show decide (0 ≤ r ∧ r < (N : Int)) = false from hr]
            as_aux_lemma =>
              go_wp2
              go_meet
              case rel => exact ⟨by rw [badR_5, hr] <;> rfl, rfl⟩
          have hr : inN r N = true := by simpa using hr
          rw [show decide (0 ≤ r ∧ r < (N : Int)) = true from hr]
          go_wp2_with fail
          refine (inReg_any _ N _).mono ?_
          rintro e w6 ⟨rfl, hw6⟩
          rw [hw6]
          clear hw6 w6
          as_aux_lemma =>
            go_wp2
            go_meet
            case rel => exact ⟨by rw [badR_5, hr, inN_dec] <;> rfl, rfl⟩
      have k5b : (c == 5) = false := by rw [beq_eq_false_iff_ne]; exact k5
      by_cases k6 : c = 6
      · subst k6
        as_aux_lemma =>
          go_wp2_with fail
          refine (inReg_any _ N _).mono ?_
          rintro e w6 ⟨rfl, hw6⟩
          rw [hw6]
          clear hw6 w6
          by_cases ha : inN a N = false
          · rw [show decide (0 ≤ a ∧ a < (N : Int)) = false from ha]
            as_aux_lemma =>
              go_wp2
              go_meet
              case rel => exact ⟨by rw [badR_6, ha] <;> rfl, rfl⟩
          have ha : inN a N = true := by simpa using ha
          rw [show decide (0 ≤ a ∧ a < (N : Int)) = true from ha]
          go_wp2_with fail
          refine (inReg_any _ N _).mono ?_
          rintro e w6 ⟨rfl, hw6⟩
          rw [hw6]
          clear hw6 w6
          as_aux_lemma =>
            go_wp2
            go_meet
            case rel => exact ⟨by rw [badR_6, ha, inN_dec] <;> rfl, rfl⟩
      have k6b : (c == 6) = false := by rw [beq_eq_false_iff_ne]; exact k6
      by_cases k7 : c = 7
      · subst k7
        as_aux_lemma =>
          as_aux_lemma =>
            go_wp2
            go_meet
            case rel => exact ⟨by rw [badR_7] <;> rfl, rfl⟩
      have k7b : (c == 7) = false := by rw [beq_eq_false_iff_ne]; exact k7
      by_cases k8 : c = 8
      · subst k8
        as_aux_lemma =>
          by_cases hx0b : decide (x < 0) = true
          · skip
            as_aux_lemma =>
              go_wp2
              go_meet
              case rel => exact ⟨by rw [badR_8, hx0b] <;> rfl, rfl⟩
          have hx0b : decide (x < 0) = false := by simpa using hx0b
          as_aux_lemma =>
            go_wp2
            go_meet
            case rel => exact ⟨by rw [badR_8, hx0b] <;> rfl, rfl⟩
      have k8b : (c == 8) = false := by rw [beq_eq_false_iff_ne]; exact k8
      by_cases k9 : c = 9
      · subst k9
        as_aux_lemma =>
          go_wp2_with fail
          refine (inReg_any _ N _).mono ?_
          rintro e w6 ⟨rfl, hw6⟩
          rw [hw6]
          clear hw6 w6
          by_cases ha : inN a N = false
          · rw [show decide (0 ≤ a ∧ a < (N : Int)) = false from ha]
            as_aux_lemma =>
              go_wp2
              go_meet
              case rel => exact ⟨by rw [badR_9, ha] <;> rfl, rfl⟩
          have ha : inN a N = true := by simpa using ha
          rw [show decide (0 ≤ a ∧ a < (N : Int)) = true from ha]
          by_cases hx0b : decide (x < 0) = true
          · skip
            as_aux_lemma =>
              go_wp2
              go_meet
              case rel => exact ⟨by rw [badR_9, ha, hx0b] <;> rfl, rfl⟩
          have hx0b : decide (x < 0) = false := by simpa using hx0b
          as_aux_lemma =>
            go_wp2
            go_meet
            case rel => exact ⟨by rw [badR_9, ha, hx0b] <;> rfl, rfl⟩
      have k9b : (c == 9) = false := by rw [beq_eq_false_iff_ne]; exact k9
      as_aux_lemma =>
        have hot : ¬ (0 ≤ c ∧ c ≤ 9) := by omega
        have HOT := hide hot
        clear hot k0 k1 k2 k3 k4 k5 k6 k7 k8 k9
        go_wp2
        go_meet
        case rel => exact ⟨by rw [badR_other _ _ _ _ _ _ _ (unhide HOT)] <;> rfl, rfl⟩
    case rest =>
      obtain ⟨rfl, rfl⟩ := hcut
      by_cases hbad : badR p.length N ⟨c, r, a, b, x⟩ = true
      · have HEND := runR_fault p N args z k pc _ hkl (unhide HP) h10 hbad
        rw [hbad]
        as_aux_lemma =>
          go_wp2_with ((with_reducible refine ret_box (x := .int .i64 2) (y := .slice none 0 0) (z := .int .i64 k) Yabv.results10 B1 ?_); rw [← unhide HR, HEND]; exact ⟨_, _, rfl, ⟨rfl, .inl ⟨rfl, rfl⟩⟩, ((hbW.setCell (Nat.le_refl _) _).setCell (Nat.le_refl _) _).setCell (Nat.le_refl _) _⟩)
      have hgood : badR p.length N ⟨c, r, a, b, x⟩ = false := by simpa using hbad
      rw [hgood]
      have HB := hide hgood
      have hc09 : 0 ≤ c ∧ c ≤ 9 := by
        by_cases h : 0 ≤ c ∧ c ≤ 9
        · exact h
        · exact absurd (badR_other _ _ _ _ _ _ _ h) hbad
      clear hbad hgood
      have HCC : c = 0 ∨ c = 1 ∨ c = 2 ∨ c = 3 ∨ c = 4 ∨ c = 5 ∨ c = 6 ∨ c = 7 ∨ c = 8 ∨ c = 9 := by omega
      clear hc09
      rcases HCC with rfl | rfl | rfl | rfl | rfl | rfl | rfl | rfl | rfl | rfl
      · skip
        as_aux_lemma =>
          have hbb := unhide HB
          rw [badR_0] at hbb
          simp only [Bool.or_eq_false_iff, Bool.not_eq_false'] at hbb
          have hr := hbb
          clear hbb
          have HS : Hid (runR p N args (20000 - (k + 1)) (nxtR ⟨0, r, a, b, x⟩ pc z) (regR args ⟨0, r, a, b, x⟩ z) = R) := by
            have := runR_step p N args z k pc _ hkl (unhide HP) h10 (by simp [badR_0, hr])
            show _ = _
            rw [← this]; exact unhide HR
          clear q0 q1 q2 r0 r1 r2 HR HP
          obtain ⟨rn, rfl⟩ := Int.eq_ofNat_of_zero_le (inN_0 hr)
          have lr : (rn : Int) < (N : Int) := inN_1 hr
          have lr' : rn < N := by omega
          clear hr
          obtain ⟨u0, e0⟩ := own_old hvW rn (by rw [List.length_map, unhide HZ]; exact lr')
          have fr := hvW.frozenAt rn
          have R2 := ownI_store hvW rn x
          have HR2 := hide R2
          clear R2 hvW
          go_wp2
          go_roundw
          case measure => simp [intOf]; omega
          case rel =>
            have hs := unhide HS
            simp only [nxtR_0, regR_0, Int.toNat_natCast] at hs
            refine ⟨pc + 1, k + 1, z.set rn x, by go_num, by go_num, by omega, by omega, (by show _ = _; simpa using unhide HZ), hs, unhide HR2, by rw [heap_setCell_other _ _ _ _ (by simp)]; exact B1, hbW.setCell (by show _ ≤ w.heap.size + 1; omega) _⟩
      · skip
        as_aux_lemma =>
          have hbb := unhide HB
          rw [badR_1] at hbb
          simp only [Bool.or_eq_false_iff, Bool.not_eq_false'] at hbb
          have hr := hbb
          clear hbb
          have HS : Hid (runR p N args (20000 - (k + 1)) (nxtR ⟨1, r, a, b, x⟩ pc z) (regR args ⟨1, r, a, b, x⟩ z) = R) := by
            have := runR_step p N args z k pc _ hkl (unhide HP) h10 (by simp [badR_1, hr])
            show _ = _
            rw [← this]; exact unhide HR
          clear q0 q1 q2 r0 r1 r2 HR HP
          obtain ⟨rn, rfl⟩ := Int.eq_ofNat_of_zero_le (inN_0 hr)
          have lr : (rn : Int) < (N : Int) := inN_1 hr
          have lr' : rn < N := by omega
          clear hr
          obtain ⟨y, hy⟩ : ∃ y, y = argF args x := ⟨_, rfl⟩
          have HY := hide hy
          by_cases h0 : 0 ≤ x
          · obtain ⟨i, rfl⟩ := Int.eq_ofNat_of_zero_le h0
            by_cases h1 : i < args.length
            · obtain ⟨g, rfl⟩ := own_some ha (by omega)
              have d0 := ownI_cell (own_below' ha hbW) i h1
              have l1 : (i : Int) < (args.length : Int) := by omega
              have e : argF args i = args[i] := by simp [argF, h1]
              rw [e] at hy
              rw [← hy] at d0
              clear e hy
              obtain ⟨u0, e0⟩ := own_old hvW rn (by rw [List.length_map, unhide HZ]; exact lr')
              have fr := hvW.frozenAt rn
              have R2 := ownI_store hvW rn y
              have HR2 := hide R2
              clear R2 hvW
              go_wp2
              go_roundw
              case measure => simp [intOf]; omega
              case rel =>
                have hs := unhide HS
                simp only [nxtR_1, regR_1, Int.toNat_natCast, ← unhide HY] at hs
                refine ⟨pc + 1, k + 1, z.set rn y, by go_num, by go_num, by omega, by omega, (by show _ = _; simpa using unhide HZ), hs, unhide HR2, by rw [heap_setCell_other _ _ _ _ (by simp)]; exact B1, hbW.setCell (by show _ ≤ w.heap.size + 1; omega) _⟩
            · have l1 : decide ((i : Int) < (args.length : Int)) = false := by simp; omega
              have e : argF args i = 0 := by simp [argF, h1]
              rw [e] at hy
              clear e
              subst hy
              obtain ⟨u0, e0⟩ := own_old hvW rn (by rw [List.length_map, unhide HZ]; exact lr')
              have fr := hvW.frozenAt rn
              have R2 := ownI_store hvW rn 0
              have HR2 := hide R2
              clear R2 hvW
              go_wp2
              go_roundw
              case measure => simp [intOf]; omega
              case rel =>
                have hs := unhide HS
                simp only [nxtR_1, regR_1, Int.toNat_natCast, ← unhide HY] at hs
                refine ⟨pc + 1, k + 1, z.set rn 0, by go_num, by go_num, by omega, by omega, (by show _ = _; simpa using unhide HZ), hs, unhide HR2, by rw [heap_setCell_other _ _ _ _ (by simp)]; exact B1, hbW.setCell (by show _ ≤ w.heap.size + 1; omega) _⟩
          · have hd : decide (0 ≤ x) = false := by simpa using h0
            have e : argF args x = 0 := by simp [argF]; omega
            rw [e] at hy
            clear e
            subst hy
            obtain ⟨u0, e0⟩ := own_old hvW rn (by rw [List.length_map, unhide HZ]; exact lr')
            have fr := hvW.frozenAt rn
            have R2 := ownI_store hvW rn 0
            have HR2 := hide R2
            clear R2 hvW
            go_wp2
            go_roundw
            case measure => simp [intOf]; omega
            case rel =>
              have hs := unhide HS
              simp only [nxtR_1, regR_1, Int.toNat_natCast, ← unhide HY] at hs
              refine ⟨pc + 1, k + 1, z.set rn 0, by go_num, by go_num, by omega, by omega, (by show _ = _; simpa using unhide HZ), hs, unhide HR2, by rw [heap_setCell_other _ _ _ _ (by simp)]; exact B1, hbW.setCell (by show _ ≤ w.heap.size + 1; omega) _⟩
      · skip
        as_aux_lemma =>
          have hbb := unhide HB
          rw [badR_2] at hbb
          simp only [Bool.or_eq_false_iff, Bool.not_eq_false'] at hbb
          obtain ⟨⟨hr, ha⟩, hb⟩ := hbb
          have HS : Hid (runR p N args (20000 - (k + 1)) (nxtR ⟨2, r, a, b, x⟩ pc z) (regR args ⟨2, r, a, b, x⟩ z) = R) := by
            have := runR_step p N args z k pc _ hkl (unhide HP) h10 (by simp [badR_2, hr, ha, hb])
            show _ = _
            rw [← this]; exact unhide HR
          clear q0 q1 q2 r0 r1 r2 HR HP
          obtain ⟨rn, rfl⟩ := Int.eq_ofNat_of_zero_le (inN_0 hr)
          have lr : (rn : Int) < (N : Int) := inN_1 hr
          have lr' : rn < N := by omega
          clear hr
          obtain ⟨an, rfl⟩ := Int.eq_ofNat_of_zero_le (inN_0 ha)
          have la : (an : Int) < (N : Int) := inN_1 ha
          have la' : an < N := by omega
          clear ha
          obtain ⟨bn, rfl⟩ := Int.eq_ofNat_of_zero_le (inN_0 hb)
          have lb : (bn : Int) < (N : Int) := inN_1 hb
          have lb' : bn < N := by omega
          clear hb
          obtain ⟨y, hy⟩ : ∃ y, y = z.getD an 0 := ⟨_, rfl⟩
          have da : W.cell? ⟨w.heap.size + 1, an, none⟩ = some (.int .i64 y) := by rw [hy]; exact getD_cell hvW (by rw [unhide HZ]; exact la')
          have Hy := hide hy
          clear hy
          obtain ⟨u, hu⟩ : ∃ u, u = z.getD bn 0 := ⟨_, rfl⟩
          have db : W.cell? ⟨w.heap.size + 1, bn, none⟩ = some (.int .i64 u) := by rw [hu]; exact getD_cell hvW (by rw [unhide HZ]; exact lb')
          have Hu := hide hu
          clear hu
          obtain ⟨u0, e0⟩ := own_old hvW rn (by rw [List.length_map, unhide HZ]; exact lr')
          have fr := hvW.frozenAt rn
          have R2 : ∀ nq, ((W.drewN nq).setCell ⟨w.heap.size + 1, rn, none⟩ (.int .i64 (wrap64 (y + u)))).ownsRow (w.heap.size + 1) 2 1 (.slice (some ⟨w.heap.size + 1, 0, none⟩) N N) N ((z.set rn (wrap64 (y + u))).map (Value.int .i64)) := fun nq => ownI_store (w := W.drewN nq) hvW rn (wrap64 (y + u))
          have HR2 := hide R2
          clear R2 hvW
          go_wp2_with fail
          go_quiet (fail)
          go_wp2
          go_roundw
          case measure => simp [intOf]; omega
          case rel =>
            have hs := unhide HS
            simp only [nxtR_2, regR_2, Int.toNat_natCast, ← unhide Hy, ← unhide Hu] at hs
            refine ⟨pc + 1, k + 1, z.set rn (wrap64 (y + u)), by go_num, by go_num, by omega, by omega, (by show _ = _; simpa using unhide HZ), hs, unhide HR2 nq, by rw [heap_setCell_other _ _ _ _ (by simp)]; exact B1, (below_drewN hbW nq).setCell (by show _ ≤ w.heap.size + 1; omega) _⟩
      · skip
        as_aux_lemma =>
          have hbb := unhide HB
          rw [badR_3] at hbb
          simp only [Bool.or_eq_false_iff, Bool.not_eq_false'] at hbb
          obtain ⟨⟨hr, ha⟩, hb⟩ := hbb
          have HS : Hid (runR p N args (20000 - (k + 1)) (nxtR ⟨3, r, a, b, x⟩ pc z) (regR args ⟨3, r, a, b, x⟩ z) = R) := by
            have := runR_step p N args z k pc _ hkl (unhide HP) h10 (by simp [badR_3, hr, ha, hb])
            show _ = _
            rw [← this]; exact unhide HR
          clear q0 q1 q2 r0 r1 r2 HR HP
          obtain ⟨rn, rfl⟩ := Int.eq_ofNat_of_zero_le (inN_0 hr)
          have lr : (rn : Int) < (N : Int) := inN_1 hr
          have lr' : rn < N := by omega
          clear hr
          obtain ⟨an, rfl⟩ := Int.eq_ofNat_of_zero_le (inN_0 ha)
          have la : (an : Int) < (N : Int) := inN_1 ha
          have la' : an < N := by omega
          clear ha
          obtain ⟨bn, rfl⟩ := Int.eq_ofNat_of_zero_le (inN_0 hb)
          have lb : (bn : Int) < (N : Int) := inN_1 hb
          have lb' : bn < N := by omega
          clear hb
          obtain ⟨y, hy⟩ : ∃ y, y = z.getD an 0 := ⟨_, rfl⟩
          have da : W.cell? ⟨w.heap.size + 1, an, none⟩ = some (.int .i64 y) := by rw [hy]; exact getD_cell hvW (by rw [unhide HZ]; exact la')
          have Hy := hide hy
          clear hy
          obtain ⟨u, hu⟩ : ∃ u, u = z.getD bn 0 := ⟨_, rfl⟩
          have db : W.cell? ⟨w.heap.size + 1, bn, none⟩ = some (.int .i64 u) := by rw [hu]; exact getD_cell hvW (by rw [unhide HZ]; exact lb')
          have Hu := hide hu
          clear hu
          obtain ⟨u0, e0⟩ := own_old hvW rn (by rw [List.length_map, unhide HZ]; exact lr')
          have fr := hvW.frozenAt rn
          have R2 : ∀ nq, ((W.drewN nq).setCell ⟨w.heap.size + 1, rn, none⟩ (.int .i64 (wrap64 (y - u)))).ownsRow (w.heap.size + 1) 2 1 (.slice (some ⟨w.heap.size + 1, 0, none⟩) N N) N ((z.set rn (wrap64 (y - u))).map (Value.int .i64)) := fun nq => ownI_store (w := W.drewN nq) hvW rn (wrap64 (y - u))
          have HR2 := hide R2
          clear R2 hvW
          go_wp2_with fail
          go_quiet (fail)
          go_wp2
          go_roundw
          case measure => simp [intOf]; omega
          case rel =>
            have hs := unhide HS
            simp only [nxtR_3, regR_3, Int.toNat_natCast, ← unhide Hy, ← unhide Hu] at hs
            refine ⟨pc + 1, k + 1, z.set rn (wrap64 (y - u)), by go_num, by go_num, by omega, by omega, (by show _ = _; simpa using unhide HZ), hs, unhide HR2 nq, by rw [heap_setCell_other _ _ _ _ (by simp)]; exact B1, (below_drewN hbW nq).setCell (by show _ ≤ w.heap.size + 1; omega) _⟩
      · skip
        as_aux_lemma =>
          have hbb := unhide HB
          rw [badR_4] at hbb
          simp only [Bool.or_eq_false_iff, Bool.not_eq_false'] at hbb
          obtain ⟨⟨hr, ha⟩, hb⟩ := hbb
          have HS : Hid (runR p N args (20000 - (k + 1)) (nxtR ⟨4, r, a, b, x⟩ pc z) (regR args ⟨4, r, a, b, x⟩ z) = R) := by
            have := runR_step p N args z k pc _ hkl (unhide HP) h10 (by simp [badR_4, hr, ha, hb])
            show _ = _
            rw [← this]; exact unhide HR
          clear q0 q1 q2 r0 r1 r2 HR HP
          obtain ⟨rn, rfl⟩ := Int.eq_ofNat_of_zero_le (inN_0 hr)
          have lr : (rn : Int) < (N : Int) := inN_1 hr
          have lr' : rn < N := by omega
          clear hr
          obtain ⟨an, rfl⟩ := Int.eq_ofNat_of_zero_le (inN_0 ha)
          have la : (an : Int) < (N : Int) := inN_1 ha
          have la' : an < N := by omega
          clear ha
          obtain ⟨bn, rfl⟩ := Int.eq_ofNat_of_zero_le (inN_0 hb)
          have lb : (bn : Int) < (N : Int) := inN_1 hb
          have lb' : bn < N := by omega
          clear hb
          obtain ⟨y, hy⟩ : ∃ y, y = z.getD an 0 := ⟨_, rfl⟩
          have da : W.cell? ⟨w.heap.size + 1, an, none⟩ = some (.int .i64 y) := by rw [hy]; exact getD_cell hvW (by rw [unhide HZ]; exact la')
          have Hy := hide hy
          clear hy
          obtain ⟨u, hu⟩ : ∃ u, u = z.getD bn 0 := ⟨_, rfl⟩
          have db : W.cell? ⟨w.heap.size + 1, bn, none⟩ = some (.int .i64 u) := by rw [hu]; exact getD_cell hvW (by rw [unhide HZ]; exact lb')
          have Hu := hide hu
          clear hu
          obtain ⟨u0, e0⟩ := own_old hvW rn (by rw [List.length_map, unhide HZ]; exact lr')
          have fr := hvW.frozenAt rn
          have R2 : ∀ nq, ((W.drewN nq).setCell ⟨w.heap.size + 1, rn, none⟩ (.int .i64 (wrap64 (y * u)))).ownsRow (w.heap.size + 1) 2 1 (.slice (some ⟨w.heap.size + 1, 0, none⟩) N N) N ((z.set rn (wrap64 (y * u))).map (Value.int .i64)) := fun nq => ownI_store (w := W.drewN nq) hvW rn (wrap64 (y * u))
          have HR2 := hide R2
          clear R2 hvW
          go_wp2_with fail
          go_quiet (fail)
          go_wp2
          go_roundw
          case measure => simp [intOf]; omega
          case rel =>
            have hs := unhide HS
            simp only [nxtR_4, regR_4, Int.toNat_natCast, ← unhide Hy, ← unhide Hu] at hs
            refine ⟨pc + 1, k + 1, z.set rn (wrap64 (y * u)), by go_num, by go_num, by omega, by omega, (by show _ = _; simpa using unhide HZ), hs, unhide HR2 nq, by rw [heap_setCell_other _ _ _ _ (by simp)]; exact B1, (below_drewN hbW nq).setCell (by show _ ≤ w.heap.size + 1; omega) _⟩
      · skip
        as_aux_lemma =>
          have hbb := unhide HB
          rw [badR_5] at hbb
          simp only [Bool.or_eq_false_iff, Bool.not_eq_false'] at hbb
          obtain ⟨hr, ha⟩ := hbb
          have HS : Hid (runR p N args (20000 - (k + 1)) (nxtR ⟨5, r, a, b, x⟩ pc z) (regR args ⟨5, r, a, b, x⟩ z) = R) := by
            have := runR_step p N args z k pc _ hkl (unhide HP) h10 (by simp [badR_5, hr, ha])
            show _ = _
            rw [← this]; exact unhide HR
          clear q0 q1 q2 r0 r1 r2 HR HP
          obtain ⟨rn, rfl⟩ := Int.eq_ofNat_of_zero_le (inN_0 hr)
          have lr : (rn : Int) < (N : Int) := inN_1 hr
          have lr' : rn < N := by omega
          clear hr
          obtain ⟨an, rfl⟩ := Int.eq_ofNat_of_zero_le (inN_0 ha)
          have la : (an : Int) < (N : Int) := inN_1 ha
          have la' : an < N := by omega
          clear ha
          obtain ⟨y, hy⟩ : ∃ y, y = z.getD an 0 := ⟨_, rfl⟩
          have da : W.cell? ⟨w.heap.size + 1, an, none⟩ = some (.int .i64 y) := by rw [hy]; exact getD_cell hvW (by rw [unhide HZ]; exact la')
          have Hy := hide hy
          clear hy
          obtain ⟨u0, e0⟩ := own_old hvW rn (by rw [List.length_map, unhide HZ]; exact lr')
          have fr := hvW.frozenAt rn
          have R2 := ownI_store hvW rn y
          have HR2 := hide R2
          clear R2 hvW
          go_wp2
          go_roundw
          case measure => simp [intOf]; omega
          case rel =>
            have hs := unhide HS
            simp only [nxtR_5, regR_5, Int.toNat_natCast, ← unhide Hy] at hs
            refine ⟨pc + 1, k + 1, z.set rn y, by go_num, by go_num, by omega, by omega, (by show _ = _; simpa using unhide HZ), hs, unhide HR2, by rw [heap_setCell_other _ _ _ _ (by simp)]; exact B1, hbW.setCell (by show _ ≤ w.heap.size + 1; omega) _⟩
      · skip
        as_aux_lemma =>
          have hbb := unhide HB
          rw [badR_6] at hbb
          simp only [Bool.or_eq_false_iff, Bool.not_eq_false'] at hbb
          obtain ⟨ha, hb⟩ := hbb
          have HS : Hid (runR p N args (20000 - (k + 1)) (nxtR ⟨6, r, a, b, x⟩ pc z) (regR args ⟨6, r, a, b, x⟩ z) = R) := by
            have := runR_step p N args z k pc _ hkl (unhide HP) h10 (by simp [badR_6, ha, hb])
            show _ = _
            rw [← this]; exact unhide HR
          clear q0 q1 q2 r0 r1 r2 HR HP
          obtain ⟨an, rfl⟩ := Int.eq_ofNat_of_zero_le (inN_0 ha)
          have la : (an : Int) < (N : Int) := inN_1 ha
          have la' : an < N := by omega
          clear ha
          obtain ⟨bn, rfl⟩ := Int.eq_ofNat_of_zero_le (inN_0 hb)
          have lb : (bn : Int) < (N : Int) := inN_1 hb
          have lb' : bn < N := by omega
          clear hb
          obtain ⟨y, hy⟩ : ∃ y, y = z.getD an 0 := ⟨_, rfl⟩
          have da : W.cell? ⟨w.heap.size + 1, an, none⟩ = some (.int .i64 y) := by rw [hy]; exact getD_cell hvW (by rw [unhide HZ]; exact la')
          have Hy := hide hy
          clear hy
          by_cases hab : bn = an
          · subst hab
            have fa := hvW.frozenAt bn
            have R2 := ownI_store (ownI_store hvW bn y) bn y
            have HR2 := hide R2
            clear R2 hvW
            go_wp2
            go_roundw
            case measure => simp [intOf]; omega
            case rel =>
              have hs := unhide HS
              simp only [nxtR_6, regR_6, Int.toNat_natCast, ← unhide Hy] at hs
              refine ⟨pc + 1, k + 1, (z.set bn y).set bn y, by go_num, by go_num, by omega, by omega, (by show _ = _; simpa using unhide HZ), hs, unhide HR2, by rw [heap_setCell_other _ _ _ _ (by simp), heap_setCell_other _ _ _ _ (by simp)]; exact B1, (hbW.setCell (by show _ ≤ w.heap.size + 1; omega) _).setCell (by show _ ≤ w.heap.size + 1; omega) _⟩
          · have hba : ¬ an = bn := fun e => hab e.symm
            obtain ⟨u, hu⟩ : ∃ u, u = z.getD bn 0 := ⟨_, rfl⟩
            have db : W.cell? ⟨w.heap.size + 1, bn, none⟩ = some (.int .i64 u) := by rw [hu]; exact getD_cell hvW (by rw [unhide HZ]; exact lb')
            have Hu := hide hu
            clear hu
            have fa := hvW.frozenAt an
            have fb := hvW.frozenAt bn
            have R2 := ownI_store (ownI_store hvW an u) bn y
            have HR2 := hide R2
            clear R2 hvW
            go_wp2
            go_roundw
            case measure => simp [intOf]; omega
            case rel =>
              have hs := unhide HS
              simp only [nxtR_6, regR_6, Int.toNat_natCast, ← unhide Hy, ← unhide Hu] at hs
              refine ⟨pc + 1, k + 1, (z.set an u).set bn y, by go_num, by go_num, by omega, by omega, (by show _ = _; simpa using unhide HZ), hs, unhide HR2, by rw [heap_setCell_other _ _ _ _ (by simp), heap_setCell_other _ _ _ _ (by simp)]; exact B1, (hbW.setCell (by show _ ≤ w.heap.size + 1; omega) _).setCell (by show _ ≤ w.heap.size + 1; omega) _⟩
      · skip
        as_aux_lemma =>
          have HS : Hid (runR p N args (20000 - (k + 1)) (nxtR ⟨7, r, a, b, x⟩ pc z) (regR args ⟨7, r, a, b, x⟩ z) = R) := by
            have := runR_step p N args z k pc _ hkl (unhide HP) h10 (by simp [badR_7])
            show _ = _
            rw [← this]; exact unhide HR
          clear q0 q1 q2 r0 r1 r2 HR HP
          go_wp2
          go_roundw
          case measure => simp [intOf]; omega
          case rel =>
            have hs := unhide HS
            simp only [nxtR_7, regR_7] at hs
            refine ⟨pc + 1, k + 1, z, by go_num, by go_num, by omega, by omega, (by show _ = _; simpa using unhide HZ), hs, hvW, B1, hbW⟩
      · skip
        as_aux_lemma =>
          have hbb := unhide HB
          rw [badR_8] at hbb
          simp only [Bool.or_eq_false_iff, Bool.not_eq_false'] at hbb
          obtain ⟨hx0b, hx1b⟩ := hbb
          have HS : Hid (runR p N args (20000 - (k + 1)) (nxtR ⟨8, r, a, b, x⟩ pc z) (regR args ⟨8, r, a, b, x⟩ z) = R) := by
            have := runR_step p N args z k pc _ hkl (unhide HP) h10 (by simp [badR_8, hx0b, hx1b])
            show _ = _
            rw [← this]; exact unhide HR
          clear q0 q1 q2 r0 r1 r2 HR HP
          have hx0 : 0 ≤ x := by simpa using hx0b
          have hx1 : x ≤ p.length := by simpa using hx1b
          go_wp2
          go_roundw
          case measure => simp [intOf]; omega
          case rel =>
            have hs := unhide HS
            simp only [nxtR_8, regR_8] at hs
            refine ⟨x.toNat, k + 1, z, by go_num, by go_num, by omega, by omega, (by show _ = _; simpa using unhide HZ), hs, hvW, B1, hbW⟩
      · skip
        as_aux_lemma =>
          have hbb := unhide HB
          rw [badR_9] at hbb
          simp only [Bool.or_eq_false_iff, Bool.not_eq_false'] at hbb
          obtain ⟨⟨ha, hx0b⟩, hx1b⟩ := hbb
          have HS : Hid (runR p N args (20000 - (k + 1)) (nxtR ⟨9, r, a, b, x⟩ pc z) (regR args ⟨9, r, a, b, x⟩ z) = R) := by
            have := runR_step p N args z k pc _ hkl (unhide HP) h10 (by simp [badR_9, ha, hx0b, hx1b])
            show _ = _
            rw [← this]; exact unhide HR
          clear q0 q1 q2 r0 r1 r2 HR HP
          obtain ⟨an, rfl⟩ := Int.eq_ofNat_of_zero_le (inN_0 ha)
          have la : (an : Int) < (N : Int) := inN_1 ha
          have la' : an < N := by omega
          clear ha
          have hx0 : 0 ≤ x := by simpa using hx0b
          have hx1 : x ≤ p.length := by simpa using hx1b
          obtain ⟨y, hy⟩ : ∃ y, y = z.getD an 0 := ⟨_, rfl⟩
          have da : W.cell? ⟨w.heap.size + 1, an, none⟩ = some (.int .i64 y) := by rw [hy]; exact getD_cell hvW (by rw [unhide HZ]; exact la')
          have Hy := hide hy
          clear hy
          by_cases hy0 : y = 0
          · subst hy0
            go_wp2
            go_roundw
            case measure => simp [intOf]; omega
            case rel =>
              have hs := unhide HS
              simp only [nxtR_9, regR_9, Int.toNat_natCast, ← unhide Hy, eq_self, if_true] at hs
              refine ⟨x.toNat, k + 1, z, by go_num, by go_num, by omega, by omega, (by show _ = _; simpa using unhide HZ), hs, hvW, B1, hbW⟩
          · have hyb : (y == 0) = false := by rw [beq_eq_false_iff_ne]; exact hy0
            go_wp2
            go_roundw
            case measure => simp [intOf]; omega
            case rel =>
              have hs := unhide HS
              simp only [nxtR_9, regR_9, Int.toNat_natCast, ← unhide Hy, if_neg hy0] at hs
              refine ⟨pc + 1, k + 1, z, by go_num, by go_num, by omega, by omega, (by show _ = _; simpa using unhide HZ), hs, hvW, B1, hbW⟩
end Go.Proofs.Yahabw
