import Derived.Test.YahabwMach
set_option linter.unusedVariables false
set_option linter.unusedSimpArgs false
namespace Go.Proofs.Yahabw
open Go.RowKit

set_option maxRecDepth 100000 in
set_option maxHeartbeats 8000000 in
theorem implRunS_any (a a2 : Option Addr) (cap cap2 : Nat) (p : List (Int × Int)) (args : List Int) (w : World) (hp : w.ownsRow 0 60 2 (.slice a p.length cap) p.length (cellsS p))
    (ha : w.ownsRow 0 2 1 (.slice a2 args.length cap2) args.length (args.map (Value.int .i64))) (hlen : p.length ≤ 1000000000) (hlen2 : args.length ≤ 1000000000) :
    Calls Yabv.prog 8 #[.slice a p.length cap, .slice a2 args.length cap2] w (RunPost (runS p args 20000 0 []) w) := by
  obtain ⟨i0, hi, hz0, hz1, hz2⟩ := info_parts Yabv.info2
  have hszP : (Yabv.prog.info? 2).map (·.size) = some 1 := by rw [hi]; simp [hz1]
  obtain ⟨R, hR⟩ : ∃ R, R = runS p args 20000 0 [] := ⟨_, rfl⟩
  rw [← hR]
  have HR := hide hR
  clear hR
  go_enter Yabv.func8, Yabv.ntmps8
  go_wp2_with (at_make; refine wpList_make_own _ rfl _ _ 24 rfl (w.heap.size + 1) 2 i0 _ 1 Yabv.underlying24 hi hz0 hz1 _ _ _ 16 (by rfl) (by rfl) (by omega) (by rw [hz2]; omega) (by unfold maxLen; omega) (by simp) ?_)
  intro w1 hw1 hg1
  have B0 : w1.heap[w.heap.size]? = some (.cells #[.int .i64 0, .slice none 0 0, .int .i64 0] 34 (0, 0)) := by
    rw [hg1.block _ (by simp) (by simp)]; exact heap_alloc_new w _
  have hb1 : Below w.heap.size w w1 := ((Below.refl _ _).alloc (Nat.le_refl _) _).trans ((below_of_grown hg1).mono (by simp))
  clear hg1
  go_wp2_with fail
  go_loopw [6, 7, 8] (fun pv kv v wr => ∃ (pc k : Nat) (st : List Int), pv = .int .i64 pc ∧ kv = .int .i64 k ∧ pc ≤ p.length ∧ k ≤ 20000 ∧ st.length ≤ k ∧ Hid (runS p args (20000 - k) pc st = R) ∧
      wr.ownsRow (w.heap.size + 1) 2 1 v st.length (st.map (Value.int .i64)) ∧ wr.heap[w.heap.size]? = some (.cells #[.int .i64 0, .slice none 0 0, .int .i64 0] 34 (0, 0)) ∧ Below w.heap.size w wr)
    (fun _ kv _ _ => 20000 - (intOf kv).toNat)
  case atStart => exact ⟨0, 0, [], rfl, rfl, Nat.zero_le _, Nat.zero_le _, by simp, (unhide HR).symm, by simpa using hw1, B0, hb1⟩
  case round =>
    clear HR B0 hb1 hw1
    obtain ⟨pc, k, st, rfl, rfl, hpc, hk, hst, HR, hv, B0, hbw⟩ := hrel
    obtain ⟨av, cv, hvf⟩ := own_form hv
    rw [hvf] at hv ⊢
    have hbs : w.heap.size ≤ wr.heap.size := hbw.size
    have hbs' : w.heap.size < wr.heap.size := blk_lt B0
    by_cases hend : pc = p.length
    · subst hend
      have HEND := runS_end p args st k hk
      as_aux_lemma =>
        go_wp2_with (at_make; refine wpList_make_full _ rfl _ _ 24 rfl w.heap.size 2 i0 _ 1 Yabv.underlying24 hi hz0 hz1 _ _ _ _ st.length rfl rfl rfl rfl (by rw [hz2]; omega) (by unfold maxLen; omega) hbs ?_)
        intro w1 hown hgrow
        rw [made_I] at hown
        have hv1 := own_below' hv (below_of_grown hgrow)
        have hb1 : Below w.heap.size w w1 := hbw.grown hgrow hbw.size (by simp)
        go_wp2_with (with_reducible refine wpList_copy_row rfl (.tmp 40) (.tmp 41) 24 rfl 2 Yabv.underlying24 hszP _ _ _ _ _ rfl rfl w.heap.size (w.heap.size + 1) _ _ hown hv1 (ints_oneCell _ _) ?_)
        intro w2 hown2 hgrow2
        have B2 : w2.heap[w.heap.size]? = some (.cells #[.int .i64 0, .slice none 0 0, .int .i64 0] 34 (0, 0)) := by
          rw [hgrow2.block _ (by have := hgrow.size; omega) (by simp; omega), hgrow.block _ hbs' (by simp)]
          exact B0
        have q0 := blk_cell B2 0 rfl
        have q1 := blk_cell B2 1 rfl
        have q2 := blk_cell B2 2 rfl
        have r0 := blk_free B2 0
        have r1 := blk_free B2 1
        have r2 := blk_free B2 2
        have hb2 : Below w.heap.size w w2 := hb1.grown hgrow2 hb1.size (by simp; omega)
        go_wp2
        refine bodyPost_ret (v := .agg #[.int .i64 0, .slice (some ⟨wr.heap.size, 0, none⟩) st.length st.length, .int .i64 k]) (by simp [results, Yabv.results8, go_sem, q0, q1, q2]) rfl ?_
        rw [← unhide HR, HEND]
        refine ⟨_, _, rfl, ?_, ((hb2.setCell (Nat.le_refl _) _).setCell (Nat.le_refl _) _).setCell (Nat.le_refl _) _⟩
        have hne : (Value.slice (some ⟨wr.heap.size, 0, none⟩) st.length st.length).ownBlock ≠ some w.heap.size := by simp [Value.ownBlock]; omega
        exact own_setCell (own_setCell (own_setCell hown2 _ _ _ hne) _ _ _ hne) _ _ _ hne
    have hip : pc < p.length := by omega
    have hendb : ((pc : Int) == (p.length : Int)) = false := by rw [beq_eq_false_iff_ne]; omega
    have l2 : (pc : Int) < (p.length : Int) := by omega
    obtain ⟨gp, rfl⟩ := own_some hp (by omega)
    have hpw := own_below' hp hbw
    obtain ⟨c0, c1⟩ := ownS_cell hpw pc hip
    have HP : Hid (p[pc]? = some p[pc]) := List.getElem?_eq_getElem hip
    generalize p[pc] = op at *
    obtain ⟨c, x⟩ := op
    simp only at c0 c1
    by_cases h11 : c = 11
    · have HEND := runS_halt p args st k pc c x hk (unhide HP) h11
      subst h11
      as_aux_lemma =>
        go_wp2_with (at_make; refine wpList_make_full _ rfl _ _ 24 rfl w.heap.size 2 i0 _ 1 Yabv.underlying24 hi hz0 hz1 _ _ _ _ st.length rfl rfl rfl rfl (by rw [hz2]; omega) (by unfold maxLen; omega) hbs ?_)
        intro w1 hown hgrow
        rw [made_I] at hown
        have hv1 := own_below' hv (below_of_grown hgrow)
        have hb1 : Below w.heap.size w w1 := hbw.grown hgrow hbw.size (by simp)
        go_wp2_with (with_reducible refine wpList_copy_row rfl (.tmp 40) (.tmp 41) 24 rfl 2 Yabv.underlying24 hszP _ _ _ _ _ rfl rfl w.heap.size (w.heap.size + 1) _ _ hown hv1 (ints_oneCell _ _) ?_)
        intro w2 hown2 hgrow2
        have B2 : w2.heap[w.heap.size]? = some (.cells #[.int .i64 0, .slice none 0 0, .int .i64 0] 34 (0, 0)) := by
          rw [hgrow2.block _ (by have := hgrow.size; omega) (by simp; omega), hgrow.block _ hbs' (by simp)]
          exact B0
        have q0 := blk_cell B2 0 rfl
        have q1 := blk_cell B2 1 rfl
        have q2 := blk_cell B2 2 rfl
        have r0 := blk_free B2 0
        have r1 := blk_free B2 1
        have r2 := blk_free B2 2
        have hb2 : Below w.heap.size w w2 := hb1.grown hgrow2 hb1.size (by simp; omega)
        go_wp2
        refine bodyPost_ret (v := .agg #[.int .i64 0, .slice (some ⟨wr.heap.size, 0, none⟩) st.length st.length, .int .i64 k]) (by simp [results, Yabv.results8, go_sem, q0, q1, q2]) rfl ?_
        rw [← unhide HR, HEND]
        refine ⟨_, _, rfl, ?_, ((hb2.setCell (Nat.le_refl _) _).setCell (Nat.le_refl _) _).setCell (Nat.le_refl _) _⟩
        have hne : (Value.slice (some ⟨wr.heap.size, 0, none⟩) st.length st.length).ownBlock ≠ some w.heap.size := by simp [Value.ownBlock]; omega
        exact own_setCell (own_setCell (own_setCell hown2 _ _ _ hne) _ _ _ hne) _ _ _ hne
    have h11b : (c == 11) = false := by rw [beq_eq_false_iff_ne]; exact h11
    have q0 := blk_cell B0 0 rfl
    have q1 := blk_cell B0 1 rfl
    have q2 := blk_cell B0 2 rfl
    have r0 := blk_free B0 0
    have r1 := blk_free B0 1
    have r2 := blk_free B0 2
    by_cases hkf : k = 20000
    · have HEND := runS_fuel p args st pc c x (unhide HP) h11
      subst hkf
      as_aux_lemma =>
        go_wp2
        refine bodyPost_ret (v := .agg #[.int .i64 1, .slice none 0 0, .int .i64 20000]) (by simp [results, Yabv.results8, go_sem, q0, q1, q2]) rfl ?_
        rw [← unhide HR, HEND]
        exact ⟨_, _, rfl, ⟨rfl, .inl ⟨rfl, rfl⟩⟩, ((hbw.setCell (Nat.le_refl _) _).setCell (Nat.le_refl _) _).setCell (Nat.le_refl _) _⟩
    have hkl : k < 20000 := by omega
    have hkb : ((k : Int) == 20000) = false := by rw [beq_eq_false_iff_ne]; omega
    have hkl2 : (k : Int) < 20000 := by omega
    have hstl : st.length < 20000 := by omega
    go_wp2_with fail
    refine (needs_any c _).mono ?_
    rintro e w5 ⟨rfl, rfl⟩
    clear c0 c1 q0 q1 q2 r0 r1 r2
    generalize hWW : World.alloc wr _ = W
    have hbW : Below w.heap.size w W := by rw [← hWW]; exact hbw.alloc hbw.size _
    have hWs : wr.heap.size < W.heap.size := by rw [← hWW]; simp
    have hvW : W.ownsRow (w.heap.size + 1) 2 1 (.slice av st.length cv) st.length (st.map (Value.int .i64)) := by rw [← hWW]; exact hv.alloc _
    have B1 : W.heap[w.heap.size]? = some (.cells #[.int .i64 0, .slice none 0 0, .int .i64 0] 34 (0, 0)) := by rw [← hWW, Below.heap_alloc _ _ _ hbs']; exact B0
    have C1 : W.heap[wr.heap.size]? = some (.cells #[.int .i64 c, .int .i64 x] 60 (0, 0)) := by rw [← hWW]; exact heap_alloc_new wr _
    have c0 := blk_cell C1 0 rfl
    have c1 := blk_cell C1 1 rfl
    have q0 := blk_cell B1 0 rfl
    have q1 := blk_cell B1 1 rfl
    have q2 := blk_cell B1 2 rfl
    have r0 := blk_free B1 0
    have r1 := blk_free B1 1
    have r2 := blk_free B1 2
    clear hWW hv B0 hbw C1 hpw
    generalize wr.heap.size = bx at *
    by_cases hnd : needsF c < 0
    · have HEND := runS_fault p args st k pc c x hkl (unhide HP) h11 (.inl hnd)
      as_aux_lemma =>
        go_wp2
        refine bodyPost_ret (v := .agg #[.int .i64 2, .slice none 0 0, .int .i64 k]) (by simp [results, Yabv.results8, go_sem, q0, q1, q2]) rfl ?_
        rw [← unhide HR, HEND]
        exact ⟨_, _, rfl, ⟨rfl, .inl ⟨rfl, rfl⟩⟩, ((hbW.setCell (Nat.le_refl _) _).setCell (Nat.le_refl _) _).setCell (Nat.le_refl _) _⟩
    have hndb : decide (needsF c < 0) = false := by simpa using hnd
    by_cases hdn : (st.length : Int) < needsF c
    · have HEND := runS_fault p args st k pc c x hkl (unhide HP) h11 (.inr (.inl hdn))
      as_aux_lemma =>
        go_wp2
        refine bodyPost_ret (v := .agg #[.int .i64 2, .slice none 0 0, .int .i64 k]) (by simp [results, Yabv.results8, go_sem, q0, q1, q2]) rfl ?_
        rw [← unhide HR, HEND]
        exact ⟨_, _, rfl, ⟨rfl, .inl ⟨rfl, rfl⟩⟩, ((hbW.setCell (Nat.le_refl _) _).setCell (Nat.le_refl _) _).setCell (Nat.le_refl _) _⟩
    have hdnb : decide ((st.length : Int) < needsF c) = false := by simpa using hdn
    by_cases hjb : (c = 9 ∨ c = 10) ∧ (x < 0 ∨ (p.length : Int) < x)
    · have HEND := runS_fault p args st k pc c x hkl (unhide HP) h11 (.inr (.inr hjb))
      obtain ⟨hj1, hj2⟩ := hjb
      by_cases hx0 : x < 0
      · rcases hj1 with rfl | rfl
        · as_aux_lemma =>
            go_wp2
            refine bodyPost_ret (v := .agg #[.int .i64 2, .slice none 0 0, .int .i64 k]) (by simp [results, Yabv.results8, go_sem, q0, q1, q2]) rfl ?_
            rw [← unhide HR, HEND]
            exact ⟨_, _, rfl, ⟨rfl, .inl ⟨rfl, rfl⟩⟩, ((hbW.setCell (Nat.le_refl _) _).setCell (Nat.le_refl _) _).setCell (Nat.le_refl _) _⟩
        · as_aux_lemma =>
            go_wp2
            refine bodyPost_ret (v := .agg #[.int .i64 2, .slice none 0 0, .int .i64 k]) (by simp [results, Yabv.results8, go_sem, q0, q1, q2]) rfl ?_
            rw [← unhide HR, HEND]
            exact ⟨_, _, rfl, ⟨rfl, .inl ⟨rfl, rfl⟩⟩, ((hbW.setCell (Nat.le_refl _) _).setCell (Nat.le_refl _) _).setCell (Nat.le_refl _) _⟩
      · have hx0b : decide (x < 0) = false := by simpa using hx0
        have hx1 : (p.length : Int) < x := by omega
        rcases hj1 with rfl | rfl
        · as_aux_lemma =>
            go_wp2
            refine bodyPost_ret (v := .agg #[.int .i64 2, .slice none 0 0, .int .i64 k]) (by simp [results, Yabv.results8, go_sem, q0, q1, q2]) rfl ?_
            rw [← unhide HR, HEND]
            exact ⟨_, _, rfl, ⟨rfl, .inl ⟨rfl, rfl⟩⟩, ((hbW.setCell (Nat.le_refl _) _).setCell (Nat.le_refl _) _).setCell (Nat.le_refl _) _⟩
        · as_aux_lemma =>
            go_wp2
            refine bodyPost_ret (v := .agg #[.int .i64 2, .slice none 0 0, .int .i64 k]) (by simp [results, Yabv.results8, go_sem, q0, q1, q2]) rfl ?_
            rw [← unhide HR, HEND]
            exact ⟨_, _, rfl, ⟨rfl, .inl ⟨rfl, rfl⟩⟩, ((hbW.setCell (Nat.le_refl _) _).setCell (Nat.le_refl _) _).setCell (Nat.le_refl _) _⟩
    have HS : Hid (runS p args (20000 - (k + 1)) (nxtS c x pc st) (stkS args c x st) = R) := by
      have := runS_step p args st k pc c x hkl (unhide HP) h11 (by omega)
      show _ = _
      rw [← this]; exact unhide HR
    clear HR HP q0 q1 q2 r0 r1 r2
    have HN := needs_cases hnd h11
    have HJ : Hid (¬ ((c = 9 ∨ c = 10) ∧ (x < 0 ∨ (p.length : Int) < x))) := hjb
    have HD : Hid (¬ (st.length : Int) < needsF c) := hdn
    clear hjb hnd hdn h11 h11b
    have hBW : w.heap.size < W.heap.size := by omega
    rcases HN with rfl | rfl | rfl | rfl | rfl | rfl | rfl | rfl | rfl | rfl | rfl
    · as_aux_lemma =>
        go_wp2_with (at_builtin; refine wpList_append_own _ rfl (.tmp 95) (.tmp 98) 24 rfl (w.heap.size + 1) 2 i0 _ 1 8 Yabv.underlying24 hi hz0 hz1 hz2 rfl (by decide) _ _ _ rfl (hvW.alloc _) ⟨W.heap.size, 0, none⟩ 1 1 [.int .i64 x] rfl rfl (cells_new W [.int .i64 x] 2) (by intro u hu; simp at hu; subst hu; rfl) (by unfold maxLen; omega) (by omega) (by simp; omega) ?_)
        intro v3 w3 hw3 hg3 _
        have B3 : w3.heap[w.heap.size]? = some (.cells #[.int .i64 0, .slice none 0 0, .int .i64 0] 34 (0, 0)) := by
          rw [hg3.block _ (by simp; omega) (fun e => by have := (hvW.lt _ e.symm).1; omega), Below.heap_alloc _ _ _ hBW]; exact B1
        have hb3 : Below w.heap.size w w3 := (hbW.alloc hbW.size _).grown hg3 (by simp; omega) (fun j hj => by have := (hvW.lt j hj).1; omega)
        clear hg3
        go_wp2
        go_roundw
        case measure => simp [intOf]; omega
        case rel =>
          have hs := unhide HS
          rw [nxtS_other 0 x pc st (by decide) (by decide), stkS_0] at hs
          exact ⟨pc + 1, k + 1, st ++ [x], by go_num, by go_num, by omega, by omega, (by first | omega | (simp; omega)), hs, by simpa using hw3, B3, hb3⟩
    · as_aux_lemma =>
        obtain ⟨y, hy⟩ : ∃ y, y = argF args x := ⟨_, rfl⟩
        have HY := hide hy
        by_cases h0 : 0 ≤ x
        · obtain ⟨i, rfl⟩ := Int.eq_ofNat_of_zero_le h0
          by_cases h1 : i < args.length
          · obtain ⟨g, rfl⟩ := own_some ha (by omega)
            have d0 := ownI_cell (own_below' ha hbW) i h1
            have l1 : (i : Int) < (args.length : Int) := by omega
            have e : argF args i = args[i] := by simp [argF, h1]
            rw [e] at hy
            rw [← hy] at d0
            clear e hy
            go_wp2_with (at_builtin; refine wpList_append_own _ rfl (.tmp 117) (.tmp 119) 24 rfl (w.heap.size + 1) 2 i0 _ 1 8 Yabv.underlying24 hi hz0 hz1 hz2 rfl (by decide) _ _ _ rfl (hvW.alloc _) ⟨W.heap.size, 0, none⟩ 1 1 [.int .i64 y] rfl rfl (cells_new W [.int .i64 y] 2) (by intro u hu; simp at hu; subst hu; rfl) (by unfold maxLen; omega) (by omega) (by simp; omega) ?_)
            intro v3 w3 hw3 hg3 _
            have B3 : w3.heap[w.heap.size]? = some (.cells #[.int .i64 0, .slice none 0 0, .int .i64 0] 34 (0, 0)) := by
              rw [hg3.block _ (by simp; omega) (fun e => by have := (hvW.lt _ e.symm).1; omega), Below.heap_alloc _ _ _ hBW]; exact B1
            have hb3 : Below w.heap.size w w3 := (hbW.alloc hbW.size _).grown hg3 (by simp; omega) (fun j hj => by have := (hvW.lt j hj).1; omega)
            clear hg3
            go_wp2
            go_roundw
            case measure => simp [intOf]; omega
            case rel =>
              have hs := unhide HS
              rw [nxtS_other 1 i pc st (by decide) (by decide), stkS_1, ← unhide HY] at hs
              exact ⟨pc + 1, k + 1, st ++ [y], by go_num, by go_num, by omega, by omega, (by first | omega | (simp; omega)), hs, by simpa using hw3, B3, hb3⟩
          · have l1 : decide ((i : Int) < (args.length : Int)) = false := by simp; omega
            have e : argF args i = 0 := by simp [argF, h1]
            rw [e] at hy
            clear e
            subst hy
            go_wp2_with (at_builtin; refine wpList_append_own _ rfl (.tmp 117) (.tmp 119) 24 rfl (w.heap.size + 1) 2 i0 _ 1 8 Yabv.underlying24 hi hz0 hz1 hz2 rfl (by decide) _ _ _ rfl (hvW.alloc _) ⟨W.heap.size, 0, none⟩ 1 1 [.int .i64 0] rfl rfl (cells_new W [.int .i64 0] 2) (by intro u hu; simp at hu; subst hu; rfl) (by unfold maxLen; omega) (by omega) (by simp; omega) ?_)
            intro v3 w3 hw3 hg3 _
            have B3 : w3.heap[w.heap.size]? = some (.cells #[.int .i64 0, .slice none 0 0, .int .i64 0] 34 (0, 0)) := by
              rw [hg3.block _ (by simp; omega) (fun e => by have := (hvW.lt _ e.symm).1; omega), Below.heap_alloc _ _ _ hBW]; exact B1
            have hb3 : Below w.heap.size w w3 := (hbW.alloc hbW.size _).grown hg3 (by simp; omega) (fun j hj => by have := (hvW.lt j hj).1; omega)
            clear hg3
            go_wp2
            go_roundw
            case measure => simp [intOf]; omega
            case rel =>
              have hs := unhide HS
              rw [nxtS_other 1 i pc st (by decide) (by decide), stkS_1, ← unhide HY] at hs
              exact ⟨pc + 1, k + 1, st ++ [0], by go_num, by go_num, by omega, by omega, (by first | omega | (simp; omega)), hs, by simpa using hw3, B3, hb3⟩
        · have hd : decide (0 ≤ x) = false := by simpa using h0
          have e : argF args x = 0 := by simp [argF]; omega
          rw [e] at hy
          clear e
          subst hy
          go_wp2_with (at_builtin; refine wpList_append_own _ rfl (.tmp 117) (.tmp 119) 24 rfl (w.heap.size + 1) 2 i0 _ 1 8 Yabv.underlying24 hi hz0 hz1 hz2 rfl (by decide) _ _ _ rfl (hvW.alloc _) ⟨W.heap.size, 0, none⟩ 1 1 [.int .i64 0] rfl rfl (cells_new W [.int .i64 0] 2) (by intro u hu; simp at hu; subst hu; rfl) (by unfold maxLen; omega) (by omega) (by simp; omega) ?_)
          intro v3 w3 hw3 hg3 _
          have B3 : w3.heap[w.heap.size]? = some (.cells #[.int .i64 0, .slice none 0 0, .int .i64 0] 34 (0, 0)) := by
            rw [hg3.block _ (by simp; omega) (fun e => by have := (hvW.lt _ e.symm).1; omega), Below.heap_alloc _ _ _ hBW]; exact B1
          have hb3 : Below w.heap.size w w3 := (hbW.alloc hbW.size _).grown hg3 (by simp; omega) (fun j hj => by have := (hvW.lt j hj).1; omega)
          clear hg3
          go_wp2
          go_roundw
          case measure => simp [intOf]; omega
          case rel =>
            have hs := unhide HS
            rw [nxtS_other 1 x pc st (by decide) (by decide), stkS_1, ← unhide HY] at hs
            exact ⟨pc + 1, k + 1, st ++ [0], by go_num, by go_num, by omega, by omega, (by first | omega | (simp; omega)), hs, by simpa using hw3, B3, hb3⟩
    · as_aux_lemma =>
        obtain ⟨r, y, z, rfl⟩ := top2 (st := st) (by have := unhide HD; simp [needsF] at this; omega)
        have hel : (r ++ [y, z]).length = r.length + 2 := by simp
        rw [hel] at hvW hstl hst
        simp only [hel] at *
        obtain ⟨g, rfl⟩ := own_some hvW (by omega)
        have d0 : W.cell? ⟨g, r.length, none⟩ = some (.int .i64 y) := by
          have := ownI_cell hvW r.length (by simp)
          simpa using this
        have d1 : W.cell? ⟨g, r.length + 1, none⟩ = some (.int .i64 z) := by
          have := ownI_cell hvW (r.length + 1) (by simp)
          simpa using this
        have hcv : r.length + 2 ≤ cv := own_cap hvW
        have hcv1 : r.length + 1 ≤ cv := by omega
        have hcv2 : (r.length : Int) + 1 ≤ (cv : Int) := by omega
        have hcv3 : ¬ cv = 0 := by omega
        have hg := hvW.lt g rfl
        obtain ⟨hg1, hg2⟩ := hg
        have f0 := hvW.frozenAt r.length
        have hvp : W.ownsRow (w.heap.size + 1) 2 1 (.slice (some ⟨g, 0, none⟩) (r.length + 1) cv) (r.length + 1) ((r ++ [y]).map (Value.int .i64)) := ownsRow_pop (last := [.int .i64 z]) (by simp) (by simpa using hvW)
        have R2 : ∀ nq, ((W.drewN nq).setCell ⟨g, r.length, none⟩ (.int .i64 (wrap64 (y + z)))).ownsRow (w.heap.size + 1) 2 1 (.slice (some ⟨g, 0, none⟩) (r.length + 1) cv) (r.length + 1) ((r ++ [wrap64 (y + z)]).map (Value.int .i64)) := fun nq => by
          have := ownI_store (w := W.drewN nq) hvp r.length (wrap64 (y + z))
          simpa using this
        clear hvp hvW
        have HR2 := hide R2
        clear R2
        go_wp2_with fail
        go_quiet (fail)
        go_wp2
        go_roundw
        case measure => simp [intOf]; omega
        case rel =>
          have hs := unhide HS
          rw [nxtS_other 2 x pc _ (by decide) (by decide), stkS_2] at hs
          refine ⟨pc + 1, k + 1, r ++ [wrap64 (y + z)], by go_num, by go_num, by omega, by omega, (by first | omega | (simp; omega)), hs, ?_, ?_, ?_⟩
          · simpa using unhide HR2 nq
          · rw [heap_setCell_other _ _ _ _ (by simp; omega)]; exact B1
          · exact (below_drewN hbW nq).setCell (by show _ ≤ g; omega) _
    · as_aux_lemma =>
        obtain ⟨r, y, z, rfl⟩ := top2 (st := st) (by have := unhide HD; simp [needsF] at this; omega)
        have hel : (r ++ [y, z]).length = r.length + 2 := by simp
        rw [hel] at hvW hstl hst
        simp only [hel] at *
        obtain ⟨g, rfl⟩ := own_some hvW (by omega)
        have d0 : W.cell? ⟨g, r.length, none⟩ = some (.int .i64 y) := by
          have := ownI_cell hvW r.length (by simp)
          simpa using this
        have d1 : W.cell? ⟨g, r.length + 1, none⟩ = some (.int .i64 z) := by
          have := ownI_cell hvW (r.length + 1) (by simp)
          simpa using this
        have hcv : r.length + 2 ≤ cv := own_cap hvW
        have hcv1 : r.length + 1 ≤ cv := by omega
        have hcv2 : (r.length : Int) + 1 ≤ (cv : Int) := by omega
        have hcv3 : ¬ cv = 0 := by omega
        have hg := hvW.lt g rfl
        obtain ⟨hg1, hg2⟩ := hg
        have f0 := hvW.frozenAt r.length
        have hvp : W.ownsRow (w.heap.size + 1) 2 1 (.slice (some ⟨g, 0, none⟩) (r.length + 1) cv) (r.length + 1) ((r ++ [y]).map (Value.int .i64)) := ownsRow_pop (last := [.int .i64 z]) (by simp) (by simpa using hvW)
        have R2 : ∀ nq, ((W.drewN nq).setCell ⟨g, r.length, none⟩ (.int .i64 (wrap64 (y - z)))).ownsRow (w.heap.size + 1) 2 1 (.slice (some ⟨g, 0, none⟩) (r.length + 1) cv) (r.length + 1) ((r ++ [wrap64 (y - z)]).map (Value.int .i64)) := fun nq => by
          have := ownI_store (w := W.drewN nq) hvp r.length (wrap64 (y - z))
          simpa using this
        clear hvp hvW
        have HR2 := hide R2
        clear R2
        go_wp2_with fail
        go_quiet (fail)
        go_wp2
        go_roundw
        case measure => simp [intOf]; omega
        case rel =>
          have hs := unhide HS
          rw [nxtS_other 3 x pc _ (by decide) (by decide), stkS_3] at hs
          refine ⟨pc + 1, k + 1, r ++ [wrap64 (y - z)], by go_num, by go_num, by omega, by omega, (by first | omega | (simp; omega)), hs, ?_, ?_, ?_⟩
          · simpa using unhide HR2 nq
          · rw [heap_setCell_other _ _ _ _ (by simp; omega)]; exact B1
          · exact (below_drewN hbW nq).setCell (by show _ ≤ g; omega) _
    · as_aux_lemma =>
        obtain ⟨r, y, z, rfl⟩ := top2 (st := st) (by have := unhide HD; simp [needsF] at this; omega)
        have hel : (r ++ [y, z]).length = r.length + 2 := by simp
        rw [hel] at hvW hstl hst
        simp only [hel] at *
        obtain ⟨g, rfl⟩ := own_some hvW (by omega)
        have d0 : W.cell? ⟨g, r.length, none⟩ = some (.int .i64 y) := by
          have := ownI_cell hvW r.length (by simp)
          simpa using this
        have d1 : W.cell? ⟨g, r.length + 1, none⟩ = some (.int .i64 z) := by
          have := ownI_cell hvW (r.length + 1) (by simp)
          simpa using this
        have hcv : r.length + 2 ≤ cv := own_cap hvW
        have hcv1 : r.length + 1 ≤ cv := by omega
        have hcv2 : (r.length : Int) + 1 ≤ (cv : Int) := by omega
        have hcv3 : ¬ cv = 0 := by omega
        have hg := hvW.lt g rfl
        obtain ⟨hg1, hg2⟩ := hg
        have f0 := hvW.frozenAt r.length
        have hvp : W.ownsRow (w.heap.size + 1) 2 1 (.slice (some ⟨g, 0, none⟩) (r.length + 1) cv) (r.length + 1) ((r ++ [y]).map (Value.int .i64)) := ownsRow_pop (last := [.int .i64 z]) (by simp) (by simpa using hvW)
        have R2 : ∀ nq, ((W.drewN nq).setCell ⟨g, r.length, none⟩ (.int .i64 (wrap64 (y * z)))).ownsRow (w.heap.size + 1) 2 1 (.slice (some ⟨g, 0, none⟩) (r.length + 1) cv) (r.length + 1) ((r ++ [wrap64 (y * z)]).map (Value.int .i64)) := fun nq => by
          have := ownI_store (w := W.drewN nq) hvp r.length (wrap64 (y * z))
          simpa using this
        clear hvp hvW
        have HR2 := hide R2
        clear R2
        go_wp2_with fail
        go_quiet (fail)
        go_wp2
        go_roundw
        case measure => simp [intOf]; omega
        case rel =>
          have hs := unhide HS
          rw [nxtS_other 4 x pc _ (by decide) (by decide), stkS_4] at hs
          refine ⟨pc + 1, k + 1, r ++ [wrap64 (y * z)], by go_num, by go_num, by omega, by omega, (by first | omega | (simp; omega)), hs, ?_, ?_, ?_⟩
          · simpa using unhide HR2 nq
          · rw [heap_setCell_other _ _ _ _ (by simp; omega)]; exact B1
          · exact (below_drewN hbW nq).setCell (by show _ ≤ g; omega) _
    · as_aux_lemma =>
        obtain ⟨r, y, rfl⟩ := top1 (st := st) (by have := unhide HD; simp [needsF] at this; omega)
        have hel : (r ++ [y]).length = r.length + 1 := by simp
        rw [hel] at hvW hstl hst
        simp only [hel] at *
        obtain ⟨g, rfl⟩ := own_some hvW (by omega)
        have d0 : W.cell? ⟨g, r.length, none⟩ = some (.int .i64 y) := by
          have := ownI_cell hvW r.length (by simp)
          simpa using this
        have hcv : r.length + 1 ≤ cv := own_cap hvW
        have hcv1 : r.length ≤ cv := by omega
        have hcv2 : (r.length : Int) ≤ (cv : Int) := by omega
        have hcv3 : ¬ cv = 0 := by omega
        have hg := hvW.lt g rfl
        obtain ⟨hg1, hg2⟩ := hg
        go_wp2_with (at_builtin; refine wpList_append_own _ rfl (.tmp 194) (.tmp 196) 24 rfl (w.heap.size + 1) 2 i0 _ 1 8 Yabv.underlying24 hi hz0 hz1 hz2 rfl (by decide) _ _ _ rfl (hvW.alloc _) ⟨W.heap.size, 0, none⟩ 1 1 [.int .i64 y] rfl rfl (cells_new W [.int .i64 y] 2) (by intro u hu; simp at hu; subst hu; rfl) (by unfold maxLen; omega) (by omega) (by simp; omega) ?_)
        intro v3 w3 hw3 hg3 _
        have B3 : w3.heap[w.heap.size]? = some (.cells #[.int .i64 0, .slice none 0 0, .int .i64 0] 34 (0, 0)) := by
          rw [hg3.block _ (by simp; omega) (fun e => by have := (hvW.lt _ e.symm).1; omega), Below.heap_alloc _ _ _ hBW]; exact B1
        have hb3 : Below w.heap.size w w3 := (hbW.alloc hbW.size _).grown hg3 (by simp; omega) (fun j hj => by have := (hvW.lt j hj).1; omega)
        clear hg3
        go_wp2
        go_roundw
        case measure => simp [intOf]; omega
        case rel =>
          have hs := unhide HS
          rw [nxtS_other 5 x pc _ (by decide) (by decide), stkS_5] at hs
          exact ⟨pc + 1, k + 1, r ++ [y, y], by go_num, by go_num, by omega, by omega, (by first | omega | (simp; omega)), hs, by simpa using hw3, B3, hb3⟩
    · as_aux_lemma =>
        obtain ⟨r, y, z, rfl⟩ := top2 (st := st) (by have := unhide HD; simp [needsF] at this; omega)
        have hel : (r ++ [y, z]).length = r.length + 2 := by simp
        rw [hel] at hvW hstl hst
        simp only [hel] at *
        obtain ⟨g, rfl⟩ := own_some hvW (by omega)
        have d0 : W.cell? ⟨g, r.length, none⟩ = some (.int .i64 y) := by
          have := ownI_cell hvW r.length (by simp)
          simpa using this
        have d1 : W.cell? ⟨g, r.length + 1, none⟩ = some (.int .i64 z) := by
          have := ownI_cell hvW (r.length + 1) (by simp)
          simpa using this
        have hcv : r.length + 2 ≤ cv := own_cap hvW
        have hcv1 : r.length + 1 ≤ cv := by omega
        have hcv2 : (r.length : Int) + 1 ≤ (cv : Int) := by omega
        have hcv3 : ¬ cv = 0 := by omega
        have hg := hvW.lt g rfl
        obtain ⟨hg1, hg2⟩ := hg
        go_wp2_with (at_builtin; refine wpList_append_own _ rfl (.tmp 205) (.tmp 207) 24 rfl (w.heap.size + 1) 2 i0 _ 1 8 Yabv.underlying24 hi hz0 hz1 hz2 rfl (by decide) _ _ _ rfl (hvW.alloc _) ⟨W.heap.size, 0, none⟩ 1 1 [.int .i64 y] rfl rfl (cells_new W [.int .i64 y] 2) (by intro u hu; simp at hu; subst hu; rfl) (by unfold maxLen; omega) (by omega) (by simp; omega) ?_)
        intro v3 w3 hw3 hg3 _
        have B3 : w3.heap[w.heap.size]? = some (.cells #[.int .i64 0, .slice none 0 0, .int .i64 0] 34 (0, 0)) := by
          rw [hg3.block _ (by simp; omega) (fun e => by have := (hvW.lt _ e.symm).1; omega), Below.heap_alloc _ _ _ hBW]; exact B1
        have hb3 : Below w.heap.size w w3 := (hbW.alloc hbW.size _).grown hg3 (by simp; omega) (fun j hj => by have := (hvW.lt j hj).1; omega)
        clear hg3
        go_wp2
        go_roundw
        case measure => simp [intOf]; omega
        case rel =>
          have hs := unhide HS
          rw [nxtS_other 6 x pc _ (by decide) (by decide), stkS_6] at hs
          exact ⟨pc + 1, k + 1, r ++ [y, z, y], by go_num, by go_num, by omega, by omega, (by first | omega | (simp; omega)), hs, by simpa using hw3, B3, hb3⟩
    · as_aux_lemma =>
        obtain ⟨r, y, rfl⟩ := top1 (st := st) (by have := unhide HD; simp [needsF] at this; omega)
        have hel : (r ++ [y]).length = r.length + 1 := by simp
        rw [hel] at hvW hstl hst
        simp only [hel] at *
        obtain ⟨g, rfl⟩ := own_some hvW (by omega)
        have d0 : W.cell? ⟨g, r.length, none⟩ = some (.int .i64 y) := by
          have := ownI_cell hvW r.length (by simp)
          simpa using this
        have hcv : r.length + 1 ≤ cv := own_cap hvW
        have hcv1 : r.length ≤ cv := by omega
        have hcv2 : (r.length : Int) ≤ (cv : Int) := by omega
        have hcv3 : ¬ cv = 0 := by omega
        have hg := hvW.lt g rfl
        obtain ⟨hg1, hg2⟩ := hg
        have hvp : W.ownsRow (w.heap.size + 1) 2 1 (.slice (some ⟨g, 0, none⟩) r.length cv) r.length (r.map (Value.int .i64)) := ownsRow_pop (last := [.int .i64 y]) (by simp) (by simpa using hvW)
        clear hvW
        go_wp2
        go_roundw
        case measure => simp [intOf]; omega
        case rel =>
          have hs := unhide HS
          rw [nxtS_other 7 x pc _ (by decide) (by decide), stkS_7] at hs
          exact ⟨pc + 1, k + 1, r, by go_num, by go_num, by omega, by omega, (by first | omega | (simp; omega)), hs, hvp, B1, hbW⟩
    · as_aux_lemma =>
        obtain ⟨r, y, z, rfl⟩ := top2 (st := st) (by have := unhide HD; simp [needsF] at this; omega)
        have hel : (r ++ [y, z]).length = r.length + 2 := by simp
        rw [hel] at hvW hstl hst
        simp only [hel] at *
        obtain ⟨g, rfl⟩ := own_some hvW (by omega)
        have d0 : W.cell? ⟨g, r.length, none⟩ = some (.int .i64 y) := by
          have := ownI_cell hvW r.length (by simp)
          simpa using this
        have d1 : W.cell? ⟨g, r.length + 1, none⟩ = some (.int .i64 z) := by
          have := ownI_cell hvW (r.length + 1) (by simp)
          simpa using this
        have hcv : r.length + 2 ≤ cv := own_cap hvW
        have hcv1 : r.length + 1 ≤ cv := by omega
        have hcv2 : (r.length : Int) + 1 ≤ (cv : Int) := by omega
        have hcv3 : ¬ cv = 0 := by omega
        have hg := hvW.lt g rfl
        obtain ⟨hg1, hg2⟩ := hg
        have f0 := hvW.frozenAt r.length
        have f1 := hvW.frozenAt (r.length + 1)
        have R := ownI_store (ownI_store hvW (r.length + 1) y) r.length z
        have R2 : ((W.setCell ⟨g, r.length + 1, none⟩ (.int .i64 y)).setCell ⟨g, r.length, none⟩ (.int .i64 z)).ownsRow (w.heap.size + 1) 2 1 (.slice (some ⟨g, 0, none⟩) (r.length + 2) cv) (r.length + 2) ((r ++ [z, y]).map (Value.int .i64)) := by simpa using R
        clear R hvW
        have HR2 := hide R2
        clear R2
        go_wp2
        go_roundw
        case measure => simp [intOf]; omega
        case rel =>
          have hs := unhide HS
          rw [nxtS_other 8 x pc _ (by decide) (by decide), stkS_8] at hs
          exact ⟨pc + 1, k + 1, r ++ [z, y], by go_num, by go_num, by omega, by omega, (by first | omega | (simp; omega)), hs, by simpa using unhide HR2, by rw [heap_setCell_other _ _ _ _ (by simp; omega), heap_setCell_other _ _ _ _ (by simp; omega)]; exact B1, (hbW.setCell (by show _ ≤ g; omega) _).setCell (by show _ ≤ g; omega) _⟩
    · as_aux_lemma =>
        have hx0b : decide (x < 0) = false := by have := unhide HJ; simp; omega
        have hx1b : decide ((p.length : Int) < x) = false := by have := unhide HJ; simp; omega
        have hx0 : 0 ≤ x := by simpa using hx0b
        have hx1 : x ≤ p.length := by simpa using hx1b
        go_wp2
        go_roundw
        case measure => simp [intOf]; omega
        case rel =>
          have hs := unhide HS
          rw [nxtS_9, stkS_9] at hs
          exact ⟨x.toNat, k + 1, st, by go_num, by go_num, by omega, by omega, (by first | omega | (simp; omega)), hs, hvW, B1, hbW⟩
    · as_aux_lemma =>
        have hx0b : decide (x < 0) = false := by have := unhide HJ; simp; omega
        have hx1b : decide ((p.length : Int) < x) = false := by have := unhide HJ; simp; omega
        have hx0 : 0 ≤ x := by simpa using hx0b
        have hx1 : x ≤ p.length := by simpa using hx1b
        obtain ⟨r, y, rfl⟩ := top1 (st := st) (by have := unhide HD; simp [needsF] at this; omega)
        have hel : (r ++ [y]).length = r.length + 1 := by simp
        rw [hel] at hvW hstl hst
        simp only [hel] at *
        obtain ⟨g, rfl⟩ := own_some hvW (by omega)
        have d0 : W.cell? ⟨g, r.length, none⟩ = some (.int .i64 y) := by
          have := ownI_cell hvW r.length (by simp)
          simpa using this
        have hcv : r.length + 1 ≤ cv := own_cap hvW
        have hcv1 : r.length ≤ cv := by omega
        have hcv2 : (r.length : Int) ≤ (cv : Int) := by omega
        have hcv3 : ¬ cv = 0 := by omega
        have hg := hvW.lt g rfl
        obtain ⟨hg1, hg2⟩ := hg
        have hvp : W.ownsRow (w.heap.size + 1) 2 1 (.slice (some ⟨g, 0, none⟩) r.length cv) r.length (r.map (Value.int .i64)) := ownsRow_pop (last := [.int .i64 y]) (by simp) (by simpa using hvW)
        clear hvW
        by_cases hy0 : y = 0
        · subst hy0
          go_wp2
          go_roundw
          case measure => simp [intOf]; omega
          case rel =>
            have hs := unhide HS
            rw [nxtS_10, stkS_10, if_pos rfl] at hs
            exact ⟨x.toNat, k + 1, r, by go_num, by go_num, by omega, by omega, (by first | omega | (simp; omega)), hs, hvp, B1, hbW⟩
        · have hyb : (y == 0) = false := by rw [beq_eq_false_iff_ne]; exact hy0
          go_wp2
          go_roundw
          case measure => simp [intOf]; omega
          case rel =>
            have hs := unhide HS
            rw [nxtS_10, stkS_10, if_neg hy0] at hs
            exact ⟨pc + 1, k + 1, r, by go_num, by go_num, by omega, by omega, (by first | omega | (simp; omega)), hs, hvp, B1, hbW⟩
end Go.Proofs.Yahabw
