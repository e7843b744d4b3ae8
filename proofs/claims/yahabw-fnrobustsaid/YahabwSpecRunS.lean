import Derived.Test.YahabwStepS
set_option linter.unusedVariables false
set_option linter.unusedSimpArgs false
namespace Go.Proofs.Yahabw
open Go.RowKit

theorem nxtS_le (n : Nat) (c x : Int) (pc : Nat) (st : List Int) (hpc : pc < n) (h : ¬ badS n c x st.length) : nxtS c x pc st ≤ n := by
  unfold badS at h
  unfold nxtS
  split
  · omega
  · split <;> omega

set_option maxRecDepth 100000 in
set_option maxHeartbeats 4000000 in
theorem specRunS_any (a a2 : Option Addr) (cap cap2 : Nat) (p : List (Int × Int)) (args : List Int) (w : World) (hp : w.ownsRow 0 60 2 (.slice a p.length cap) p.length (cellsS p))
    (ha : w.ownsRow 0 2 1 (.slice a2 args.length cap2) args.length (args.map (Value.int .i64))) (hlen : p.length ≤ 1000000000) (hlen2 : args.length ≤ 1000000000) :
    Calls Yabv.prog 30 #[.slice a p.length cap, .slice a2 args.length cap2] w (RunPost (runS p args 20000 0 []) w) := by
  obtain ⟨R, hR⟩ : ∃ R, R = runS p args 20000 0 [] := ⟨_, rfl⟩
  rw [← hR]
  have HR := hide hR
  clear hR
  have G0 : ((w.alloc (.cells #[.int .i64 0, .slice none 0 0, .int .i64 0] 34)).alloc (.cells #[.int .i64 0, .slice none 0 0, .int .i64 0] 93)).heap[w.heap.size]? = some (.cells #[.int .i64 0, .slice none 0 0, .int .i64 0] 34 (0, 0)) := by
    rw [Below.heap_alloc _ _ _ (by simp)]; exact heap_alloc_new w _
  have G1 : ((w.alloc (.cells #[.int .i64 0, .slice none 0 0, .int .i64 0] 34)).alloc (.cells #[.int .i64 0, .slice none 0 0, .int .i64 0] 93)).heap[w.heap.size + 1]? = some (.cells #[.int .i64 0, .slice none 0 0, .int .i64 0] 93 (0, 0)) := by
    simpa using heap_alloc_new (w.alloc _) _
  have G2 : Below w.heap.size w ((w.alloc (.cells #[.int .i64 0, .slice none 0 0, .int .i64 0] 34)).alloc (.cells #[.int .i64 0, .slice none 0 0, .int .i64 0] 93)) := ((Below.refl _ _).alloc (Nat.le_refl _) _).alloc (by simp) _
  have HG0 := hide G0
  have HG1 := hide G1
  have HG2 := hide G2
  clear G0 G1 G2
  go_enter Yabv.func30, Yabv.ntmps30
  go_wp2_with fail
  go_loopw [7] (fun gv wr => ∃ (pc k : Nat) (st : List Int) (av : Option Addr) (cv : Nat), gv = .int .i64 k ∧ pc ≤ p.length ∧ k ≤ 20000 ∧ st.length ≤ k ∧ Hid (runS p args (20000 - k) pc st = R) ∧ NZ av st.length cv ∧
      wr.ownsRow (w.heap.size + 2) 2 1 (.slice av st.length cv) st.length (st.map (Value.int .i64)) ∧ wr.heap[w.heap.size]? = some (.cells #[.int .i64 0, .slice none 0 0, .int .i64 0] 34 (0, 0)) ∧
      wr.heap[w.heap.size + 1]? = some (.cells #[.int .i64 pc, .slice av st.length cv, .int .i64 k] 93 (0, 0)) ∧ Below w.heap.size w wr)
    (fun kv _ => 20001 - (intOf kv).toNat)
  case atStart => exact ⟨0, 0, [], none, 0, rfl, Nat.zero_le _, Nat.zero_le _, by simp, (unhide HR).symm, .inl ⟨rfl, rfl, rfl⟩, ⟨rfl, .inl ⟨rfl, rfl⟩⟩, unhide HG0, unhide HG1, unhide HG2⟩
  case round =>
    clear HR HG0 HG1 HG2
    obtain ⟨pc, k, st, av, cv, rfl, hpc, hk, hst, HR, hnz, hv, B0, B1, hbw⟩ := hrel
    have hbs : w.heap.size ≤ wr.heap.size := hbw.size
    have hbs' : w.heap.size < wr.heap.size := blk_lt B0
    have hbs2 : w.heap.size + 1 < wr.heap.size := blk_lt B1
    have p0 : wr.cell? ⟨w.heap.size + 1, 0, none⟩ = some (.int .i64 pc) := blk_cell B1 0 rfl
    have p1 : wr.cell? ⟨w.heap.size + 1, 1, none⟩ = some (.slice av st.length cv) := blk_cell B1 1 rfl
    have p2 : wr.cell? ⟨w.heap.size + 1, 2, none⟩ = some (.int .i64 k) := blk_cell B1 2 rfl
    have hk2 : (k : Int) ≤ 20000 := by omega
    by_cases hend : pc = p.length
    · subst hend
      have HEND := runS_end p args st k hk
      go_wp2_with fail
      refine (halted_any av cv st k wr (own_base hv (Nat.zero_le _)) (by omega)).mono ?_
      rintro e w2 ⟨a3, c3, rfl, hown3, hb3⟩
      have B0x : w2.heap[w.heap.size]? = some (.cells #[.int .i64 0, .slice none 0 0, .int .i64 0] 34 (0, 0)) := keepb hb3 B0 hbs'
      have q0 := blk_cell B0x 0 rfl
      have q1 := blk_cell B0x 1 rfl
      have q2 := blk_cell B0x 2 rfl
      have r0 := blk_free B0x 0
      have r1 := blk_free B0x 1
      have r2 := blk_free B0x 2
      have hbf : Below w.heap.size w w2 := hbw.trans (hb3.mono hbs)
      clear p0 p1 p2
      go_wp2
      refine bodyPost_ret (v := .agg #[.int .i64 0, .slice a3 st.length c3, .int .i64 k]) (by simp [results, Yabv.results30, go_sem, q0, q1, q2]) rfl ?_
      rw [← unhide HR, HEND]
      refine ⟨_, _, rfl, ?_, ((hbf.setCell (Nat.le_refl _) _).setCell (Nat.le_refl _) _).setCell (Nat.le_refl _) _⟩
      have hne : (Value.slice a3 st.length c3).ownBlock ≠ some w.heap.size := own_ne hown3 B0x (by decide)
      exact own_setCell (own_setCell (own_setCell (own_base hown3 hbs) _ _ _ hne) _ _ _ hne) _ _ _ hne
    have hip : pc < p.length := by omega
    have hendb : ((pc : Int) == (p.length : Int)) = false := by rw [beq_eq_false_iff_ne]; omega
    have l2 : (pc : Int) < (p.length : Int) := by omega
    have hpw := own_below' hp hbw
    have haw := own_below' ha hbw
    obtain ⟨gp, rfl⟩ := own_some hp (by omega)
    obtain ⟨c0, c1⟩ := ownS_cell hpw pc hip
    have HP : Hid (p[pc]? = some p[pc]) := List.getElem?_eq_getElem hip
    generalize p[pc] = op at *
    obtain ⟨c, x⟩ := op
    simp only at c0 c1
    by_cases h11 : c = 11
    · have HEND := runS_halt p args st k pc c x hk (unhide HP) h11
      subst h11
      go_wp2_with fail
      refine (halted_any av cv st k wr (own_base hv (Nat.zero_le _)) (by omega)).mono ?_
      rintro e w2 ⟨a3, c3, rfl, hown3, hb3⟩
      have B0x : w2.heap[w.heap.size]? = some (.cells #[.int .i64 0, .slice none 0 0, .int .i64 0] 34 (0, 0)) := keepb hb3 B0 hbs'
      have q0 := blk_cell B0x 0 rfl
      have q1 := blk_cell B0x 1 rfl
      have q2 := blk_cell B0x 2 rfl
      have r0 := blk_free B0x 0
      have r1 := blk_free B0x 1
      have r2 := blk_free B0x 2
      have hbf : Below w.heap.size w w2 := hbw.trans (hb3.mono hbs)
      clear p0 p1 p2
      go_wp2
      refine bodyPost_ret (v := .agg #[.int .i64 0, .slice a3 st.length c3, .int .i64 k]) (by simp [results, Yabv.results30, go_sem, q0, q1, q2]) rfl ?_
      rw [← unhide HR, HEND]
      refine ⟨_, _, rfl, ?_, ((hbf.setCell (Nat.le_refl _) _).setCell (Nat.le_refl _) _).setCell (Nat.le_refl _) _⟩
      have hne : (Value.slice a3 st.length c3).ownBlock ≠ some w.heap.size := own_ne hown3 B0x (by decide)
      exact own_setCell (own_setCell (own_setCell (own_base hown3 hbs) _ _ _ hne) _ _ _ hne) _ _ _ hne
    have h11b : (c == 11) = false := by rw [beq_eq_false_iff_ne]; exact h11
    by_cases hkf : k = 20000
    · have HEND := runS_fuel p args st pc c x (unhide HP) h11
      subst hkf
      go_wp2_with fail
      refine (outOfFuel_any _).mono ?_
      rintro e w2 ⟨rfl, hb3⟩
      have B0x : w2.heap[w.heap.size]? = some (.cells #[.int .i64 0, .slice none 0 0, .int .i64 0] 34 (0, 0)) := keepb hb3 B0 hbs'
      have q0 := blk_cell B0x 0 rfl
      have q1 := blk_cell B0x 1 rfl
      have q2 := blk_cell B0x 2 rfl
      have r0 := blk_free B0x 0
      have r1 := blk_free B0x 1
      have r2 := blk_free B0x 2
      have hbf : Below w.heap.size w w2 := hbw.trans (hb3.mono hbs)
      clear p0 p1 p2
      go_wp2
      refine bodyPost_ret (v := .agg #[.int .i64 1, .slice none 0 0, .int .i64 20000]) (by simp [results, Yabv.results30, go_sem, q0, q1, q2]) rfl ?_
      rw [← unhide HR, HEND]
      exact ⟨_, _, rfl, ⟨rfl, .inl ⟨rfl, rfl⟩⟩, ((hbf.setCell (Nat.le_refl _) _).setCell (Nat.le_refl _) _).setCell (Nat.le_refl _) _⟩
    have hkl : k < 20000 := by omega
    have hkb : ((k : Int) == 20000) = false := by rw [beq_eq_false_iff_ne]; omega
    go_wp2_with fail
    refine (stepS_any _ a2 av cap cap2 cv (w.heap.size + 2) pc k p args st wr hpw haw hv hnz hlen hlen2 (by omega) hkl (by omega) c x (unhide HP) h11).mono ?_
    have hne0 : some w.heap.size ≠ (Value.slice av st.length cv).ownBlock := fun e => by have := (hv.lt _ e.symm).1; omega
    have hne1 : some (w.heap.size + 1) ≠ (Value.slice av st.length cv).ownBlock := fun e => by have := (hv.lt _ e.symm).1; omega
    have hro : ∀ j, (Value.slice av st.length cv).ownBlock = some j → w.heap.size ≤ j := fun j hj => by have := (hv.lt j hj).1; omega
    rintro e w2 (⟨hbad, rfl, hg⟩ | ⟨hgood, a', c', rfl, hown, hg, hnz2⟩)
    · have HEND := runS_fault p args st k pc c x hkl (unhide HP) h11 hbad
      have B0' : w2.heap[w.heap.size]? = some (.cells #[.int .i64 0, .slice none 0 0, .int .i64 0] 34 (0, 0)) := by rw [hg.block _ hbs' hne0]; exact B0
      have B1' : w2.heap[w.heap.size + 1]? = some (.cells #[.int .i64 pc, .slice av st.length cv, .int .i64 k] 93 (0, 0)) := by rw [hg.block _ hbs2 hne1]; exact B1
      have hb2 : Below w.heap.size w w2 := hbw.grown hg hbs hro
      have hs1 : w.heap.size < w2.heap.size := blk_lt B0'
      have hs2 : w.heap.size + 1 < w2.heap.size := blk_lt B1'
      clear p0 p1 p2 c0 c1 hg B0 B1 hbw hpw haw hv
      have p2 : w2.cell? ⟨w.heap.size + 1, 2, none⟩ = some (.int .i64 k) := blk_cell B1' 2 rfl
      go_wp2_with fail
      refine (faulted_any _ _).mono ?_
      rintro e w3 ⟨rfl, hb3⟩
      have hbA : Below w2.heap.size w2 w3 := ((Below.refl _ _).alloc (Nat.le_refl _) _).trans (hb3.mono (by simp))
      have B0x : w3.heap[w.heap.size]? = some (.cells #[.int .i64 0, .slice none 0 0, .int .i64 0] 34 (0, 0)) := keepb hbA B0' hs1
      have q0 := blk_cell B0x 0 rfl
      have q1 := blk_cell B0x 1 rfl
      have q2 := blk_cell B0x 2 rfl
      have r0 := blk_free B0x 0
      have r1 := blk_free B0x 1
      have r2 := blk_free B0x 2
      have hbf : Below w.heap.size w w3 := hb2.trans (hbA.mono hb2.size)
      clear p2
      go_wp2
      refine bodyPost_ret (v := .agg #[.int .i64 2, .slice none 0 0, .int .i64 k]) (by simp [results, Yabv.results30, go_sem, q0, q1, q2]) rfl ?_
      rw [← unhide HR, HEND]
      exact ⟨_, _, rfl, ⟨rfl, .inl ⟨rfl, rfl⟩⟩, ((hbf.setCell (Nat.le_refl _) _).setCell (Nat.le_refl _) _).setCell (Nat.le_refl _) _⟩
    · have hs := runS_step p args st k pc c x hkl (unhide HP) h11 hgood
      have HS : Hid (runS p args (20000 - (k + 1)) (nxtS c x pc st) (stkS args c x st) = R) := by show _ = _; rw [← hs]; exact unhide HR
      have hnx := nxtS_le p.length c x pc st hip hgood
      have hln : (stkS args c x st).length ≤ k + 1 := by
        rcases stkS_len args c x st with h | h | h
        · omega
        · exact absurd (.inl h) hgood
        · exact absurd (.inr (.inl h)) hgood
      generalize nxtS c x pc st = pc2 at *
      generalize stkS args c x st = st2 at *
      clear hs hgood
      have B0' : w2.heap[w.heap.size]? = some (.cells #[.int .i64 0, .slice none 0 0, .int .i64 0] 34 (0, 0)) := by rw [hg.block _ hbs' hne0]; exact B0
      have B1' : w2.heap[w.heap.size + 1]? = some (.cells #[.int .i64 pc, .slice av st.length cv, .int .i64 k] 93 (0, 0)) := by rw [hg.block _ hbs2 hne1]; exact B1
      have hb2 : Below w.heap.size w w2 := hbw.grown hg hbs hro
      have hs1 : w.heap.size < w2.heap.size := blk_lt B0'
      have hs2 : w.heap.size + 1 < w2.heap.size := blk_lt B1'
      have hne3 : (Value.slice a' st2.length c').ownBlock ≠ some (w.heap.size + 1) := own_ne hown B1' (by decide)
      clear p0 p1 p2 c0 c1 hg B0 B1 hbw hpw haw hv hne0 hne1 hro
      have p0 : w2.cell? ⟨w.heap.size + 1, 0, none⟩ = some (.int .i64 pc) := blk_cell B1' 0 rfl
      have p1 : w2.cell? ⟨w.heap.size + 1, 1, none⟩ = some (.slice av st.length cv) := blk_cell B1' 1 rfl
      have p2 : w2.cell? ⟨w.heap.size + 1, 2, none⟩ = some (.int .i64 k) := blk_cell B1' 2 rfl
      have f0 := blk_free B1' 0
      have f1 := blk_free B1' 1
      have f2 := blk_free B1' 2
      go_wp2
      go_roundw
      case measure => simp [intOf]; omega
      case rel =>
        refine ⟨pc2, k + 1, st2, a', c', by go_num, hnx, by omega, hln, HS, hnz2, ?_, ?_, ?_, ?_⟩
        · exact (own_setCell (own_setCell (own_setCell hown _ _ _ hne3) _ _ _ hne3) _ _ _ hne3).alloc _
        · rw [Below.heap_alloc _ _ _ (by simpa using hs1), heap_setCell_other _ _ _ _ (by simp), heap_setCell_other _ _ _ _ (by simp), heap_setCell_other _ _ _ _ (by simp)]; exact B0'
        · rw [Below.heap_alloc _ _ _ (by simpa using hs2), heap_setCell_same _ (w.heap.size + 1) 2 _ 93 _ (heap_setCell_same _ (w.heap.size + 1) 1 _ 93 _ (heap_setCell_same _ (w.heap.size + 1) 0 _ 93 _ B1'))]; simp
        · exact (((hb2.setCell (by show _ ≤ w.heap.size + 1; omega) _).setCell (by show _ ≤ w.heap.size + 1; omega) _).setCell (by show _ ≤ w.heap.size + 1; omega) _).alloc (by simpa using hb2.size) _
end Go.Proofs.Yahabw
