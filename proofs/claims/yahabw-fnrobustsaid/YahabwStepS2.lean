import Derived.Test.YahabwStepS0
import Derived.LoopN
import Derived.Deep.CutBlock
set_option linter.unusedVariables false
set_option linter.unusedSimpArgs false
namespace Go.Proofs.Yahabw
open Go.RowKit

set_option maxRecDepth 100000 in
set_option maxHeartbeats 4000000 in
theorem stepS_c1n (a2 : Option Addr) (gp n cap cap2 base pc k : Nat) (args : List Int) (x : Int) (w : World) (hip : pc < n) (c0 : w.cell? ⟨gp, pc * 2, none⟩ = some (.int .i64 1)) (c1 : w.cell? ⟨gp, pc * 2 + 1, none⟩ = some (.int .i64 x)) (hgp : gp < w.heap.size)
    (ha : w.ownsRow 0 2 1 (.slice a2 args.length cap2) args.length (args.map (Value.int .i64))) (hv : w.ownsRow base 2 1 (.slice none 0 0) 0 ([].map (Value.int .i64)))
    (hlen : n ≤ 1000000000) (hlen2 : args.length ≤ 1000000000) (hst : 0 ≤ 20000) (hk : k < 20000) (hbase : base ≤ w.heap.size) :
    Calls Yabv.prog 48 #[.slice (some ⟨gp, 0, none⟩) n cap, .slice a2 args.length cap2, .agg #[.int .i64 pc, .slice none 0 0, .int .i64 k]] w (StepPost n args 1 x pc k [] base (.slice none 0 0) w) := by
  have hnF : needsF 1 = 0 := by simp [needsF]
  obtain ⟨i0, hi, hz0, hz1, hz2⟩ := info_parts Yabv.info2
  have l2 : (pc : Int) < (n : Int) := by omega
  have hkl : (k : Int) < 20000 := by omega
  go_enter Yabv.func48, Yabv.ntmps48
  go_wp2_with fail
  refine (effect_any _ _).mono ?_
  rintro e w5 ⟨rfl, rfl⟩
  have hSW := SW.start w pc k (0) none 0 1 x
  clear c0 c1
  rw [hnF]
  generalize World.alloc (World.alloc (World.alloc w _) _) _ = W at hSW ⊢
  have p0 : W.cell? ⟨w.heap.size, 0, none⟩ = some (.int .i64 pc) := blk_cell hSW.e0 0 rfl
  have p1 : W.cell? ⟨w.heap.size, 1, none⟩ = some (.slice none (0) 0) := blk_cell hSW.e0 1 rfl
  have p2 : W.cell? ⟨w.heap.size, 2, none⟩ = some (.int .i64 k) := blk_cell hSW.e0 2 rfl
  have q0 : W.cell? ⟨w.heap.size + 1, 0, none⟩ = some (.int .i64 0) := blk_cell hSW.e1 0 rfl
  have q1 : W.cell? ⟨w.heap.size + 1, 1, none⟩ = some (.slice none 0 0) := blk_cell hSW.e1 1 rfl
  have q2 : W.cell? ⟨w.heap.size + 1, 2, none⟩ = some (.int .i64 0) := blk_cell hSW.e1 2 rfl
  have r0 := blk_free hSW.e1 0
  have r1 := blk_free hSW.e1 1
  have r2 := blk_free hSW.e1 2
  have s0 : W.cell? ⟨w.heap.size + 1 + 1, 0, none⟩ = some (.int .i64 1) := blk_cell hSW.e2 0 rfl
  have s1 : W.cell? ⟨w.heap.size + 1 + 1, 1, none⟩ = some (.int .i64 x) := blk_cell hSW.e2 1 rfl
  have hsz : w.heap.size + 1 < W.heap.size := by have := hSW.size; omega
  have hsz2 : w.heap.size < W.heap.size := by have := hSW.size; omega
  have hsz3 : w.heap.size + 1 + 1 < W.heap.size := by have := hSW.size; omega
  have hvW := own_below' hv hSW.below
  go_wp2_with fail
  refine wp_loop_rounds 1 ?_
  rw [rounds_succ]
  go_upto_block 2 with fail
  obtain ⟨hS2, X⟩ := hSW.arr0 (.int .i64 0) (.int .i64 0)
  generalize hW2 : World.alloc W _ = W2 at hS2 X ⊢
  clear hW2 p0 p1 p2 q0 q1 q2 r0 r1 r2 s0 s1 hsz hsz2 hsz3 hvW 
  have p0 : W2.cell? ⟨w.heap.size, 0, none⟩ = some (.int .i64 pc) := blk_cell hS2.e0 0 rfl
  have p1 : W2.cell? ⟨w.heap.size, 1, none⟩ = some (.slice none (0) 0) := blk_cell hS2.e0 1 rfl
  have p2 : W2.cell? ⟨w.heap.size, 2, none⟩ = some (.int .i64 k) := blk_cell hS2.e0 2 rfl
  have q0 : W2.cell? ⟨w.heap.size + 1, 0, none⟩ = some (.int .i64 0) := blk_cell hS2.e1 0 rfl
  have q1 : W2.cell? ⟨w.heap.size + 1, 1, none⟩ = some (.slice none 0 0) := blk_cell hS2.e1 1 rfl
  have q2 : W2.cell? ⟨w.heap.size + 1, 2, none⟩ = some (.int .i64 0) := blk_cell hS2.e1 2 rfl
  have r0 := blk_free hS2.e1 0
  have r1 := blk_free hS2.e1 1
  have r2 := blk_free hS2.e1 2
  have s0 : W2.cell? ⟨w.heap.size + 1 + 1, 0, none⟩ = some (.int .i64 1) := blk_cell hS2.e2 0 rfl
  have s1 : W2.cell? ⟨w.heap.size + 1 + 1, 1, none⟩ = some (.int .i64 x) := blk_cell hS2.e2 1 rfl
  have hsz : w.heap.size + 1 < W2.heap.size := by have := hS2.size; omega
  have hsz2 : w.heap.size < W2.heap.size := by have := hS2.size; omega
  have hsz3 : w.heap.size + 1 + 1 < W2.heap.size := by have := hS2.size; omega
  have x0 : W2.cell? ⟨W.heap.size, 0, none⟩ = some (.int .i64 0) := blk_cell X 0 rfl
  have x1 : W2.cell? ⟨W.heap.size, 1, none⟩ = some (.int .i64 0) := blk_cell X 1 rfl
  generalize W.heap.size = bx at *
  have hv2 := own_below' hv hS2.below
  have hvp := hv2
  have hvb : ∀ j, (Value.slice none (0) 0).ownBlock = some j → j < w.heap.size := fun j hj => (hv.lt j hj).2
  go_wp2_with fail
  refine (argAt_any a2 cap2 args x _ (own_below' ha hS2.below) hlen2).mono ?_
  rintro e w6 ⟨rfl, hw6⟩
  rw [hw6]
  clear hw6 w6
  go_wp2_with (at_builtin; refine wpList_append_own _ rfl (.tmp 77) (.tmp 82) 24 rfl base 2 i0 _ 1 8 Yabv.underlying24 hi hz0 hz1 hz2 rfl (by decide) _ _ _ rfl (hvp.alloc _) ⟨W2.heap.size, 0, none⟩ 1 1 [.int .i64 (argF args x)] rfl rfl (cells_new W2 [.int .i64 (argF args x)] 2) (by intro u hu; simp at hu; rcases hu with rfl <;> rfl) (by unfold maxLen; first | omega | (simp; done) | (simp; omega)) (by first | omega | (simp; done) | (simp; omega)) (by first | omega | (simp; done) | (simp; omega)) ?_)
  intro v3 w3 hw3 hg3 _
  obtain ⟨a3, c3, rfl⟩ := own_form hw3
  have hS3 : SW w (W2.alloc (.cells #[.int .i64 (argF args x)] 2)) pc k (0) none 0 1 x := hS2.keep ((Below.refl _ _).alloc (by omega) _)
  obtain ⟨F0, F1⟩ := hS3.grow hg3 hvb
  have hb3 := hS3.below
  clear p0 p1 p2 q0 q1 q2 r0 r1 r2 s0 s1 x0 x1
  have p2 : w3.cell? ⟨w.heap.size, 2, none⟩ = some (.int .i64 k) := blk_cell F0 2 rfl
  have q0 : w3.cell? ⟨w.heap.size + 1, 0, none⟩ = some (.int .i64 0) := blk_cell F1 0 rfl
  have q1 : w3.cell? ⟨w.heap.size + 1, 1, none⟩ = some (.slice none 0 0) := blk_cell F1 1 rfl
  have q2 : w3.cell? ⟨w.heap.size + 1, 2, none⟩ = some (.int .i64 0) := blk_cell F1 2 rfl
  have r0 := blk_free F1 0
  have r1 := blk_free F1 1
  have r2 := blk_free F1 2
  have hne : (Value.slice a3 (0 + 1) c3).ownBlock ≠ some (w.heap.size + 1) := own_ne hw3 F1 (by decide)
  have hw4 := hw3
  have HW := hide hw3
  have HG := hide hg3
  clear hw3 hg3 hw4
  go_wp2
  refine bodyPost_ret (v := .tuple #[.agg #[.int .i64 ((pc : Int) + 1), .slice a3 (0 + 1) c3, .int .i64 ((k : Int) + 1)], .bool true]) (by simp [results, Yabv.results48, go_sem, q0, q1, q2]) rfl ?_
  have hw3 := unhide HW
  refine stepPost_ok (zs := [(argF args x)]) (by simp [badS, needsF]) (by first | exact stkS_1 _ _ _ | simp [stkS_1]) (by rw [nxtS_other 1 x pc _ (by decide) (by decide)]; simp) (by simp) ?_ (grown_set_new (grown_set_new (grown_set_new (grown_after hb3 (unhide HG)) _ _ (by omega) _) _ _ (by omega) _) _ _ (by omega) _) (NZ.of_own hw3 (by omega))
  exact own_setCell (own_setCell (own_setCell (by simpa using hw3) _ _ _ hne) _ _ _ hne) _ _ _ hne

set_option maxRecDepth 100000 in
set_option maxHeartbeats 4000000 in
theorem stepS_c1s (a2 : Option Addr) (gp n cap cap2 cv base pc k : Nat) (g : Nat) (st : List Int) (args : List Int) (x : Int) (w : World) (hip : pc < n) (c0 : w.cell? ⟨gp, pc * 2, none⟩ = some (.int .i64 1)) (c1 : w.cell? ⟨gp, pc * 2 + 1, none⟩ = some (.int .i64 x)) (hgp : gp < w.heap.size)
    (ha : w.ownsRow 0 2 1 (.slice a2 args.length cap2) args.length (args.map (Value.int .i64))) (hv : w.ownsRow base 2 1 (.slice (some ⟨g, 0, none⟩) (st.length) cv) (st.length) (st.map (Value.int .i64)))
    (hlen : n ≤ 1000000000) (hlen2 : args.length ≤ 1000000000) (hst : st.length ≤ 20000) (hk : k < 20000) (hbase : base ≤ w.heap.size) (hcv3 : ¬ cv = 0) :
    Calls Yabv.prog 48 #[.slice (some ⟨gp, 0, none⟩) n cap, .slice a2 args.length cap2, .agg #[.int .i64 pc, .slice (some ⟨g, 0, none⟩) (st.length) cv, .int .i64 k]] w (StepPost n args 1 x pc k st base (.slice (some ⟨g, 0, none⟩) (st.length) cv) w) := by
  have hnF : needsF 1 = 0 := by simp [needsF]
  obtain ⟨i0, hi, hz0, hz1, hz2⟩ := info_parts Yabv.info2
  have l2 : (pc : Int) < (n : Int) := by omega
  have hkl : (k : Int) < 20000 := by omega
  go_enter Yabv.func48, Yabv.ntmps48
  go_wp2_with fail
  refine (effect_any _ _).mono ?_
  rintro e w5 ⟨rfl, rfl⟩
  have hSW := SW.start w pc k (st.length) (some ⟨g, 0, none⟩) cv 1 x
  clear c0 c1
  rw [hnF]
  generalize World.alloc (World.alloc (World.alloc w _) _) _ = W at hSW ⊢
  have p0 : W.cell? ⟨w.heap.size, 0, none⟩ = some (.int .i64 pc) := blk_cell hSW.e0 0 rfl
  have p1 : W.cell? ⟨w.heap.size, 1, none⟩ = some (.slice (some ⟨g, 0, none⟩) (st.length) cv) := blk_cell hSW.e0 1 rfl
  have p2 : W.cell? ⟨w.heap.size, 2, none⟩ = some (.int .i64 k) := blk_cell hSW.e0 2 rfl
  have q0 : W.cell? ⟨w.heap.size + 1, 0, none⟩ = some (.int .i64 0) := blk_cell hSW.e1 0 rfl
  have q1 : W.cell? ⟨w.heap.size + 1, 1, none⟩ = some (.slice none 0 0) := blk_cell hSW.e1 1 rfl
  have q2 : W.cell? ⟨w.heap.size + 1, 2, none⟩ = some (.int .i64 0) := blk_cell hSW.e1 2 rfl
  have r0 := blk_free hSW.e1 0
  have r1 := blk_free hSW.e1 1
  have r2 := blk_free hSW.e1 2
  have s0 : W.cell? ⟨w.heap.size + 1 + 1, 0, none⟩ = some (.int .i64 1) := blk_cell hSW.e2 0 rfl
  have s1 : W.cell? ⟨w.heap.size + 1 + 1, 1, none⟩ = some (.int .i64 x) := blk_cell hSW.e2 1 rfl
  have hsz : w.heap.size + 1 < W.heap.size := by have := hSW.size; omega
  have hsz2 : w.heap.size < W.heap.size := by have := hSW.size; omega
  have hsz3 : w.heap.size + 1 + 1 < W.heap.size := by have := hSW.size; omega
  have hvW := own_below' hv hSW.below
  have hcv1 : st.length ≤ cv := own_cap hv
  have hcv2 : (st.length : Int) ≤ (cv : Int) := by omega
  have hg2 : g < w.heap.size := (hv.lt g rfl).2
  have hg3 : g < W.heap.size := by omega
  go_wp2_with fail
  refine wp_loop_rounds 1 ?_
  rw [rounds_succ]
  go_upto_block 2 with fail
  obtain ⟨hS2, X⟩ := hSW.arr0 (.int .i64 0) (.int .i64 0)
  generalize hW2 : World.alloc W _ = W2 at hS2 X ⊢
  clear hW2 p0 p1 p2 q0 q1 q2 r0 r1 r2 s0 s1 hsz hsz2 hsz3 hvW 
  have p0 : W2.cell? ⟨w.heap.size, 0, none⟩ = some (.int .i64 pc) := blk_cell hS2.e0 0 rfl
  have p1 : W2.cell? ⟨w.heap.size, 1, none⟩ = some (.slice (some ⟨g, 0, none⟩) (st.length) cv) := blk_cell hS2.e0 1 rfl
  have p2 : W2.cell? ⟨w.heap.size, 2, none⟩ = some (.int .i64 k) := blk_cell hS2.e0 2 rfl
  have q0 : W2.cell? ⟨w.heap.size + 1, 0, none⟩ = some (.int .i64 0) := blk_cell hS2.e1 0 rfl
  have q1 : W2.cell? ⟨w.heap.size + 1, 1, none⟩ = some (.slice none 0 0) := blk_cell hS2.e1 1 rfl
  have q2 : W2.cell? ⟨w.heap.size + 1, 2, none⟩ = some (.int .i64 0) := blk_cell hS2.e1 2 rfl
  have r0 := blk_free hS2.e1 0
  have r1 := blk_free hS2.e1 1
  have r2 := blk_free hS2.e1 2
  have s0 : W2.cell? ⟨w.heap.size + 1 + 1, 0, none⟩ = some (.int .i64 1) := blk_cell hS2.e2 0 rfl
  have s1 : W2.cell? ⟨w.heap.size + 1 + 1, 1, none⟩ = some (.int .i64 x) := blk_cell hS2.e2 1 rfl
  have hsz : w.heap.size + 1 < W2.heap.size := by have := hS2.size; omega
  have hsz2 : w.heap.size < W2.heap.size := by have := hS2.size; omega
  have hsz3 : w.heap.size + 1 + 1 < W2.heap.size := by have := hS2.size; omega
  have x0 : W2.cell? ⟨W.heap.size, 0, none⟩ = some (.int .i64 0) := blk_cell X 0 rfl
  have x1 : W2.cell? ⟨W.heap.size, 1, none⟩ = some (.int .i64 0) := blk_cell X 1 rfl
  generalize W.heap.size = bx at *
  have hv2 := own_below' hv hS2.below
  have hvp := hv2
  have hvb : ∀ j, (Value.slice (some ⟨g, 0, none⟩) (st.length) cv).ownBlock = some j → j < w.heap.size := fun j hj => (hv.lt j hj).2
  go_wp2_with fail
  refine (argAt_any a2 cap2 args x _ (own_below' ha hS2.below) hlen2).mono ?_
  rintro e w6 ⟨rfl, hw6⟩
  rw [hw6]
  clear hw6 w6
  go_wp2_with (at_builtin; refine wpList_append_own _ rfl (.tmp 77) (.tmp 82) 24 rfl base 2 i0 _ 1 8 Yabv.underlying24 hi hz0 hz1 hz2 rfl (by decide) _ _ _ rfl (hvp.alloc _) ⟨W2.heap.size, 0, none⟩ 1 1 [.int .i64 (argF args x)] rfl rfl (cells_new W2 [.int .i64 (argF args x)] 2) (by intro u hu; simp at hu; rcases hu with rfl <;> rfl) (by unfold maxLen; first | omega | (simp; done) | (simp; omega)) (by first | omega | (simp; done) | (simp; omega)) (by first | omega | (simp; done) | (simp; omega)) ?_)
  intro v3 w3 hw3 hg3 _
  obtain ⟨a3, c3, rfl⟩ := own_form hw3
  have hS3 : SW w (W2.alloc (.cells #[.int .i64 (argF args x)] 2)) pc k (st.length) (some ⟨g, 0, none⟩) cv 1 x := hS2.keep ((Below.refl _ _).alloc (by omega) _)
  obtain ⟨F0, F1⟩ := hS3.grow hg3 hvb
  have hb3 := hS3.below
  clear p0 p1 p2 q0 q1 q2 r0 r1 r2 s0 s1 x0 x1
  have p2 : w3.cell? ⟨w.heap.size, 2, none⟩ = some (.int .i64 k) := blk_cell F0 2 rfl
  have q0 : w3.cell? ⟨w.heap.size + 1, 0, none⟩ = some (.int .i64 0) := blk_cell F1 0 rfl
  have q1 : w3.cell? ⟨w.heap.size + 1, 1, none⟩ = some (.slice none 0 0) := blk_cell F1 1 rfl
  have q2 : w3.cell? ⟨w.heap.size + 1, 2, none⟩ = some (.int .i64 0) := blk_cell F1 2 rfl
  have r0 := blk_free F1 0
  have r1 := blk_free F1 1
  have r2 := blk_free F1 2
  have hne : (Value.slice a3 (st.length + 1) c3).ownBlock ≠ some (w.heap.size + 1) := own_ne hw3 F1 (by decide)
  have hw4 := hw3
  have HW := hide hw3
  have HG := hide hg3
  clear hw3 hg3 hw4
  go_wp2
  refine bodyPost_ret (v := .tuple #[.agg #[.int .i64 ((pc : Int) + 1), .slice a3 (st.length + 1) c3, .int .i64 ((k : Int) + 1)], .bool true]) (by simp [results, Yabv.results48, go_sem, q0, q1, q2]) rfl ?_
  have hw3 := unhide HW
  refine stepPost_ok (zs := st ++ [(argF args x)]) (by simp [badS, needsF]) (by first | exact stkS_1 _ _ _ | simp [stkS_1]) (by rw [nxtS_other 1 x pc _ (by decide) (by decide)]; simp) (by simp) ?_ (grown_set_new (grown_set_new (grown_set_new (grown_after hb3 (unhide HG)) _ _ (by omega) _) _ _ (by omega) _) _ _ (by omega) _) (NZ.of_own hw3 (by omega))
  exact own_setCell (own_setCell (own_setCell (by simpa using hw3) _ _ _ hne) _ _ _ hne) _ _ _ hne

set_option maxRecDepth 100000 in
set_option maxHeartbeats 4000000 in
theorem stepS_c3 (a2 : Option Addr) (gp n cap cap2 cv base pc k : Nat) (g : Nat) (y z : Int) (r : List Int) (args : List Int) (x : Int) (w : World) (hip : pc < n) (c0 : w.cell? ⟨gp, pc * 2, none⟩ = some (.int .i64 3)) (c1 : w.cell? ⟨gp, pc * 2 + 1, none⟩ = some (.int .i64 x)) (hgp : gp < w.heap.size)
    (ha : w.ownsRow 0 2 1 (.slice a2 args.length cap2) args.length (args.map (Value.int .i64))) (hv : w.ownsRow base 2 1 (.slice (some ⟨g, 0, none⟩) (r.length + 2) cv) (r.length + 2) ((r ++ [y, z]).map (Value.int .i64)))
    (hlen : n ≤ 1000000000) (hlen2 : args.length ≤ 1000000000) (hst : r.length + 2 ≤ 20000) (hk : k < 20000) (hbase : base ≤ w.heap.size) :
    Calls Yabv.prog 48 #[.slice (some ⟨gp, 0, none⟩) n cap, .slice a2 args.length cap2, .agg #[.int .i64 pc, .slice (some ⟨g, 0, none⟩) (r.length + 2) cv, .int .i64 k]] w (StepPost n args 3 x pc k (r ++ [y, z]) base (.slice (some ⟨g, 0, none⟩) (r.length + 2) cv) w) := by
  have hnF : needsF 3 = 2 := by simp [needsF]
  obtain ⟨i0, hi, hz0, hz1, hz2⟩ := info_parts Yabv.info2
  have l2 : (pc : Int) < (n : Int) := by omega
  have hkl : (k : Int) < 20000 := by omega
  go_enter Yabv.func48, Yabv.ntmps48
  go_wp2_with fail
  refine (effect_any _ _).mono ?_
  rintro e w5 ⟨rfl, rfl⟩
  have hSW := SW.start w pc k (r.length + 2) (some ⟨g, 0, none⟩) cv 3 x
  clear c0 c1
  rw [hnF]
  generalize World.alloc (World.alloc (World.alloc w _) _) _ = W at hSW ⊢
  have p0 : W.cell? ⟨w.heap.size, 0, none⟩ = some (.int .i64 pc) := blk_cell hSW.e0 0 rfl
  have p1 : W.cell? ⟨w.heap.size, 1, none⟩ = some (.slice (some ⟨g, 0, none⟩) (r.length + 2) cv) := blk_cell hSW.e0 1 rfl
  have p2 : W.cell? ⟨w.heap.size, 2, none⟩ = some (.int .i64 k) := blk_cell hSW.e0 2 rfl
  have q0 : W.cell? ⟨w.heap.size + 1, 0, none⟩ = some (.int .i64 0) := blk_cell hSW.e1 0 rfl
  have q1 : W.cell? ⟨w.heap.size + 1, 1, none⟩ = some (.slice none 0 0) := blk_cell hSW.e1 1 rfl
  have q2 : W.cell? ⟨w.heap.size + 1, 2, none⟩ = some (.int .i64 0) := blk_cell hSW.e1 2 rfl
  have r0 := blk_free hSW.e1 0
  have r1 := blk_free hSW.e1 1
  have r2 := blk_free hSW.e1 2
  have s0 : W.cell? ⟨w.heap.size + 1 + 1, 0, none⟩ = some (.int .i64 3) := blk_cell hSW.e2 0 rfl
  have s1 : W.cell? ⟨w.heap.size + 1 + 1, 1, none⟩ = some (.int .i64 x) := blk_cell hSW.e2 1 rfl
  have hsz : w.heap.size + 1 < W.heap.size := by have := hSW.size; omega
  have hsz2 : w.heap.size < W.heap.size := by have := hSW.size; omega
  have hsz3 : w.heap.size + 1 + 1 < W.heap.size := by have := hSW.size; omega
  have hvW := own_below' hv hSW.below
  have d0 : W.cell? ⟨g, r.length, none⟩ = some (.int .i64 y) := by
    have := ownI_cell hvW r.length (by simp)
    simpa using this
  have d1 : W.cell? ⟨g, r.length + 1, none⟩ = some (.int .i64 z) := by
    have := ownI_cell hvW (r.length + 1) (by simp)
    simpa using this
  have hcv : r.length + 2 ≤ cv := own_cap hv
  have hcv1 : r.length ≤ cv := by omega
  have hcv2 : (r.length : Int) ≤ (cv : Int) := by omega
  have hcv3 : ¬ cv = 0 := by omega
  have hg2 : g < w.heap.size := (hv.lt g rfl).2
  have hg3 : g < W.heap.size := by omega
  clear hcv
  go_wp2_with fail
  refine wp_loop_rounds 3 ?_
  rw [rounds_succ]
  go_wp2
  rw [rounds_succ]
  go_wp2
  rw [rounds_succ]
  go_upto_block 2 with fail
  obtain ⟨hS2, X⟩ := hSW.arr0 (.int .i64 y) (.int .i64 z)
  generalize hW2 : World.alloc W _ = W2 at hS2 X ⊢
  clear hW2 p0 p1 p2 q0 q1 q2 r0 r1 r2 s0 s1 hsz hsz2 hsz3 hvW d0 d1
  have p0 : W2.cell? ⟨w.heap.size, 0, none⟩ = some (.int .i64 pc) := blk_cell hS2.e0 0 rfl
  have p1 : W2.cell? ⟨w.heap.size, 1, none⟩ = some (.slice (some ⟨g, 0, none⟩) (r.length + 2) cv) := blk_cell hS2.e0 1 rfl
  have p2 : W2.cell? ⟨w.heap.size, 2, none⟩ = some (.int .i64 k) := blk_cell hS2.e0 2 rfl
  have q0 : W2.cell? ⟨w.heap.size + 1, 0, none⟩ = some (.int .i64 0) := blk_cell hS2.e1 0 rfl
  have q1 : W2.cell? ⟨w.heap.size + 1, 1, none⟩ = some (.slice none 0 0) := blk_cell hS2.e1 1 rfl
  have q2 : W2.cell? ⟨w.heap.size + 1, 2, none⟩ = some (.int .i64 0) := blk_cell hS2.e1 2 rfl
  have r0 := blk_free hS2.e1 0
  have r1 := blk_free hS2.e1 1
  have r2 := blk_free hS2.e1 2
  have s0 : W2.cell? ⟨w.heap.size + 1 + 1, 0, none⟩ = some (.int .i64 3) := blk_cell hS2.e2 0 rfl
  have s1 : W2.cell? ⟨w.heap.size + 1 + 1, 1, none⟩ = some (.int .i64 x) := blk_cell hS2.e2 1 rfl
  have hsz : w.heap.size + 1 < W2.heap.size := by have := hS2.size; omega
  have hsz2 : w.heap.size < W2.heap.size := by have := hS2.size; omega
  have hsz3 : w.heap.size + 1 + 1 < W2.heap.size := by have := hS2.size; omega
  have x0 : W2.cell? ⟨W.heap.size, 0, none⟩ = some (.int .i64 y) := blk_cell X 0 rfl
  have x1 : W2.cell? ⟨W.heap.size, 1, none⟩ = some (.int .i64 z) := blk_cell X 1 rfl
  generalize W.heap.size = bx at *
  have hv2 := own_below' hv hS2.below
  have hvp : W2.ownsRow base 2 1 (.slice (some ⟨g, 0, none⟩) r.length cv) r.length (r.map (Value.int .i64)) := ownsRow_pop (last := [.int .i64 y]) (by simp) (ownsRow_pop (last := [.int .i64 z]) (by simp) (by simpa using hv2))
  have hvb : ∀ j, (Value.slice (some ⟨g, 0, none⟩) (r.length) cv).ownBlock = some j → j < w.heap.size := fun j hj => (hv.lt j hj).2
  go_wp2_with (at_builtin; refine wpList_append_own _ rfl (.tmp 96) (.tmp 102) 24 rfl base 2 i0 _ 1 8 Yabv.underlying24 hi hz0 hz1 hz2 rfl (by decide) _ _ _ rfl (hvp.alloc _) ⟨W2.heap.size, 0, none⟩ 1 1 [.int .i64 (wrap64 (y - z))] rfl rfl (cells_new W2 [.int .i64 (wrap64 (y - z))] 2) (by intro u hu; simp at hu; rcases hu with rfl <;> rfl) (by unfold maxLen; first | omega | (simp; done) | (simp; omega)) (by first | omega | (simp; done) | (simp; omega)) (by first | omega | (simp; done) | (simp; omega)) ?_)
  intro v3 w3 hw3 hg3 _
  obtain ⟨a3, c3, rfl⟩ := own_form hw3
  have hS3 : SW w (W2.alloc (.cells #[.int .i64 (wrap64 (y - z))] 2)) pc k (r.length + 2) (some ⟨g, 0, none⟩) cv 3 x := hS2.keep ((Below.refl _ _).alloc (by omega) _)
  obtain ⟨F0, F1⟩ := hS3.grow hg3 hvb
  have hb3 := hS3.below
  clear p0 p1 p2 q0 q1 q2 r0 r1 r2 s0 s1 x0 x1
  have p2 : w3.cell? ⟨w.heap.size, 2, none⟩ = some (.int .i64 k) := blk_cell F0 2 rfl
  have q0 : w3.cell? ⟨w.heap.size + 1, 0, none⟩ = some (.int .i64 0) := blk_cell F1 0 rfl
  have q1 : w3.cell? ⟨w.heap.size + 1, 1, none⟩ = some (.slice none 0 0) := blk_cell F1 1 rfl
  have q2 : w3.cell? ⟨w.heap.size + 1, 2, none⟩ = some (.int .i64 0) := blk_cell F1 2 rfl
  have r0 := blk_free F1 0
  have r1 := blk_free F1 1
  have r2 := blk_free F1 2
  have hne : (Value.slice a3 (r.length + 1) c3).ownBlock ≠ some (w.heap.size + 1) := own_ne hw3 F1 (by decide)
  have hw4 := hw3
  have HW := hide hw3
  have HG := hide hg3
  clear hw3 hg3 hw4
  go_wp2
  refine bodyPost_ret (v := .tuple #[.agg #[.int .i64 ((pc : Int) + 1), .slice a3 (r.length + 1) c3, .int .i64 ((k : Int) + 1)], .bool true]) (by simp [results, Yabv.results48, go_sem, q0, q1, q2]) rfl ?_
  have hw3 := unhide HW
  refine stepPost_ok (zs := r ++ [(wrap64 (y - z))]) (by simp [badS, needsF] <;> omega) (by first | exact stkS_3 _ _ _ | simp [stkS_3]) (by rw [nxtS_other 3 x pc _ (by decide) (by decide)]; simp) (by simp) ?_ (grown_set_new (grown_set_new (grown_set_new (grown_after hb3 (unhide HG)) _ _ (by omega) _) _ _ (by omega) _) _ _ (by omega) _) (NZ.of_own hw3 (by omega))
  exact own_setCell (own_setCell (own_setCell (by simpa using hw3) _ _ _ hne) _ _ _ hne) _ _ _ hne

set_option maxRecDepth 100000 in
set_option maxHeartbeats 4000000 in
theorem stepS_c6 (a2 : Option Addr) (gp n cap cap2 cv base pc k : Nat) (g : Nat) (y z : Int) (r : List Int) (args : List Int) (x : Int) (w : World) (hip : pc < n) (c0 : w.cell? ⟨gp, pc * 2, none⟩ = some (.int .i64 6)) (c1 : w.cell? ⟨gp, pc * 2 + 1, none⟩ = some (.int .i64 x)) (hgp : gp < w.heap.size)
    (ha : w.ownsRow 0 2 1 (.slice a2 args.length cap2) args.length (args.map (Value.int .i64))) (hv : w.ownsRow base 2 1 (.slice (some ⟨g, 0, none⟩) (r.length + 2) cv) (r.length + 2) ((r ++ [y, z]).map (Value.int .i64)))
    (hlen : n ≤ 1000000000) (hlen2 : args.length ≤ 1000000000) (hst : r.length + 2 ≤ 20000) (hk : k < 20000) (hbase : base ≤ w.heap.size) :
    Calls Yabv.prog 48 #[.slice (some ⟨gp, 0, none⟩) n cap, .slice a2 args.length cap2, .agg #[.int .i64 pc, .slice (some ⟨g, 0, none⟩) (r.length + 2) cv, .int .i64 k]] w (StepPost n args 6 x pc k (r ++ [y, z]) base (.slice (some ⟨g, 0, none⟩) (r.length + 2) cv) w) := by
  have hnF : needsF 6 = 2 := by simp [needsF]
  obtain ⟨i0, hi, hz0, hz1, hz2⟩ := info_parts Yabv.info2
  have l2 : (pc : Int) < (n : Int) := by omega
  have hkl : (k : Int) < 20000 := by omega
  go_enter Yabv.func48, Yabv.ntmps48
  go_wp2_with fail
  refine (effect_any _ _).mono ?_
  rintro e w5 ⟨rfl, rfl⟩
  have hSW := SW.start w pc k (r.length + 2) (some ⟨g, 0, none⟩) cv 6 x
  clear c0 c1
  rw [hnF]
  generalize World.alloc (World.alloc (World.alloc w _) _) _ = W at hSW ⊢
  have p0 : W.cell? ⟨w.heap.size, 0, none⟩ = some (.int .i64 pc) := blk_cell hSW.e0 0 rfl
  have p1 : W.cell? ⟨w.heap.size, 1, none⟩ = some (.slice (some ⟨g, 0, none⟩) (r.length + 2) cv) := blk_cell hSW.e0 1 rfl
  have p2 : W.cell? ⟨w.heap.size, 2, none⟩ = some (.int .i64 k) := blk_cell hSW.e0 2 rfl
  have q0 : W.cell? ⟨w.heap.size + 1, 0, none⟩ = some (.int .i64 0) := blk_cell hSW.e1 0 rfl
  have q1 : W.cell? ⟨w.heap.size + 1, 1, none⟩ = some (.slice none 0 0) := blk_cell hSW.e1 1 rfl
  have q2 : W.cell? ⟨w.heap.size + 1, 2, none⟩ = some (.int .i64 0) := blk_cell hSW.e1 2 rfl
  have r0 := blk_free hSW.e1 0
  have r1 := blk_free hSW.e1 1
  have r2 := blk_free hSW.e1 2
  have s0 : W.cell? ⟨w.heap.size + 1 + 1, 0, none⟩ = some (.int .i64 6) := blk_cell hSW.e2 0 rfl
  have s1 : W.cell? ⟨w.heap.size + 1 + 1, 1, none⟩ = some (.int .i64 x) := blk_cell hSW.e2 1 rfl
  have hsz : w.heap.size + 1 < W.heap.size := by have := hSW.size; omega
  have hsz2 : w.heap.size < W.heap.size := by have := hSW.size; omega
  have hsz3 : w.heap.size + 1 + 1 < W.heap.size := by have := hSW.size; omega
  have hvW := own_below' hv hSW.below
  have d0 : W.cell? ⟨g, r.length, none⟩ = some (.int .i64 y) := by
    have := ownI_cell hvW r.length (by simp)
    simpa using this
  have d1 : W.cell? ⟨g, r.length + 1, none⟩ = some (.int .i64 z) := by
    have := ownI_cell hvW (r.length + 1) (by simp)
    simpa using this
  have hcv : r.length + 2 ≤ cv := own_cap hv
  have hcv1 : r.length ≤ cv := by omega
  have hcv2 : (r.length : Int) ≤ (cv : Int) := by omega
  have hcv3 : ¬ cv = 0 := by omega
  have hg2 : g < w.heap.size := (hv.lt g rfl).2
  have hg3 : g < W.heap.size := by omega
  clear hcv
  go_wp2_with fail
  refine wp_loop_rounds 3 ?_
  rw [rounds_succ]
  go_wp2
  rw [rounds_succ]
  go_wp2
  rw [rounds_succ]
  go_upto_block 2 with fail
  obtain ⟨hS2, X⟩ := hSW.arr0 (.int .i64 y) (.int .i64 z)
  generalize hW2 : World.alloc W _ = W2 at hS2 X ⊢
  clear hW2 p0 p1 p2 q0 q1 q2 r0 r1 r2 s0 s1 hsz hsz2 hsz3 hvW d0 d1
  have p0 : W2.cell? ⟨w.heap.size, 0, none⟩ = some (.int .i64 pc) := blk_cell hS2.e0 0 rfl
  have p1 : W2.cell? ⟨w.heap.size, 1, none⟩ = some (.slice (some ⟨g, 0, none⟩) (r.length + 2) cv) := blk_cell hS2.e0 1 rfl
  have p2 : W2.cell? ⟨w.heap.size, 2, none⟩ = some (.int .i64 k) := blk_cell hS2.e0 2 rfl
  have q0 : W2.cell? ⟨w.heap.size + 1, 0, none⟩ = some (.int .i64 0) := blk_cell hS2.e1 0 rfl
  have q1 : W2.cell? ⟨w.heap.size + 1, 1, none⟩ = some (.slice none 0 0) := blk_cell hS2.e1 1 rfl
  have q2 : W2.cell? ⟨w.heap.size + 1, 2, none⟩ = some (.int .i64 0) := blk_cell hS2.e1 2 rfl
  have r0 := blk_free hS2.e1 0
  have r1 := blk_free hS2.e1 1
  have r2 := blk_free hS2.e1 2
  have s0 : W2.cell? ⟨w.heap.size + 1 + 1, 0, none⟩ = some (.int .i64 6) := blk_cell hS2.e2 0 rfl
  have s1 : W2.cell? ⟨w.heap.size + 1 + 1, 1, none⟩ = some (.int .i64 x) := blk_cell hS2.e2 1 rfl
  have hsz : w.heap.size + 1 < W2.heap.size := by have := hS2.size; omega
  have hsz2 : w.heap.size < W2.heap.size := by have := hS2.size; omega
  have hsz3 : w.heap.size + 1 + 1 < W2.heap.size := by have := hS2.size; omega
  have x0 : W2.cell? ⟨W.heap.size, 0, none⟩ = some (.int .i64 y) := blk_cell X 0 rfl
  have x1 : W2.cell? ⟨W.heap.size, 1, none⟩ = some (.int .i64 z) := blk_cell X 1 rfl
  generalize W.heap.size = bx at *
  have hv2 := own_below' hv hS2.below
  have hvp : W2.ownsRow base 2 1 (.slice (some ⟨g, 0, none⟩) r.length cv) r.length (r.map (Value.int .i64)) := ownsRow_pop (last := [.int .i64 y]) (by simp) (ownsRow_pop (last := [.int .i64 z]) (by simp) (by simpa using hv2))
  have hvb : ∀ j, (Value.slice (some ⟨g, 0, none⟩) (r.length) cv).ownBlock = some j → j < w.heap.size := fun j hj => (hv.lt j hj).2
  go_wp2_with (at_builtin; refine wpList_append_own _ rfl (.tmp 125) (.tmp 132) 24 rfl base 2 i0 _ 1 8 Yabv.underlying24 hi hz0 hz1 hz2 rfl (by decide) _ _ _ rfl (hvp.alloc _) ⟨W2.heap.size, 0, none⟩ 3 3 [.int .i64 y, .int .i64 z, .int .i64 y] rfl rfl (cells_new W2 [.int .i64 y, .int .i64 z, .int .i64 y] 2) (by intro u hu; simp at hu; rcases hu with rfl | rfl | rfl <;> rfl) (by unfold maxLen; first | omega | (simp; done) | (simp; omega)) (by first | omega | (simp; done) | (simp; omega)) (by first | omega | (simp; done) | (simp; omega)) ?_)
  intro v3 w3 hw3 hg3 _
  obtain ⟨a3, c3, rfl⟩ := own_form hw3
  have hS3 : SW w (W2.alloc (.cells #[.int .i64 y, .int .i64 z, .int .i64 y] 2)) pc k (r.length + 2) (some ⟨g, 0, none⟩) cv 6 x := hS2.keep ((Below.refl _ _).alloc (by omega) _)
  obtain ⟨F0, F1⟩ := hS3.grow hg3 hvb
  have hb3 := hS3.below
  clear p0 p1 p2 q0 q1 q2 r0 r1 r2 s0 s1 x0 x1
  have p2 : w3.cell? ⟨w.heap.size, 2, none⟩ = some (.int .i64 k) := blk_cell F0 2 rfl
  have q0 : w3.cell? ⟨w.heap.size + 1, 0, none⟩ = some (.int .i64 0) := blk_cell F1 0 rfl
  have q1 : w3.cell? ⟨w.heap.size + 1, 1, none⟩ = some (.slice none 0 0) := blk_cell F1 1 rfl
  have q2 : w3.cell? ⟨w.heap.size + 1, 2, none⟩ = some (.int .i64 0) := blk_cell F1 2 rfl
  have r0 := blk_free F1 0
  have r1 := blk_free F1 1
  have r2 := blk_free F1 2
  have hne : (Value.slice a3 (r.length + 3) c3).ownBlock ≠ some (w.heap.size + 1) := own_ne hw3 F1 (by decide)
  have hw4 := hw3
  have HW := hide hw3
  have HG := hide hg3
  clear hw3 hg3 hw4
  go_wp2
  refine bodyPost_ret (v := .tuple #[.agg #[.int .i64 ((pc : Int) + 1), .slice a3 (r.length + 3) c3, .int .i64 ((k : Int) + 1)], .bool true]) (by simp [results, Yabv.results48, go_sem, q0, q1, q2]) rfl ?_
  have hw3 := unhide HW
  refine stepPost_ok (zs := r ++ [y, z, y]) (by simp [badS, needsF] <;> omega) (by first | exact stkS_6 _ _ _ | simp [stkS_6]) (by rw [nxtS_other 6 x pc _ (by decide) (by decide)]; simp) (by simp) ?_ (grown_set_new (grown_set_new (grown_set_new (grown_after hb3 (unhide HG)) _ _ (by omega) _) _ _ (by omega) _) _ _ (by omega) _) (NZ.of_own hw3 (by omega))
  exact own_setCell (own_setCell (own_setCell (by simpa using hw3) _ _ _ hne) _ _ _ hne) _ _ _ hne
end Go.Proofs.Yahabw
