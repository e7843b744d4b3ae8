import Derived.Test.YahabwMach
set_option linter.unusedVariables false
set_option linter.unusedSimpArgs false
namespace Go.Proofs.Yahabw
open Go.RowKit

theorem grown_of_below {w w' : World} (h : Below w.heap.size w w') (row : Option Nat) : w.grownBy w' row := ⟨h.os, h.tape, h.output, h.size, fun k hk _ => h.block k hk⟩
theorem grown_set_new {w w' : World} {row : Option Nat} (h : w.grownBy w' row) (b o : Nat) (hb : w.heap.size ≤ b) (u : Value) : w.grownBy (w'.setCell ⟨b, o, none⟩ u) row :=
  ⟨h.os, h.tape, h.output, by simpa using h.size, fun k hk hn => by rw [heap_setCell_other w' ⟨b, o, none⟩ k u (by show k ≠ b; omega)]; exact h.block k hk hn⟩
theorem grown_after {w w1 w2 : World} {row : Option Nat} (h : Below w.heap.size w w1) (g : w1.grownBy w2 row) : w.grownBy w2 row := grown_trans (grown_of_below h row) g

def badS (n : Nat) (c x : Int) (h : Nat) : Prop := needsF c < 0 ∨ (h : Int) < needsF c ∨ ((c = 9 ∨ c = 10) ∧ (x < 0 ∨ (n : Int) < x))

def NZ (a : Option Addr) (n c : Nat) : Prop := (a = none ∧ n = 0 ∧ c = 0) ∨ ((∃ g, a = some ⟨g, 0, none⟩) ∧ c ≠ 0)
theorem NZ.of_own {w : World} {base e n cap : Nat} {a : Option Addr} {xs : List Value} (h : w.ownsRow base e 1 (.slice a n cap) n xs) (hn : 0 < n) : NZ a n cap := .inr ⟨own_some h hn, by have := own_cap h; omega⟩

/-- What 'stepStack' hands back. -/
def StepPost (n : Nat) (args : List Int) (c x : Int) (pc k : Nat) (st : List Int) (base : Nat) (v : Value) (w : World) (e : Ending) (w' : World) : Prop :=
  (badS n c x st.length ∧ e = .returned (.tuple #[.agg #[.int .i64 pc, v, .int .i64 k], .bool false]) ∧ w.grownBy w' v.ownBlock) ∨
  (¬ badS n c x st.length ∧ ∃ a' c', e = .returned (.tuple #[.agg #[.int .i64 (nxtS c x pc st), .slice a' (stkS args c x st).length c', .int .i64 ((k : Int) + 1)], .bool true]) ∧
    w'.ownsRow base 2 1 (.slice a' (stkS args c x st).length c') (stkS args c x st).length ((stkS args c x st).map (Value.int .i64)) ∧ w.grownBy w' v.ownBlock ∧ NZ a' (stkS args c x st).length c')

theorem stepPost_ok {n : Nat} {args : List Int} {c x : Int} {pc k : Nat} {st : List Int} {base : Nat} {v : Value} {w w' : World} {a' : Option Addr} {c' m : Nat} {zs : List Int} {nx : Int} (hb : ¬ badS n c x st.length)
    (hz : stkS args c x st = zs) (hn : (nxtS c x pc st : Int) = nx) (hm : m = zs.length) (ho : w'.ownsRow base 2 1 (.slice a' m c') m (zs.map (Value.int .i64))) (hg : w.grownBy w' v.ownBlock) (hnz : NZ a' m c') :
    StepPost n args c x pc k st base v w (.returned (.tuple #[.agg #[.int .i64 nx, .slice a' m c', .int .i64 ((k : Int) + 1)], .bool true])) w' := by
  subst hm hn hz
  exact .inr ⟨hb, a', c', rfl, ho, hg, hnz⟩

/-- The world of 'stepStack' behind its boxes. -/
structure SW (w W : World) (pc k n : Nat) (av : Option Addr) (cv : Nat) (c x : Int) : Prop where
  below : Below w.heap.size w W
  size : w.heap.size + 2 < W.heap.size
  e0 : W.heap[w.heap.size]? = some (.cells #[.int .i64 pc, .slice av n cv, .int .i64 k] 93 (0, 0))
  e1 : W.heap[w.heap.size + 1]? = some (.cells #[.int .i64 0, .slice none 0 0, .int .i64 0] 93 (0, 0))
  e2 : W.heap[w.heap.size + 1 + 1]? = some (.cells #[.int .i64 c, .int .i64 x] 60 (0, 0))
theorem SW.start (w : World) (pc k n : Nat) (av : Option Addr) (cv : Nat) (c x : Int) :
    SW w (((w.alloc (.cells #[.int .i64 pc, .slice av n cv, .int .i64 k] 93)).alloc (.cells #[.int .i64 0, .slice none 0 0, .int .i64 0] 93)).alloc (.cells #[.int .i64 c, .int .i64 x] 60)) pc k n av cv c x := by
  refine ⟨(((Below.refl _ _).alloc (Nat.le_refl _) _).alloc (by simp) _).alloc (by simp; omega) _, by simp, ?_, ?_, ?_⟩
  · rw [Below.heap_alloc _ _ _ (by simp; omega), Below.heap_alloc _ _ _ (by simp)]; exact heap_alloc_new w _
  · rw [Below.heap_alloc _ _ _ (by simp)]; simpa using heap_alloc_new (w.alloc _) _
  · simpa using heap_alloc_new ((w.alloc _).alloc _) _
theorem SW.keep {w W W' : World} {pc k n : Nat} {av : Option Addr} {cv : Nat} {c x : Int} (h : SW w W pc k n av cv c x) (hb : Below (w.heap.size + 3) W W') : SW w W' pc k n av cv c x :=
  ⟨h.below.trans (hb.mono (by omega)), by have := hb.size; have := h.size; omega, keepb hb h.e0 (by omega), keepb hb h.e1 (by omega), keepb hb h.e2 (by omega)⟩
theorem SW.grow {w W W' : World} {pc k n : Nat} {av : Option Addr} {cv : Nat} {c x : Int} (h : SW w W pc k n av cv c x) {row : Option Nat} (hg : W.grownBy W' row) (hr : ∀ j, row = some j → j < w.heap.size) :
    W'.heap[w.heap.size]? = some (.cells #[.int .i64 pc, .slice av n cv, .int .i64 k] 93 (0, 0)) ∧ W'.heap[w.heap.size + 1]? = some (.cells #[.int .i64 0, .slice none 0 0, .int .i64 0] 93 (0, 0)) := by
  have hs := h.size
  have hne : ∀ i, w.heap.size ≤ i → some i ≠ row := fun i hi e => by have := hr i e.symm; omega
  exact ⟨by rw [hg.block _ (by omega) (hne _ (Nat.le_refl _))]; exact h.e0, by rw [hg.block _ (by omega) (hne _ (by omega))]; exact h.e1⟩
theorem SW.arr0 {w W : World} {pc k n : Nat} {av : Option Addr} {cv : Nat} {c x : Int} (h : SW w W pc k n av cv c x) (u v : Value) : SW w (W.alloc (.cells #[u, v] 118)) pc k n av cv c x ∧ (W.alloc (.cells #[u, v] 118)).heap[W.heap.size]? = some (.cells #[u, v] 118 (0, 0)) := by
  have hs := h.size
  exact ⟨h.keep ((Below.refl _ _).alloc (by omega) _), heap_alloc_new W _⟩
theorem SW.arr1 {w W : World} {pc k n : Nat} {av : Option Addr} {cv : Nat} {c x : Int} (h : SW w W pc k n av cv c x) (u v y : Value) :
    SW w ((W.alloc (.cells #[u, v] 118)).setCell ⟨W.heap.size, 0, none⟩ y) pc k n av cv c x ∧ ((W.alloc (.cells #[u, v] 118)).setCell ⟨W.heap.size, 0, none⟩ y).heap[W.heap.size]? = some (.cells #[y, v] 118 (0, 0)) := by
  have hs := h.size
  exact ⟨h.keep (((Below.refl _ _).alloc (by omega) _).setCell (by show _ ≤ W.heap.size; omega) _), by rw [heap_setCell_same _ W.heap.size 0 _ 118 _ (h.arr0 u v).2]; simp⟩
theorem SW.arr2 {w W : World} {pc k n : Nat} {av : Option Addr} {cv : Nat} {c x : Int} (h : SW w W pc k n av cv c x) (u v y z : Value) :
    SW w (((W.alloc (.cells #[u, v] 118)).setCell ⟨W.heap.size, 0, none⟩ y).setCell ⟨W.heap.size, 1, none⟩ z) pc k n av cv c x ∧ (((W.alloc (.cells #[u, v] 118)).setCell ⟨W.heap.size, 0, none⟩ y).setCell ⟨W.heap.size, 1, none⟩ z).heap[W.heap.size]? = some (.cells #[y, z] 118 (0, 0)) := by
  have hs := h.size
  exact ⟨h.keep ((((Below.refl _ _).alloc (by omega) _).setCell (by show _ ≤ W.heap.size; omega) _).setCell (by show _ ≤ W.heap.size; omega) _), by rw [heap_setCell_same _ W.heap.size 1 _ 118 _ (h.arr1 u v y).2]; simp⟩

set_option maxRecDepth 100000 in
set_option maxHeartbeats 4000000 in
theorem stepS_fault (a2 : Option Addr) (gp n cap cap2 cv base pc k : Nat) (c : Int) (av : Option Addr) (st : List Int) (args : List Int) (x : Int) (w : World) (hip : pc < n) (c0 : w.cell? ⟨gp, pc * 2, none⟩ = some (.int .i64 c)) (c1 : w.cell? ⟨gp, pc * 2 + 1, none⟩ = some (.int .i64 x)) (hgp : gp < w.heap.size)
    (ha : w.ownsRow 0 2 1 (.slice a2 args.length cap2) args.length (args.map (Value.int .i64))) (hv : w.ownsRow base 2 1 (.slice av (st.length) cv) (st.length) (st.map (Value.int .i64)))
    (hlen : n ≤ 1000000000) (hlen2 : args.length ≤ 1000000000) (hst : st.length ≤ 20000) (hk : k < 20000) (hbase : base ≤ w.heap.size) (hbad : needsF c < 0 ∨ (st.length : Int) < needsF c) :
    Calls Yabv.prog 48 #[.slice (some ⟨gp, 0, none⟩) n cap, .slice a2 args.length cap2, .agg #[.int .i64 pc, .slice av (st.length) cv, .int .i64 k]] w (StepPost n args c x pc k st base (.slice av (st.length) cv) w) := by
  obtain ⟨i0, hi, hz0, hz1, hz2⟩ := info_parts Yabv.info2
  have l2 : (pc : Int) < (n : Int) := by omega
  have hkl : (k : Int) < 20000 := by omega
  go_enter Yabv.func48, Yabv.ntmps48
  go_wp2_with fail
  refine (effect_any _ _).mono ?_
  rintro e w5 ⟨rfl, rfl⟩
  have hSW := SW.start w pc k (st.length) av cv c x
  clear c0 c1
  generalize World.alloc (World.alloc (World.alloc w _) _) _ = W at hSW ⊢
  have p0 : W.cell? ⟨w.heap.size, 0, none⟩ = some (.int .i64 pc) := blk_cell hSW.e0 0 rfl
  have p1 : W.cell? ⟨w.heap.size, 1, none⟩ = some (.slice av (st.length) cv) := blk_cell hSW.e0 1 rfl
  have p2 : W.cell? ⟨w.heap.size, 2, none⟩ = some (.int .i64 k) := blk_cell hSW.e0 2 rfl
  have q0 : W.cell? ⟨w.heap.size + 1, 0, none⟩ = some (.int .i64 0) := blk_cell hSW.e1 0 rfl
  have q1 : W.cell? ⟨w.heap.size + 1, 1, none⟩ = some (.slice none 0 0) := blk_cell hSW.e1 1 rfl
  have q2 : W.cell? ⟨w.heap.size + 1, 2, none⟩ = some (.int .i64 0) := blk_cell hSW.e1 2 rfl
  have r0 := blk_free hSW.e1 0
  have r1 := blk_free hSW.e1 1
  have r2 := blk_free hSW.e1 2
  have s0 : W.cell? ⟨w.heap.size + 1 + 1, 0, none⟩ = some (.int .i64 c) := blk_cell hSW.e2 0 rfl
  have s1 : W.cell? ⟨w.heap.size + 1 + 1, 1, none⟩ = some (.int .i64 x) := blk_cell hSW.e2 1 rfl
  have hsz : w.heap.size + 1 < W.heap.size := by have := hSW.size; omega
  have hsz2 : w.heap.size < W.heap.size := by have := hSW.size; omega
  have hsz3 : w.heap.size + 1 + 1 < W.heap.size := by have := hSW.size; omega
  by_cases hnd : needsF c < 0
  · clear hbad
    go_wp2
    refine bodyPost_ret (v := .tuple #[.agg #[.int .i64 pc, .slice av st.length cv, .int .i64 k], .bool false]) (by simp [results, Yabv.results48, go_sem, q0, q1, q2]) rfl ?_
    exact .inl ⟨.inl hnd, rfl, grown_set_new (grown_set_new (grown_set_new (grown_of_below hSW.below _) _ _ (by omega) _) _ _ (by omega) _) _ _ (by omega) _⟩
  · have hndb : decide (needsF c < 0) = false := by simpa using hnd
    have hdn : (st.length : Int) < needsF c := by omega
    clear hbad
    go_wp2
    refine bodyPost_ret (v := .tuple #[.agg #[.int .i64 pc, .slice av st.length cv, .int .i64 k], .bool false]) (by simp [results, Yabv.results48, go_sem, q0, q1, q2]) rfl ?_
    exact .inl ⟨.inr (.inl hdn), rfl, grown_set_new (grown_set_new (grown_set_new (grown_of_below hSW.below _) _ _ (by omega) _) _ _ (by omega) _) _ _ (by omega) _⟩
end Go.Proofs.Yahabw
