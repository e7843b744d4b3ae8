import Derived.Test.YahabwRd
set_option linter.unusedVariables false
set_option linter.unusedSimpArgs false
namespace Go.Proofs.Yahabw
open Go.RowKit

/-- A builder: its block; its row of operations lies from 'base' on. -/
def Gn (w : World) (base gb m : Nat) : Prop :=
  ∃ v ops, w.heap[gb]? = some (.cells #[v] 57 (0, 0)) ∧ ops.length = m ∧ w.ownsRow base 60 2 v m (cellsS ops) ∧ ∀ o ∈ ops, I64 o.1 ∧ I64 o.2

/-- The generators' state. -/
structure St (w : World) (rb gb base : Nat) (a : Option Addr) (n cap pos m : Nat) : Prop where
  rd : Rd w rb a n cap pos
  gn : Gn w base gb m
  hb : base ≤ w.heap.size
  hr : rb < base
  hg : gb < base
  hne : rb ≠ gb
  far : 0 < n → ∀ bb off, a = some ⟨bb, off, none⟩ → bb < base ∧ bb ≠ gb

/-- What they leave as it was. -/
structure Fr (base rb gb : Nat) (w w' : World) : Prop where
  os : w'.os = w.os
  tape : w'.tape = w.tape
  output : w'.output = w.output
  size : w.heap.size ≤ w'.heap.size
  block : ∀ k, k < base → k ≠ rb → k ≠ gb → w'.heap[k]? = w.heap[k]?

theorem Fr.refl (base rb gb : Nat) (w : World) : Fr base rb gb w w := ⟨rfl, rfl, rfl, Nat.le_refl _, fun _ _ _ _ => rfl⟩
theorem Fr.trans {base rb gb : Nat} {a b c : World} (h : Fr base rb gb a b) (k : Fr base rb gb b c) : Fr base rb gb a c :=
  ⟨k.os.trans h.os, k.tape.trans h.tape, k.output.trans h.output, Nat.le_trans h.size k.size, fun i hi h1 h2 => (k.block i hi h1 h2).trans (h.block i hi h1 h2)⟩
theorem Fr.of_grown {base rb gb : Nat} {w w' : World} {row : Option Nat} (h : w.grownBy w' row) (hb : base ≤ w.heap.size) (hr : ∀ k, row = some k → k = rb ∨ k = gb ∨ base ≤ k) : Fr base rb gb w w' :=
  ⟨h.os, h.tape, h.output, h.size, fun k hk h1 h2 => h.block k (by omega) (fun e => by have := hr k e.symm; omega)⟩

theorem St.frozen_next {w w' : World} {rb gb base n cap pos pos' m : Nat} {a : Option Addr} (h : St w rb gb base a n cap pos m) (hr : Rd w' rb a n cap pos') (hg : w.grownBy w' (some rb)) : St w' rb gb base a n cap pos' m ∧ Fr base rb gb w w' := by
  obtain ⟨v, ops, hv, hl, hown, hok⟩ := h.gn
  have h1 := h.hne
  have h2 := h.hr
  have h3 := h.hb
  refine ⟨⟨hr, ⟨v, ops, ?_, hl, hown.kept hg (.inr fun e => ?_), hok⟩, Nat.le_trans h.hb hg.size, h.hr, h.hg, h.hne, h.far⟩, Fr.of_grown hg h.hb (fun k hk => by simp at hk; exact .inl hk.symm)⟩
  · rw [hg.block gb (blk_lt hv) (by simp; omega)]; exact hv
  · have := (hown.lt rb e).1; omega

theorem snext {w : World} {rb gb base n cap pos m : Nat} {a : Option Addr} (h : St w rb gb base a n cap pos m) :
    Calls Yabv.prog 18 #[.pointer (some ⟨rb, 0, none⟩)] w fun e w' => ∃ c : Int, ∃ pos' : Nat, e = .returned (.int .u8 c) ∧ 0 ≤ c ∧ c ≤ 255 ∧ pos ≤ pos' ∧ pos' ≤ n ∧ (pos < n → pos' = pos + 1) ∧ St w' rb gb base a n cap pos' m ∧ Fr base rb gb w w' :=
  (next_any h.rd).mono fun e w' ⟨c, pos', he, h0, h1, h2, h3, h4, h5⟩ => ⟨c, pos', he, h0, h1, h2, h4.le, h3, h.frozen_next h4 h5⟩
theorem svalue {w : World} {rb gb base n cap pos m : Nat} {a : Option Addr} (h : St w rb gb base a n cap pos m) :
    Calls Yabv.prog 19 #[.pointer (some ⟨rb, 0, none⟩)] w fun e w' => ∃ v : Int, ∃ pos' : Nat, e = .returned (.int .i64 v) ∧ I64 v ∧ pos ≤ pos' ∧ pos' ≤ n ∧ St w' rb gb base a n cap pos' m ∧ Fr base rb gb w w' :=
  (value_any h.rd).mono fun e w' ⟨c, pos', he, h0, h2, h4, h5⟩ => ⟨c, pos', he, h0, h2, h4.le, h.frozen_next h4 h5⟩
theorem St.drewN {w : World} {rb gb base n cap pos m : Nat} {a : Option Addr} (h : St w rb gb base a n cap pos m) (k : Nat) : St (w.drewN k) rb gb base a n cap pos m ∧ Fr base rb gb w (w.drewN k) :=
  h.frozen_next (h.rd.drewN k) (grown_drewN _ _ _)

theorem cellsS_snoc (ops : List (Int × Int)) (c x : Int) : cellsS ops ++ [.int .i64 c, .int .i64 x] = cellsS (ops ++ [(c, x)]) := by simp [cellsS, cellS]

set_option maxHeartbeats 1000000 in
theorem semit {w : World} {rb gb base n cap pos m : Nat} {a : Option Addr} (h : St w rb gb base a n cap pos m) (hm : m ≤ 1000000000) (c x : Int) (hc : I64 c) (hx : I64 x) :
    Calls Yabv.prog 62 #[.pointer (some ⟨gb, 0, none⟩), .int .i64 c, .int .i64 x] w fun e w' => e = .returned (.int .i64 (m : Int)) ∧ St w' rb gb base a n cap pos (m + 1) ∧ Fr base rb gb w w' := by
  obtain ⟨i0, hi, hz0, hz1, hz2⟩ := info_parts Yabv.info60
  obtain ⟨v, ops, hv, hl, hown, hok⟩ := h.gn
  have hgl := blk_lt hv
  have q0 : w.cell? ⟨gb, 0, none⟩ = some v := blk_cell hv 0 rfl
  have hHb := h.hb
  go_enter Yabv.func62, Yabv.ntmps62
  go_wp2_with (at_builtin; refine wpList_append_own _ rfl (.tmp 11) (.tmp 15) 23 rfl base 60 i0 _ 2 16 Yabv.underlying23 hi hz0 hz1 hz2 rfl (by decide) _ _ _ rfl (hown.alloc _) ⟨w.heap.size, 0, none⟩ 1 1 [.int .i64 c, .int .i64 x] rfl rfl (cells_new w [.int .i64 c, .int .i64 x] 60) (ints2_one c x) (by unfold maxLen; omega) (by omega) (by simp; omega) ?_)
  intro v' w1 hown' hgrow _
  rw [cellsS_snoc] at hown'
  obtain ⟨a2, cap2, hv2⟩ := own_form hown'
  subst hv2
  have hg := h.hg
  have hvb : ∀ k, v.ownBlock = some k → base ≤ k := fun k hk => (hown.lt k hk).1
  have B1 : w1.heap[gb]? = some (.cells #[v] 57 (0, 0)) := by
    rw [hgrow.block gb (by simp; omega) (fun e => by have := hvb _ e.symm; omega), Below.heap_alloc w _ gb hgl]; exact hv
  have q1 : w1.cell? ⟨gb, 0, none⟩ = some v := blk_cell B1 0 rfl
  have f1 : w1.frozen? ⟨gb, 0, none⟩ = false := blk_free B1 0
  have hsz1 := hgrow.size
  go_wp2
  go_ret
  have hg2 := grown_setCell w1 ⟨gb, 0, none⟩ (.slice a2 (m + 1) cap2)
  refine ⟨ret_int (by omega), ⟨?_, ⟨_, ops ++ [(c, x)], ?_, by simp [hl], own_setCell hown' _ _ _ (fun e => by have := (hown'.lt _ e).1; omega), ?_⟩, ?_, h.hr, h.hg, h.hne, h.far⟩, ?_⟩
  · have hr := h.hr
    have hne := h.hne
    refine h.rd.keep ?_ (fun hn bb off hb hb2 hb3 => ?_)
    · rw [hg2.block rb (by simp at hsz1; omega) (by simp; omega), hgrow.block rb (by simp; omega) (fun e => by have := hvb _ e.symm; omega), Below.heap_alloc w _ rb (by omega)]
    · obtain ⟨h1, h2⟩ := h.far hn bb off hb
      rw [hg2.block bb (by simp at hsz1; omega) (by simp; omega), hgrow.block bb (by simp; omega) (fun e => by have := hvb _ e.symm; omega), Below.heap_alloc w _ bb hb3]
  · have := heap_setCell_same w1 gb 0 _ 57 (.slice a2 (m + 1) cap2) B1
    simpa using this
  · intro o ho
    rcases List.mem_append.1 ho with h' | h'
    · exact hok o h'
    · simp at h'; subst h'; exact ⟨hc, hx⟩
  · simp at hsz1 ⊢; omega
  · exact (Fr.of_grown (World.grownBy_alloc w _ none) hHb (by simp)).trans ((Fr.of_grown hgrow (by simp; omega) (fun k hk => .inr (.inr (hvb k hk)))).trans (Fr.of_grown hg2 (by simp at hsz1; omega) (fun k hk => by simp at hk; exact .inr (.inl hk.symm))))
end Go.Proofs.Yahabw
