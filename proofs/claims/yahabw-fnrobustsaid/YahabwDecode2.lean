import Derived.Test.YahabwDecode1
set_option linter.unusedVariables false
set_option linter.unusedSimpArgs false
namespace Go.Proofs.Yahabw
open Go.RowKit

theorem cellsS_set0 (p : List (Int × Int)) (i : Nat) (h : i < p.length) (c : Int) : (cellsS p).set (i * 2) (.int .i64 c) = cellsS (p.set i (c, p[i].2)) := by
  rw [← cellsS_set p i h]
  apply List.ext_getElem?
  intro k
  rw [List.getElem?_set (l := (cellsS p).set (i * 2) (.int .i64 c))]
  split
  · rename_i hk; subst hk
    rw [List.getElem?_set, if_neg (by omega), cellsS_get1 p i h, if_pos (by rw [List.length_set, cellsS_len]; omega)]
  · rfl
theorem cellsS_set1 (p : List (Int × Int)) (i : Nat) (h : i < p.length) (x : Int) : (cellsS p).set (i * 2 + 1) (.int .i64 x) = cellsS (p.set i (p[i].1, x)) := by
  rw [← cellsS_set p i h]
  congr 1
  apply List.ext_getElem?
  intro k
  rw [List.getElem?_set]
  split
  · rename_i hk; subst hk
    rw [cellsS_get0 p i h, if_pos (by rw [cellsS_len]; omega)]
  · rfl
theorem OkS.set0 {p : List (Int × Int)} (h : OkS p) (i : Nat) (hi : i < p.length) {c : Int} (hc : I64 c) : OkS (p.set i (c, p[i].2)) := by
  intro o ho
  rcases List.mem_or_eq_of_mem_set ho with h' | h'
  · exact h o h'
  · subst h'; exact ⟨hc, (h _ (List.getElem_mem _)).2⟩
theorem OkS.set1 {p : List (Int × Int)} (h : OkS p) (i : Nat) (hi : i < p.length) {x : Int} (hx : I64 x) : OkS (p.set i (p[i].1, x)) := by
  intro o ho
  rcases List.mem_or_eq_of_mem_set ho with h' | h'
  · exact h o h'
  · subst h'; exact ⟨(h _ (List.getElem_mem _)).1, hx⟩

/-- Bytes that lie in memory. -/
structure Bytes (w : World) (a : Option Addr) (n : Nat) : Prop where
  big : n ≤ 1048576
  bytes : 0 < n → ∃ bb off, a = some ⟨bb, off, none⟩ ∧ ∀ i, i < n → ∃ z : Int, w.cell? ⟨bb, off + i, none⟩ = some (.int .u8 z) ∧ 0 ≤ z ∧ z ≤ 255

theorem Bytes.inB {w : World} {n : Nat} {a : Option Addr} (h : Bytes w a n) : 0 < n → ∀ bb off, a = some ⟨bb, off, none⟩ → bb < w.heap.size := by
  intro hn bb off ha
  obtain ⟨bb', off', ha', hc⟩ := h.bytes hn
  rw [ha] at ha'
  simp at ha'
  obtain ⟨rfl, rfl⟩ := ha'
  obtain ⟨z, hz, _⟩ := hc 0 hn
  exact cell_lt hz

theorem Bytes.rd {w : World} {a : Option Addr} {n : Nat} (h : Bytes w a n) (cap : Nat) : Rd (w.alloc (.cells #[.slice a n cap, .int .i64 0] 51)) w.heap.size a n cap 0 := by
  refine ⟨heap_alloc_new w _, Nat.zero_le _, h.big, fun hn => ?_⟩
  obtain ⟨bb, off, ha, hc⟩ := h.bytes hn
  have hlt := h.inB hn bb off ha
  refine ⟨bb, off, ha, by omega, fun i hi => ?_⟩
  obtain ⟨z, hz, h0, h1⟩ := hc i hi
  exact ⟨z, (World.cell?_of_block (w := w) (a := ⟨bb, off + i, none⟩) (Below.heap_alloc w _ bb hlt)).trans hz, h0, h1⟩

def OkI (z : List Int) : Prop := ∀ x ∈ z, I64 x

/-- What Decode hands back. -/
def DecPost (w : World) (e : Ending) (w' : World) : Prop :=
  ∃ (a1 : Option Addr) (c1 : Nat) (ops : List (Int × Int)) (a2 : Option Addr) (c2 : Nat) (zs : List Int), e = .returned (.tuple #[.slice a1 ops.length c1, .slice a2 zs.length c2]) ∧
    w'.ownsRow w.heap.size 60 2 (.slice a1 ops.length c1) ops.length (cellsS ops) ∧ OkS ops ∧ ops.length ≤ 100000000 ∧
    w'.ownsRow w.heap.size 2 1 (.slice a2 zs.length c2) zs.length (zs.map (Value.int .i64)) ∧ OkI zs ∧ zs.length ≤ 5 ∧ Below w.heap.size w w'

theorem below_grown_at {w w1 w2 : World} {B rb : Nat} (h : Below B w w1) (hB : B ≤ w1.heap.size) (hg : w1.grownBy w2 (some rb)) (hr : B ≤ rb) : Below B w w2 := h.grown hg hB (fun k hk => by simp at hk; omega)

set_option maxRecDepth 100000 in
set_option maxHeartbeats 4000000 in
theorem decode_any (a : Option Addr) (n cap : Nat) (w : World) (hb : Bytes w a n) : Calls Yabv.prog 4 #[.slice a n cap] w (DecPost w) := by
  obtain ⟨i0, hi, hz0, hz1, hz2⟩ := info_parts Yabv.info2
  have HIB := hide hb.inB
  have h0 := hb.rd cap
  have hb0 : Below w.heap.size w (w.alloc (.cells #[.slice a n cap, .int .i64 0] 51)) := (Below.refl _ _).alloc (Nat.le_refl _) _
  go_enter Yabv.func4, Yabv.ntmps4
  go_wp2_with fail
  refine (next_any h0).mono ?_
  rintro e w1 ⟨c1, pos1, rfl, c1a, c1b, hp1, _, h1, hg1⟩
  have hb1 := below_grown_at hb0 (by simp) hg1 (Nat.le_refl _)
  clear h0 hb0 hg1
  go_wp2_with fail
  refine (next_any h1).mono ?_
  rintro e w2 ⟨c2, pos2, rfl, c2a, c2b, hp2, _, h2, hg2⟩
  have hb2 := below_grown_at hb1 hb1.size hg2 (Nat.le_refl _)
  clear h1 hb1 hg2
  go_wp2_with fail
  refine (next_any h2).mono ?_
  rintro e w3 ⟨c3, pos3, rfl, c3a, c3b, hp3, _, h3, hg3⟩
  have hb3 := below_grown_at hb2 hb2.size hg3 (Nat.le_refl _)
  clear h2 hb2 hg3
  go_wp2_with fail
  refine (next_any h3).mono ?_
  rintro e w4 ⟨c4, pos4, rfl, c4a, c4b, hp4, _, h4, hg4⟩
  have hb4 := below_grown_at hb3 hb3.size hg4 (Nat.le_refl _)
  clear h3 hb3 hg4
  go_wp2_with fail
  refine (next_any h4).mono ?_
  rintro e w5 ⟨c5, pos5, rfl, c5a, c5b, hp5, _, h5, hg5⟩
  have hb5 := below_grown_at hb4 hb4.size hg5 (Nat.le_refl _)
  clear h4 hb4 hg5
  obtain ⟨na, hna⟩ : ∃ na : Nat, (na : Int) = c2 % 6 := ⟨(c2 % 6).toNat, by omega⟩
  have hna2 : na ≤ 5 := by omega
  have hna3 : c2 % 6 = (na : Int) := hna.symm
  clear hna
  have hrl := h5.lt
  go_wp2_with (at_make; refine wpList_make_own _ rfl _ _ 24 rfl (w.heap.size + 1) 2 i0 _ 1 Yabv.underlying24 hi hz0 hz1 _ _ _ na rfl rfl (by omega) (by rw [hz2]; omega) (by unfold maxLen; omega) (by omega) ?_)
  intro w6 hown hgrow
  have hb6 : Below w.heap.size w w6 := hb5.grown hgrow hb5.size (by simp)
  have h6 : Rd w6 w.heap.size a n cap pos5 := h5.grown hgrow (by simp) (by simp)
  clear hgrow h5 hb5 hna3
  go_wp2
  go_loopw [11, 12] (fun v i wr => ∃ (k pos1 : Nat) (zs : List Int), k ≤ na ∧ i = .int .i64 k ∧ zs.length = k ∧ wr.ownsRow (w.heap.size + 1) 2 1 v zs.length (zs.map (Value.int .i64)) ∧ OkI zs ∧ Rd wr w.heap.size a n cap pos1 ∧ Below w.heap.size w wr)
    (fun _ i _ => na - (intOf i).toNat)
  case atStart => exact ⟨0, pos5, [], Nat.zero_le _, rfl, rfl, hown, by intro o ho; simp at ho, h6, hb6⟩
  case round =>
    obtain ⟨k, pos6, zs, hk, rfl, hl, how, hok, hr, hbw⟩ := hrel
    have HL := hide hl
    clear hl
    have hrl := hr.lt
    by_cases hlt : k < na
    · go_wp2_with fail
      refine (value_any hr).mono ?_
      rintro e w7 ⟨x, pos7, rfl, hx, hp7, h7, hg7⟩
      have how7 := how.kept hg7 (.inr fun e => by have := (how.lt _ e).1; omega)
      have hb7 := below_grown_at hbw hbw.size hg7 (Nat.le_refl _)
      have hrl7 := h7.lt
      have hrow : ∀ j, u11.ownBlock = some j → w.heap.size + 1 ≤ j := fun j hj => (how.lt j hj).1
      clear how hg7 hr hbw
      go_wp2_with (at_builtin; refine wpList_append_own _ rfl (.tmp 45) (.tmp 48) 24 rfl (w.heap.size + 1) 2 i0 _ 1 8 Yabv.underlying24 hi hz0 hz1 hz2 rfl (by decide) _ _ _ rfl (how7.alloc _) ⟨w7.heap.size, 0, none⟩ 1 1 [.int .i64 x] rfl rfl (cells_new w7 [.int .i64 x] 2) (by intro u hu; simp at hu; subst hu; rfl) (by have := unhide HL; unfold maxLen; omega) (by have := unhide HL; omega) (by simp; omega) ?_)
      intro v8 w8 how8 hg8 _
      have h8 : Rd w8 w.heap.size a n cap pos7 := (h7.grown (World.grownBy_alloc w7 _ none) (by simp) (by simp)).grown hg8 (fun e => by have := hrow _ e.symm; omega) (fun hn bb off ha e => by have := hrow _ e.symm; have := unhide HIB hn bb off ha; omega)
      have hb8 : Below w.heap.size w w8 := (hb7.alloc hb7.size _).grown hg8 (by simp; omega) (fun j hj => by have := hrow j hj; omega)
      clear hg8 how7 h7 hb7
      go_wp2
      go_roundw
      case rel => exact ⟨k + 1, pos7, zs ++ [x], by omega, by go_num, by rw [List.length_append, unhide HL]; rfl, by simpa using how8, by intro y hy; rcases List.mem_append.1 hy with h' | h'; exact hok y h'; simp at h'; subst h'; exact hx, h8, hb8⟩
      case measure => simp [intOf]; omega
    · obtain ⟨a2, cp2, hv⟩ := own_form how
      rw [hv] at how ⊢
      clear hv
      have hzl : zs.length ≤ 5 := by have := unhide HL; omega
      by_cases m0 : c1 % 8 = 0
      · go_wp2_with fail
        refine (rawProg_any hr).mono ?_
        rintro e w7 ⟨a7, cp7, ops, rfl, hown7, hok7, hl7, hg7⟩
        have how7 := how.kept hg7 (.inr fun e => by have := (how.lt _ e).1; omega)
        have hb7 := below_grown_at hbw hbw.size hg7 (Nat.le_refl _)
        go_wp2
        go_ret2
        exact ⟨a7, cp7, ops, a2, cp2, zs, rfl, own_base hown7 hbw.size, hok7, by omega, own_base how7 (by omega), hok, hzl, hb7⟩
      · go_wp2_with fail
        generalize hW : World.alloc wr _ = W
        have hst : St W w.heap.size wr.heap.size (wr.heap.size + 1) a n cap pos6 0 := by
          subst hW
          refine ⟨hr.grown (World.grownBy_alloc wr _ none) (by simp) (by simp), ⟨_, [], heap_alloc_new wr _, rfl, World.ownsRow_nil _ _ _ _, by intro o ho; simp at ho⟩, by simp, by omega, by omega, by omega, fun hn bb off ha => ?_⟩
          have := unhide HIB hn bb off ha
          omega
        have hbW : Below w.heap.size w W := by rw [← hW]; exact hbw.alloc hbw.size _
        have howW : W.ownsRow (w.heap.size + 1) 2 1 (.slice a2 zs.length cp2) zs.length (zs.map (Value.int .i64)) := by rw [← hW]; exact how.alloc _
        have hWs : w.heap.size < wr.heap.size := hrl
        have hWz : wr.heap.size < W.heap.size := by rw [← hW]; simp
        have hrow : ∀ j, (Value.slice a2 zs.length cp2).ownBlock = some j → w.heap.size + 1 ≤ j ∧ j < wr.heap.size := fun j hj => how.lt j hj
        clear hW how hr hbw
        have hle6 := hst.rd.le
        have hbg := hb.big
        refine (blockOK (n - pos6) W w.heap.size wr.heap.size (wr.heap.size + 1) a n cap pos6 0 0 0 hst (Nat.le_refl _) ⟨by omega, by omega, by omega, by omega, by omega⟩).mono ?_
        rintro e w7 ⟨d7, pos7, m7, rfl, b1, b2, b3, b4, b5, h7, f7⟩
        obtain ⟨v, ops, hv, hl, hown7, hok7⟩ := h7.gn
        obtain ⟨a7, cp7, rfl⟩ := own_form hown7
        have q7 : w7.cell? ⟨wr.heap.size, 0, none⟩ = some (.slice a7 m7 cp7) := blk_cell hv 0 rfl
        have how7 : w7.ownsRow (w.heap.size + 1) 2 1 (.slice a2 zs.length cp2) zs.length (zs.map (Value.int .i64)) := by
          refine ⟨howW.1, ?_⟩
          rcases howW.2 with hn | ⟨g, cc, cur, hg1, hg2, hg3, rest⟩
          · exact .inl hn
          · have := hrow g (by rw [hg1]; rfl)
            exact .inr ⟨g, cc, cur, hg1, hg2, by rw [f7.block g (by omega) (by omega) (by omega)]; exact hg3, rest⟩
        have hb7 : Below w.heap.size w w7 := hbW.trans ⟨f7.os, f7.tape, f7.output, f7.size, fun k hk => f7.block k (by omega) (by omega) (by omega)⟩
        have hml : m7 ≤ 100000000 := by omega
        have HL7 := hide hl
        have hB7 := h7.hb
        clear hst howW hbW f7 hv hl
        have fin : ∀ w8 : World, ∀ ops' : List (Int × Int), ops'.length = m7 → w8.ownsRow (wr.heap.size + 1) 60 2 (.slice a7 m7 cp7) m7 (cellsS ops') → OkS ops' → w8.ownsRow (w.heap.size + 1) 2 1 (.slice a2 zs.length cp2) zs.length (zs.map (Value.int .i64)) → Below w.heap.size w w8 → DecPost w (.returned (.tuple #[.slice a7 m7 cp7, .slice a2 zs.length cp2])) w8 := by
          intro w8 ops' hl' hown' hok' how' hb'
          subst hl'
          exact ⟨a7, cp7, ops', a2, cp2, zs, rfl, own_base hown' (by omega), hok', hml, own_base how' (by omega), hok, hzl, hb'⟩
        have HF := hide fin
        clear fin
        by_cases m1 : c1 % 8 = 1 ∧ 0 < m7
        · obtain ⟨m1, m2⟩ := m1
          obtain ⟨g7, rfl⟩ := own_some hown7 m2
          have hg7 := hown7.lt g7 rfl
          obtain ⟨ix, hix⟩ : ∃ ix : Nat, (ix : Int) = (c3 * 256 + c4) % (m7 : Int) := ⟨((c3 * 256 + c4) % (m7 : Int)).toNat, by have := Int.emod_nonneg (c3 * 256 + c4) (show (m7 : Int) ≠ 0 by omega); omega⟩
          have hix2 : ix < m7 := by have := Int.emod_lt_of_pos (c3 * 256 + c4) (show (0 : Int) < m7 by omega); omega
          have hix3 : (c3 * 256 + c4) % (m7 : Int) = (ix : Int) := hix.symm
          clear hix
          have hixl : ix < ops.length := by have := unhide HL7; omega
          have l1 : (ix : Int) < (m7 : Int) := by omega
          have l0 : (0 : Int) < (m7 : Int) := by omega
          obtain ⟨x0, x1, cc0, cc1⟩ : ∃ x y, w7.cell? ⟨g7, ix * 2, none⟩ = some (.int .i64 x) ∧ w7.cell? ⟨g7, ix * 2 + 1, none⟩ = some (.int .i64 y) := ⟨_, _, ownS_cell hown7 ix hixl⟩
          have ff0 := hown7.frozenAt (ix * 2)
          have ff1 := hown7.frozenAt (ix * 2 + 1)
          have fin0 : ∀ (c : Int), I64 c → DecPost w (.returned (.tuple #[.slice (some ⟨g7, 0, none⟩) m7 cp7, .slice a2 zs.length cp2])) (w7.setCell ⟨g7, ix * 2, none⟩ (.int .i64 c)) := fun c hc =>
            unhide HF _ _ (by rw [List.length_set]; exact unhide HL7) (by have := (hown7.stored (ix * 2) (.int .i64 c)).1; rw [cellsS_set0 ops ix hixl] at this; exact this) (OkS.set0 (p := ops) hok7 ix hixl hc) (own_setCell how7 _ _ _ (fun e => by have := (hrow _ e).2; omega)) (hb7.setCell (by show _ ≤ g7; omega) _)
          have fin1 : ∀ (c : Int), I64 c → DecPost w (.returned (.tuple #[.slice (some ⟨g7, 0, none⟩) m7 cp7, .slice a2 zs.length cp2])) (w7.setCell ⟨g7, ix * 2 + 1, none⟩ (.int .i64 c)) := fun c hc =>
            unhide HF _ _ (by rw [List.length_set]; exact unhide HL7) (by have := (hown7.stored (ix * 2 + 1) (.int .i64 c)).1; rw [cellsS_set1 ops ix hixl] at this; exact this) (OkS.set1 (p := ops) hok7 ix hixl hc) (own_setCell how7 _ _ _ (fun e => by have := (hrow _ e).2; omega)) (hb7.setCell (by show _ ≤ g7; omega) _)
          have HF0 := hide fin0
          have HF1 := hide fin1
          clear fin0 fin1
          by_cases k0 : c5 % 4 = 0
          · go_wp2
            go_ret2
            exact unhide HF0 _ (i64s _ (by omega) (by omega))
          by_cases k1 : c5 % 4 = 1
          · go_wp2
            go_ret2
            exact unhide HF1 _ (i64s _ (by omega) (by omega))
          by_cases k2 : c5 % 4 = 2
          · go_wp2
            go_ret2
            exact unhide HF0 _ (i64s _ (by omega) (by omega))
          · have k3 : c5 % 4 = 3 := by omega
            go_wp2
            go_ret2
            exact unhide HF0 _ (i64s _ (by omega) (by omega))
        · by_cases m2 : c1 % 8 = 1
          · have m3 : ¬ (0 : Int) < (m7 : Int) := by omega
            go_wp2
            go_ret2
            exact unhide HF _ _ (unhide HL7) hown7 hok7 how7 hb7
          · have m3 : (c1 % 8 == 1) = false := by rw [beq_eq_false_iff_ne]; exact m2
            go_wp2
            go_ret2
            exact unhide HF _ _ (unhide HL7) hown7 hok7 how7 hb7
end Go.Proofs.Yahabw
