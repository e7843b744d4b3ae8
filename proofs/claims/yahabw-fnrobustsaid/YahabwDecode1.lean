import Derived.Test.YahabwGen6
set_option linter.unusedVariables false
set_option linter.unusedSimpArgs false
namespace Go.Proofs.Yahabw
open Go.RowKit

def OkS (p : List (Int × Int)) : Prop := ∀ o ∈ p, I64 o.1 ∧ I64 o.2

theorem Rd.inB {w : World} {rb n cap pos : Nat} {a : Option Addr} (h : Rd w rb a n cap pos) : 0 < n → ∀ bb off, a = some ⟨bb, off, none⟩ → bb < w.heap.size := by
  intro hn bb off ha
  obtain ⟨bb', off', ha', _, hc⟩ := h.bytes hn
  rw [ha] at ha'
  simp at ha'
  obtain ⟨rfl, rfl⟩ := ha'
  obtain ⟨z, hz, _⟩ := hc 0 hn
  exact cell_lt hz

theorem Rd.grown {w w' : World} {rb n cap pos : Nat} {a : Option Addr} {row : Option Nat} (h : Rd w rb a n cap pos) (hg : w.grownBy w' row) (hr : some rb ≠ row) (hbb : 0 < n → ∀ bb off, a = some ⟨bb, off, none⟩ → some bb ≠ row) : Rd w' rb a n cap pos :=
  h.keep (hg.block rb h.lt hr) (fun hn bb off ha _ hl => hg.block bb hl (hbb hn bb off ha))

theorem grown_new {a b c : World} {row row2 : Option Nat} (h : a.grownBy b row) (k : b.grownBy c row2) (hr : ∀ j, row2 = some j → a.heap.size ≤ j) : a.grownBy c row :=
  ⟨k.os.trans h.os, k.tape.trans h.tape, k.output.trans h.output, Nat.le_trans h.size k.size, fun i hi hn => (k.block i (Nat.lt_of_lt_of_le hi h.size) (fun e => by have := hr i e.symm; omega)).trans (h.block i hi hn)⟩

theorem OkS.snoc {p : List (Int × Int)} (h : OkS p) {c x : Int} (hc : I64 c) (hx : I64 x) : OkS (p ++ [(c, x)]) := by
  intro o ho
  rcases List.mem_append.1 ho with h' | h'
  · exact h o h'
  · simp at h'; subst h'; exact ⟨hc, hx⟩

theorem i64_mod {x y : Int} (h : 0 ≤ x) (hy : 0 < y) (hy2 : y ≤ 1000000000000) : I64 (x % y) := by
  have := Int.emod_nonneg x (show y ≠ 0 by omega)
  have := Int.emod_lt_of_pos x hy
  exact i64s _ (by omega) (by omega)

set_option maxRecDepth 100000 in
set_option maxHeartbeats 2000000 in
theorem rawProg_any {w : World} {rb n cap pos : Nat} {a : Option Addr} (h : Rd w rb a n cap pos) :
    Calls Yabv.prog 20 #[.pointer (some ⟨rb, 0, none⟩)] w fun e w' => ∃ a' cap' ops, e = .returned (.slice a' (List.length ops) cap') ∧ w'.ownsRow w.heap.size 60 2 (.slice a' ops.length cap') ops.length (cellsS ops) ∧ OkS ops ∧ ops.length ≤ 1048576 ∧ w.grownBy w' (some rb) := by
  obtain ⟨i0, hi, hz0, hz1, hz2⟩ := info_parts Yabv.info60
  have q0 : w.cell? ⟨rb, 0, none⟩ = some (.slice a n cap) := blk_cell h.blk 0 rfl
  have q1 : w.cell? ⟨rb, 1, none⟩ = some (.int .i64 (pos : Int)) := blk_cell h.blk 1 rfl
  have hle := h.le
  have hbig := h.big
  have hrl := h.lt
  have HIB := hide h.inB
  have l1 : (pos : Int) ≤ (n : Int) := by omega
  obtain ⟨N, hN⟩ : ∃ N : Nat, (N : Int) = ((n : Int) - pos) / 2 := ⟨(n - pos) / 2, by omega⟩
  have hN2 : N ≤ 1048576 := by omega
  have hN3 : ((n : Int) - pos) / 2 = (N : Int) := hN.symm
  clear hN
  go_enter Yabv.func20, Yabv.ntmps20
  go_wp2
  go_quiet (fail)
  go_wp2_with (at_make; refine wpList_make_own _ rfl _ _ 23 rfl w.heap.size 60 i0 _ 2 Yabv.underlying23 hi hz0 hz1 _ _ _ N rfl rfl (by omega) (by rw [hz2]; omega) (by unfold maxLen; omega) (by simp) ?_)
  intro w1 hown hgrow
  have hg1 : w.grownBy w1 (some rb) := grown_new (grown_drewN w nq _) hgrow (by simp)
  have h1 : Rd w1 rb a n cap pos := (h.drewN nq).grown hgrow (by simp) (by simp)
  clear hgrow q0 q1 hN3
  go_wp2
  go_loopw [4, 5] (fun v i wr => ∃ (k pos1 : Nat) (ops : List (Int × Int)), k ≤ N ∧ i = .int .i64 k ∧ ops.length = k ∧ wr.ownsRow w.heap.size 60 2 v ops.length (cellsS ops) ∧ OkS ops ∧ Rd wr rb a n cap pos1 ∧ w.grownBy wr (some rb))
    (fun _ i _ => N - (intOf i).toNat)
  case atStart => exact ⟨0, pos, [], Nat.zero_le _, rfl, rfl, hown, by intro o ho; simp at ho, h1, hg1⟩
  case round =>
    obtain ⟨k, pos1, ops, hk, rfl, hl, how, hok, hr, hg⟩ := hrel
    have HL := hide hl
    clear hl
    by_cases hlt : k < N
    · go_wp2_with fail
      refine (next_any hr).mono ?_
      rintro e w2 ⟨c, pos2, rfl, hc0, hc1, hp2, _, h2, hg2⟩
      go_wp2_with fail
      refine (next_any h2).mono ?_
      rintro e w3 ⟨av, pos3, rfl, ha0, ha1, hp3, _, h3, hg3⟩
      have hg3' : w.grownBy w3 (some rb) := grown_trans hg (grown_trans hg2 hg3)
      have hne : ∀ (w' : World) (x : Value) (l : List Value), w'.ownsRow w.heap.size 60 2 x ops.length l → (x.ownBlock = none ∨ x.ownBlock ≠ some rb) := fun w' x l hx => .inr fun e => by have := (hx.lt rb e).1; omega
      have how3 := (how.kept hg2 (hne _ _ _ how)).kept hg3 (hne _ _ _ how)
      have hsz3 := hg3'.size
      have hfin : ∀ (o : Obj) (w4 : World), (w3.alloc o).grownBy w4 u4.ownBlock → Rd w4 rb a n cap pos3 ∧ w.grownBy w4 (some rb) := by
        intro o w4 hg4
        have hrow : ∀ j, u4.ownBlock = some j → w.heap.size ≤ j := fun j hj => (how.lt j hj).1
        refine ⟨(h3.grown (World.grownBy_alloc w3 o none) (by simp) (by simp)).grown hg4 (fun e => by have := hrow _ e.symm; omega) (fun hn bb off ha e => ?_), grown_new (grown_new hg3' (World.grownBy_alloc w3 o none) (by simp)) hg4 hrow⟩
        have := hrow _ e.symm
        have := unhide HIB hn bb off ha
        omega
      have HF := hide hfin
      clear hfin hne how hg2 hg3 hg h2
      by_cases c1 : c < 64
      · go_wp2_with (at_builtin; refine wpList_append_own _ rfl (.tmp 55) (.tmp 59) 23 rfl w.heap.size 60 i0 _ 2 16 Yabv.underlying23 hi hz0 hz1 hz2 rfl (by decide) _ _ _ rfl (how3.alloc _) ⟨w3.heap.size, 0, none⟩ 1 1 _ rfl (by rfl) (cells_new _ _ _) (ints2_one _ _) (by have := unhide HL; unfold maxLen; omega) (by have := unhide HL; omega) (by simp; omega) ?_)
        intro v4 w4 how4 hg4 _
        rw [cellsS_snoc] at how4
        obtain ⟨hr4, hgr4⟩ := unhide HF _ w4 hg4
        clear hg4
        go_wp2
        go_roundw
        case rel => exact ⟨k + 1, pos3, _, by omega, by go_num, by rw [List.length_append, unhide HL]; rfl, by simpa using how4, hok.snoc (i64s _ (by omega) (by omega)) (I64_wrap _), hr4, hgr4⟩
        case measure => simp [intOf]; omega
      · by_cases c2 : c % 13 = 0
        · go_wp2_with (at_builtin; refine wpList_append_own _ rfl (.tmp 55) (.tmp 59) 23 rfl w.heap.size 60 i0 _ 2 16 Yabv.underlying23 hi hz0 hz1 hz2 rfl (by decide) _ _ _ rfl (how3.alloc _) ⟨w3.heap.size, 0, none⟩ 1 1 _ rfl (by rfl) (cells_new _ _ _) (ints2_one _ _) (by have := unhide HL; unfold maxLen; omega) (by have := unhide HL; omega) (by simp; omega) ?_)
          intro v4 w4 how4 hg4 _
          rw [cellsS_snoc] at how4
          obtain ⟨hr4, hgr4⟩ := unhide HF _ w4 hg4
          clear hg4
          go_wp2
          go_roundw
          case rel => exact ⟨k + 1, pos3, _, by omega, by go_num, by rw [List.length_append, unhide HL]; rfl, by simpa using how4, hok.snoc (i64s _ (by omega) (by omega)) (I64_wrap _), hr4, hgr4⟩
          case measure => simp [intOf]; omega
        · by_cases c3 : c % 13 = 9
          · go_wp2_with (at_builtin; refine wpList_append_own _ rfl (.tmp 55) (.tmp 59) 23 rfl w.heap.size 60 i0 _ 2 16 Yabv.underlying23 hi hz0 hz1 hz2 rfl (by decide) _ _ _ rfl (how3.alloc _) ⟨w3.heap.size, 0, none⟩ 1 1 _ rfl (by rfl) (cells_new _ _ _) (ints2_one _ _) (by have := unhide HL; unfold maxLen; omega) (by have := unhide HL; omega) (by simp; omega) ?_)
            intro v4 w4 how4 hg4 _
            rw [cellsS_snoc] at how4
            obtain ⟨hr4, hgr4⟩ := unhide HF _ w4 hg4
            clear hg4
            go_wp2
            go_roundw
            case rel => exact ⟨k + 1, pos3, _, by omega, by go_num, by rw [List.length_append, unhide HL]; rfl, by simpa using how4, hok.snoc (i64s _ (by omega) (by omega)) (i64_mod ha0 (by omega) (by omega)), hr4, hgr4⟩
            case measure => simp [intOf]; omega
          · by_cases c4 : c % 13 = 10
            · go_wp2_with (at_builtin; refine wpList_append_own _ rfl (.tmp 55) (.tmp 59) 23 rfl w.heap.size 60 i0 _ 2 16 Yabv.underlying23 hi hz0 hz1 hz2 rfl (by decide) _ _ _ rfl (how3.alloc _) ⟨w3.heap.size, 0, none⟩ 1 1 _ rfl (by rfl) (cells_new _ _ _) (ints2_one _ _) (by have := unhide HL; unfold maxLen; omega) (by have := unhide HL; omega) (by simp; omega) ?_)
              intro v4 w4 how4 hg4 _
              rw [cellsS_snoc] at how4
              obtain ⟨hr4, hgr4⟩ := unhide HF _ w4 hg4
              clear hg4
              go_wp2
              go_roundw
              case rel => exact ⟨k + 1, pos3, _, by omega, by go_num, by rw [List.length_append, unhide HL]; rfl, by simpa using how4, hok.snoc (i64s _ (by omega) (by omega)) (i64_mod ha0 (by omega) (by omega)), hr4, hgr4⟩
              case measure => simp [intOf]; omega
            · have c3b : (c % 13 == 9) = false := by rw [beq_eq_false_iff_ne]; exact c3
              have c4b : (c % 13 == 10) = false := by rw [beq_eq_false_iff_ne]; exact c4
              have c2b : (c % 13 == 0) = false := by rw [beq_eq_false_iff_ne]; exact c2
              go_wp2_with (at_builtin; refine wpList_append_own _ rfl (.tmp 55) (.tmp 59) 23 rfl w.heap.size 60 i0 _ 2 16 Yabv.underlying23 hi hz0 hz1 hz2 rfl (by decide) _ _ _ rfl (how3.alloc _) ⟨w3.heap.size, 0, none⟩ 1 1 _ rfl (by rfl) (cells_new _ _ _) (ints2_one _ _) (by have := unhide HL; unfold maxLen; omega) (by have := unhide HL; omega) (by simp; omega) ?_)
              intro v4 w4 how4 hg4 _
              rw [cellsS_snoc] at how4
              obtain ⟨hr4, hgr4⟩ := unhide HF _ w4 hg4
              clear hg4
              go_wp2
              go_roundw
              case rel => exact ⟨k + 1, pos3, _, by omega, by go_num, by rw [List.length_append, unhide HL]; rfl, by simpa using how4, hok.snoc (i64s _ (by omega) (by omega)) (i64s _ (by omega) (by omega)), hr4, hgr4⟩
              case measure => simp [intOf]; omega
    · obtain ⟨a2, cap2, hv⟩ := own_form how
      rw [hv] at how ⊢
      go_wp2
      go_ret
      exact ⟨a2, cap2, ops, rfl, how, hok, by have := unhide HL; omega, hg⟩
end Go.Proofs.Yahabw
