import Derived.Test.YahabwSpecTr
import Derived.Test.YahabwOut3
import Derived.Deep.CutBlock
set_option linter.unusedVariables false
set_option linter.unusedSimpArgs false
namespace Go.Proofs.Yahabw
open Go.RowKit

/-- What DecodeReg hands back. -/
def DRPost (w : World) (e : Ending) (w' : World) : Prop :=
  ∃ (a1 : Option Addr) (c1 : Nat) (ops : List R5) (m : Int) (a2 : Option Addr) (c2 : Nat) (zs : List Int), e = .returned (.tuple #[.slice a1 ops.length c1, .int .i64 m, .slice a2 zs.length c2]) ∧
    w'.ownsRow w.heap.size 65 5 (.slice a1 ops.length c1) ops.length (cellsR ops) ∧ OkR ops ∧ ops.length ≤ 1048576 ∧ -1000 ≤ m ∧ m ≤ 70000 ∧
    w'.ownsRow w.heap.size 2 1 (.slice a2 zs.length c2) zs.length (zs.map (Value.int .i64)) ∧ OkI zs ∧ zs.length ≤ 5 ∧ Below w.heap.size w w'

theorem Bytes.tail1 {w : World} {rb n cap pos : Nat} {a : Option Addr} (h : Rd w rb a n cap pos) : Bytes w a (n - pos) := by
  refine ⟨by have := h.big; omega, fun hn => ?_⟩
  obtain ⟨bb, off, ha, _, hc⟩ := h.bytes (by omega)
  exact ⟨bb, off, ha, fun i hi => hc i (by omega)⟩
theorem Bytes.tail2 {w : World} {rb n cap pos : Nat} {a : Option Addr} (h : Rd w rb a n cap pos) : Bytes w (Option.map (fun x => x.add pos) a) (n - pos) := by
  refine ⟨by have := h.big; omega, fun hn => ?_⟩
  obtain ⟨bb, off, rfl, _, hc⟩ := h.bytes (by omega)
  refine ⟨bb, off + pos, by simp [Addr.add_lit], fun i hi => ?_⟩
  have := hc (pos + i) (by omega)
  rwa [← Nat.add_assoc] at this

theorem own_disj {w : World} {b1 b2 e1 e2 s1 s2 n1 n2 : Nat} {v1 v2 : Value} {x1 x2 : List Value} (h1 : w.ownsRow b1 e1 s1 v1 n1 x1) (h2 : w.ownsRow b2 e2 s2 v2 n2 x2) (hne : e1 ≠ e2) : v1.ownBlock = none ∨ v1.ownBlock ≠ v2.ownBlock := by
  rcases h1.2 with ⟨rfl, _⟩ | ⟨g, cap, cur, rfl, _, hg, _⟩
  · left; rfl
  · rcases h2.2 with ⟨rfl, _⟩ | ⟨g2, cap2, cur2, rfl, _, hg2, _⟩
    · right; simp [Value.ownBlock]
    · right
      simp only [Value.ownBlock, ne_eq, Option.some.injEq]
      intro e
      subst e
      rw [hg] at hg2
      simp at hg2
      exact hne hg2.2

set_option maxRecDepth 100000 in
set_option maxHeartbeats 4000000 in
theorem decReg_any (a : Option Addr) (n cap : Nat) (w : World) (hb : Bytes w a n) : Calls Yabv.prog 9 #[.slice a n cap] w (DRPost w) := by
  obtain ⟨i0, hi, hz0, hz1, hz2⟩ := info_parts Yabv.info2
  obtain ⟨j0, ji, jz0, jz1, jz2⟩ := info_parts Yabv.info65
  have HIB := hide hb.inB
  have h0 := hb.rd cap
  have hbig := hb.big
  have hb0 : Below w.heap.size w (w.alloc (.cells #[.slice a n cap, .int .i64 0] 51)) := (Below.refl _ _).alloc (Nat.le_refl _) _
  go_enter Yabv.func9, Yabv.ntmps9
  go_wp2_with fail
  refine (next_any h0).mono ?_
  rintro e w1 ⟨c1, pos1, rfl, c1a, c1b, hp1, _, h1, hg1⟩
  have hb1 := below_grown_at hb0 (by simp) hg1 (Nat.le_refl _)
  clear h0 hb0 hg1
  go_upto_if 32 with fail
  go_cut [7, 8, 9, 10, 11] from 31 to 166 (fun _ _ _ _ _ wc => ∃ pos', Rd wc w.heap.size a n cap pos' ∧ Below w.heap.size w wc)
  case first =>
    by_cases k0 : c1 % 4 = 0
    · have q1 : w1.cell? ⟨w.heap.size, 1, none⟩ = some (.int .i64 (pos1 : Int)) := blk_cell h1.blk 1 rfl
      have hle := h1.le
      have hle2 : (pos1 : Int) ≤ (n : Int) := by omega
      go_wp2_with fail
      case' inl => refine (decode_any a (n - pos1) 0 w1 (Bytes.tail1 h1)).mono ?_
      case' inr => refine (decode_any (Option.map (fun x => x.add pos1) a) (n - pos1) (cap - pos1) w1 (Bytes.tail2 h1)).mono ?_
      all_goals
        rintro e w2 ⟨a1, cp1, ops, a2, cp2, zs, rfl, hown, hok, hl, hownz, hokz, hlz, hb2⟩
        have hb2' := hb1.trans (hb2.mono hb1.size)
        clear q1
        go_wp2_with fail
        refine (specTr_any _ _ ops _ (own_base hown (Nat.zero_le _)) hok (by omega)).mono ?_
        rintro e w3 (⟨a3, cp3, rops, m, rfl, hown3, hok3, hl3, hm0, hm1, hb3⟩ | ⟨rfl, hb3⟩)
        · go_wp2
          go_ret3
          exact ⟨a3, cp3, rops, m, a2, cp2, zs, rfl, own_base hown3 hb2'.size, hok3, by omega, by omega, by omega, own_base (own_below' hownz hb3) hb1.size, hokz, hlz, hb2'.trans (hb3.mono hb2'.size)⟩
        · go_wp2
          try subst_vars
          go_meet
          case rel => exact ⟨pos1, (h1.below hb2).below hb3, hb2'.trans (hb3.mono hb2'.size)⟩
    · have k0b : (c1 % 4 == 0) = false := by rw [beq_eq_false_iff_ne]; omega
      go_wp2
      go_meet
      case rel => exact ⟨pos1, h1, hb1⟩
  case rest =>
    obtain ⟨pos2, h2, hb2⟩ := hcut
    clear h1 hb1
    go_wp2_with fail
    refine (next_any h2).mono ?_
    rintro e w3 ⟨c3, pos3, rfl, c3a, c3b, hp3, _, h3, hg3⟩
    have hb3 := below_grown_at hb2 hb2.size hg3 (Nat.le_refl _)
    clear h2 hb2 hg3
    go_upto_block 0 with fail
    go_cut [12] from 31 to 166 (fun nv wc => ∃ (m : Int) (pos' : Nat), nv = .int .i64 m ∧ -1000 ≤ m ∧ m ≤ 70000 ∧ Rd wc w.heap.size a n cap pos' ∧ Below w.heap.size w wc)
    case first =>
      by_cases s1 : c1 % 16 = 1
      · have s1b : (c1 % 16 == 1) = true := by rw [beq_iff_eq]; omega
        clear s1
        go_wp2_with fail
        refine (next_any h3).mono ?_
        rintro e w4 ⟨c4, pos4, rfl, c4a, c4b, hp4, _, h4, hg4⟩
        go_wp2
        go_meet
        case rel => exact ⟨_, pos4, rfl, by omega, by omega, h4, below_grown_at hb3 hb3.size hg4 (Nat.le_refl _)⟩
      · have s1b : (c1 % 16 == 1) = false := by rw [beq_eq_false_iff_ne]; omega
        by_cases s5 : c1 % 16 = 5
        · have s5b : (c1 % 16 == 5) = true := by rw [beq_iff_eq]; omega
          clear s1 s5
          go_wp2_with fail
          refine (next_any h3).mono ?_
          rintro e w4 ⟨c4, pos4, rfl, c4a, c4b, hp4, _, h4, hg4⟩
          go_wp2
          go_meet
          case rel => exact ⟨_, pos4, rfl, by omega, by omega, h4, below_grown_at hb3 hb3.size hg4 (Nat.le_refl _)⟩
        · have s5b : (c1 % 16 == 5) = false := by rw [beq_eq_false_iff_ne]; omega
          clear s1 s5
          go_wp2
          go_meet
          case rel => exact ⟨_, pos3, rfl, by omega, by omega, h3, hb3⟩
    case rest =>
      obtain ⟨m, pos4, rfl, hm0, hm1, h4, hb4⟩ := hcut
      clear h3 hb3
      go_wp2_with fail
      refine (next_any h4).mono ?_
      rintro e w5 ⟨c5, pos5, rfl, c5a, c5b, hp5, _, h5, hg5⟩
      have hb5 := below_grown_at hb4 hb4.size hg5 (Nat.le_refl _)
      clear h4 hb4 hg5
      obtain ⟨na, hna⟩ : ∃ na : Nat, (na : Int) = c5 % 6 := ⟨(c5 % 6).toNat, by omega⟩
      have hna2 : na ≤ 5 := by omega
      have hna3 : c5 % 6 = (na : Int) := hna.symm
      clear hna
      have hrl := h5.lt
      go_wp2_with (at_make; refine wpList_make_own _ rfl _ _ 24 rfl (w.heap.size + 1) 2 i0 _ 1 Yabv.underlying24 hi hz0 hz1 _ _ _ na rfl rfl (by omega) (by rw [hz2]; omega) (by unfold maxLen; omega) (by omega) ?_)
      intro w6 hown hgrow
      have hb6 : Below w.heap.size w w6 := hb5.grown hgrow hb5.size (by simp)
      have h6 : Rd w6 w.heap.size a n cap pos5 := h5.grown hgrow (by simp) (by simp)
      clear hgrow h5 hb5 hna3
      go_wp2
      go_loopw [14, 15] (fun v i wr => ∃ (k pos1 : Nat) (zs : List Int), k ≤ na ∧ i = .int .i64 k ∧ zs.length = k ∧ wr.ownsRow (w.heap.size + 1) 2 1 v zs.length (zs.map (Value.int .i64)) ∧ OkI zs ∧ Rd wr w.heap.size a n cap pos1 ∧ Below w.heap.size w wr)
        (fun _ i _ => na - (intOf i).toNat)
      case atStart => exact ⟨0, pos5, [], Nat.zero_le _, rfl, rfl, hown, by intro o ho; simp at ho, h6, hb6⟩
      case round =>
        clear hown h6 hb6
        obtain ⟨k, pos6, zs, hk, rfl, hl, how, hok, hr, hbw⟩ := hrel
        have HL := hide hl
        clear hl
        have hrl := hr.lt
        by_cases hlt : k < na
        · go_wp2_with fail
          refine (value_any hr).mono ?_
          rintro e w7 ⟨x, pos7, rfl, hx, hp7, h7, hg7⟩
          have how7 := how.kept hg7 (.inr fun e => by have := (how.lt _ e).1; omega)
          have hb7 := below_grown_at hbw hbw.size hg7 (Nat.le_refl _)
          have hrl7 := h7.lt
          have hrow : ∀ j, u14.ownBlock = some j → w.heap.size + 1 ≤ j := fun j hj => (how.lt j hj).1
          clear how hg7 hr hbw
          go_wp2_with (at_builtin; refine wpList_append_own _ rfl (.tmp 83) (.tmp 86) 24 rfl (w.heap.size + 1) 2 i0 _ 1 8 Yabv.underlying24 hi hz0 hz1 hz2 rfl (by decide) _ _ _ rfl (how7.alloc _) ⟨w7.heap.size, 0, none⟩ 1 1 [.int .i64 x] rfl rfl (cells_new w7 [.int .i64 x] 2) (by intro u hu; simp at hu; subst hu; rfl) (by have := unhide HL; unfold maxLen; omega) (by have := unhide HL; omega) (by simp; omega) ?_)
          intro v8 w8 how8 hg8 _
          have h8 : Rd w8 w.heap.size a n cap pos7 := (h7.grown (World.grownBy_alloc w7 _ none) (by simp) (by simp)).grown hg8 (fun e => by have := hrow _ e.symm; omega) (fun hn bb off ha e => by have := hrow _ e.symm; have := unhide HIB hn bb off ha; omega)
          have hb8 : Below w.heap.size w w8 := (hb7.alloc hb7.size _).grown hg8 (by simp; omega) (fun j hj => by have := hrow j hj; omega)
          clear hg8 how7 h7 hb7
          go_wp2
          go_roundw
          case rel => exact ⟨k + 1, pos7, zs ++ [x], by omega, by go_num, by rw [List.length_append, unhide HL]; rfl, by simpa using how8, by intro y hy; rcases List.mem_append.1 hy with h' | h'; exact hok y h'; simp at h'; subst h'; exact hx, h8, hb8⟩
          case measure => simp [intOf]; omega
        · obtain ⟨a2, cp2, hv⟩ := own_form how
          rw [hv] at how ⊢
          clear hv
          have hzl : zs.length ≤ 5 := by have := unhide HL; omega
          clear HL
          have hle := hr.le
          have q1 : wr.cell? ⟨w.heap.size, 1, none⟩ = some (.int .i64 (pos6 : Int)) := blk_cell hr.blk 1 rfl
          have l1 : (pos6 : Int) ≤ (n : Int) := by omega
          obtain ⟨N, hN⟩ : ∃ N : Nat, (N : Int) = ((n : Int) - pos6) / 4 := ⟨(n - pos6) / 4, by omega⟩
          have hN2 : N ≤ 262144 := by omega
          have hN3 : ((n : Int) - pos6) / 4 = (N : Int) := hN.symm
          clear hN
          go_wp2_with (at_make; refine wpList_make_own _ rfl _ _ 29 rfl (w.heap.size + 1) 65 j0 _ 5 Yabv.underlying29 ji jz0 jz1 _ _ _ N rfl rfl (by omega) (by rw [jz2]; omega) (by unfold maxLen; omega) (by omega) ?_)
          intro w6 hown hgrow
          have hb6 : Below w.heap.size w w6 := hbw.grown hgrow hbw.size (by simp)
          have h6 : Rd w6 w.heap.size a n cap pos6 := hr.grown hgrow (by simp) (by simp)
          have how6 := own_below' how (below_of_grown hgrow)
          clear hgrow q1 hr hbw how hN3 hle l1
          go_wp2
          go_loopw [17, 18] (fun v i wr => ∃ (k pos1 : Nat) (ops : List R5), k ≤ N ∧ i = .int .i64 k ∧ ops.length = k ∧ wr.ownsRow (w.heap.size + 1) 65 5 v ops.length (cellsR ops) ∧ OkR ops ∧
              wr.ownsRow (w.heap.size + 1) 2 1 (.slice a2 zs.length cp2) zs.length (zs.map (Value.int .i64)) ∧ Rd wr w.heap.size a n cap pos1 ∧ Below w.heap.size w wr)
            (fun _ i _ => N - (intOf i).toNat)
          case atStart => exact ⟨0, pos6, [], Nat.zero_le _, rfl, rfl, hown, by intro o ho; simp at ho, how6, h6, hb6⟩
          case round =>
            clear hown h6 hb6 how6
            obtain ⟨i, pos7, ops, hi1, rfl, hl, how, hok1, hoz, hr, hbw⟩ := hrel
            have HL := hide hl
            clear hl
            have hrl := hr.lt
            have hN4 : (N : Int) ≤ 262144 := by omega
            by_cases hlt : i < N
            · have hrow : ∀ j, u17.ownBlock = some j → w.heap.size + 1 ≤ j := fun j hj => (how.lt j hj).1
              have hkeep : ∀ (wa wb : World), wa.ownsRow (w.heap.size + 1) 65 5 u17 ops.length (cellsR ops) → wa.grownBy wb (some w.heap.size) → wb.ownsRow (w.heap.size + 1) 65 5 u17 ops.length (cellsR ops) := fun wa wb h hg => h.kept hg (.inr fun e => by have := (h.lt _ e).1; omega)
              have hkeez : ∀ (wa wb : World), wa.ownsRow (w.heap.size + 1) 2 1 (.slice a2 zs.length cp2) zs.length (zs.map (Value.int .i64)) → wa.grownBy wb (some w.heap.size) → wb.ownsRow (w.heap.size + 1) 2 1 (.slice a2 zs.length cp2) zs.length (zs.map (Value.int .i64)) := fun wa wb h hg => h.kept hg (.inr fun e => by have := (h.lt _ e).1; omega)
              have HK := hide hkeep
              have HZ := hide hkeez
              have HROW := hide hrow
              clear hkeep hkeez hrow
              go_wp2_with fail
              refine (next_any hr).mono ?_
              rintro e w7 ⟨c, pos7, rfl, ca, cb, _, _, h7, hg7⟩
              have hb7 := below_grown_at hbw hbw.size hg7 (Nat.le_refl _)
              have how7 := unhide HK _ _ how hg7
              have hoz7 := unhide HZ _ _ hoz hg7
              clear hg7 hbw how hoz hr
              go_wp2_with fail
              refine (next_any h7).mono ?_
              rintro e w8 ⟨x, pos8, rfl, xa, xb, _, _, h8, hg8⟩
              have hb8 := below_grown_at hb7 hb7.size hg8 (Nat.le_refl _)
              have how8 := unhide HK _ _ how7 hg8
              have hoz8 := unhide HZ _ _ hoz7 hg8
              clear hg8 hb7 how7 hoz7 h7
              go_wp2_with fail
              refine (next_any h8).mono ?_
              rintro e w9 ⟨y, pos9, rfl, ya, yb, _, _, h9, hg9⟩
              have hb9 := below_grown_at hb8 hb8.size hg9 (Nat.le_refl _)
              have how9 := unhide HK _ _ how8 hg9
              have hoz9 := unhide HZ _ _ hoz8 hg9
              clear hg9 hb8 how8 hoz8 h8
              go_wp2_with fail
              refine (next_any h9).mono ?_
              rintro e w10 ⟨z, pos10, rfl, za, zb, _, _, h10, hg10⟩
              have hb10 := below_grown_at hb9 hb9.size hg10 (Nat.le_refl _)
              have how10 := unhide HK _ _ how9 hg10
              have hoz10 := unhide HZ _ _ hoz9 hg10
              clear hg10 hb9 how9 hoz9 h9
              go_wp2_with fail
              refine (regField_any x m xa xb (by omega) (by omega) _).mono ?_
              rintro e w11 ⟨r1, rfl, r1a, r1b, hw11⟩
              rw [hw11]
              clear hw11 w11
              go_wp2_with fail
              refine (regField_any y m ya yb (by omega) (by omega) _).mono ?_
              rintro e w11 ⟨r2, rfl, r2a, r2b, hw11⟩
              rw [hw11]
              clear hw11 w11
              go_wp2_with fail
              refine (regField_any z m za zb (by omega) (by omega) _).mono ?_
              rintro e w11 ⟨r3, rfl, r3a, r3b, hw11⟩
              rw [hw11]
              clear hw11 w11
              go_upto_block 5 with fail
              have hW0 : Below w10.heap.size w10 (w10.alloc (.cells #[.int .i64 (c % 12), .int .i64 r1, .int .i64 r2, .int .i64 r3, .int .i64 z] 65)) := (Below.refl _ _).alloc (Nat.le_refl _) _
              have B0 : (w10.alloc (.cells #[.int .i64 (c % 12), .int .i64 r1, .int .i64 r2, .int .i64 r3, .int .i64 z] 65)).heap[w10.heap.size]? = some (.cells #[.int .i64 (c % 12), .int .i64 r1, .int .i64 r2, .int .i64 r3, .int .i64 z] 65 (0, 0)) := heap_alloc_new w10 _
              generalize hWW : World.alloc w10 _ = W at hW0 B0 ⊢
              clear hWW
              have hWs : w10.heap.size < W.heap.size := blk_lt B0
              have HRD := hide h10
              have HOW := hide how10
              have HOZ := hide hoz10
              have HB10 := hide hb10
              clear h10 how10 hoz10 hb10
              go_cut [24] from 100 to 163 (fun bv wc => bv = .pointer (some ⟨w10.heap.size, 0, none⟩) ∧ ∃ kk : Int, I64 kk ∧ wc.heap[w10.heap.size]? = some (.cells #[.int .i64 (c % 12), .int .i64 r1, .int .i64 r2, .int .i64 r3, .int .i64 kk] 65 (0, 0)) ∧ Below w10.heap.size w10 wc)
              case first =>
                have f4 : W.frozen? ⟨w10.heap.size, 4, none⟩ = false := blk_free B0 4
                have o4 : W.cell? ⟨w10.heap.size, 4, none⟩ = some (.int .i64 z) := blk_cell B0 4 rfl
                have hset : ∀ kk : Int, I64 kk → ∃ kk2 : Int, I64 kk2 ∧ (W.setCell ⟨w10.heap.size, 4, none⟩ (.int .i64 kk)).heap[w10.heap.size]? = some (.cells #[.int .i64 (c % 12), .int .i64 r1, .int .i64 r2, .int .i64 r3, .int .i64 kk2] 65 (0, 0)) ∧ Below w10.heap.size w10 (W.setCell ⟨w10.heap.size, 4, none⟩ (.int .i64 kk)) := fun kk h =>
                  ⟨kk, h, by rw [heap_setCell_same W w10.heap.size 4 _ 65 _ B0]; simp, hW0.setCell (Nat.le_refl _) _⟩
                have HSET := hide hset
                clear hset
                have hnil : ∃ kk2 : Int, I64 kk2 ∧ W.heap[w10.heap.size]? = some (.cells #[.int .i64 (c % 12), .int .i64 r1, .int .i64 r2, .int .i64 r3, .int .i64 kk2] 65 (0, 0)) ∧ Below w10.heap.size w10 W := ⟨z, i64s z (by omega) (by omega), B0, hW0⟩
                have HNIL := hide hnil
                clear hnil B0 hW0
                by_cases d0 : c % 12 = 0
                · have d0b : (c % 12 == 0) = true := by rw [beq_iff_eq]; omega
                  clear d0
                  by_cases x0 : x % 2 = 0
                  · have x0b : (x % 2 == 0) = true := by rw [beq_iff_eq]; omega
                    clear x0
                    go_wp2
                    go_meet
                    case rel => exact ⟨rfl, unhide HSET _ (by first | exact I64_wrap _ | exact i64s _ (by omega) (by omega))⟩
                  · have x0b : (x % 2 == 0) = false := by rw [beq_eq_false_iff_ne]; omega
                    clear x0
                    go_wp2
                    go_meet
                    case rel => exact ⟨rfl, unhide HSET _ (by first | exact I64_wrap _ | exact i64s _ (by omega) (by omega))⟩
                have d0b : (c % 12 == 0) = false := by rw [beq_eq_false_iff_ne]; omega
                by_cases d1 : c % 12 = 1
                · have d1b : (c % 12 == 1) = true := by rw [beq_iff_eq]; omega
                  clear d0 d1
                  go_wp2
                  go_meet
                  case rel => exact ⟨rfl, unhide HSET _ (by first | exact I64_wrap _ | exact i64s _ (by omega) (by omega))⟩
                have d1b : (c % 12 == 1) = false := by rw [beq_eq_false_iff_ne]; omega
                have hN5 : (0 : Int) < (N : Int) + 2 := by omega
                have hmd : I64 (z % ((N : Int) + 2)) := i64_mod za hN5 (by omega)
                have HMD := hide hmd
                clear hmd
                by_cases d8 : c % 12 = 8
                · have d8b : (c % 12 == 8) = true := by rw [beq_iff_eq]; omega
                  clear d0 d1 d8
                  go_wp2
                  go_meet
                  case rel => exact ⟨rfl, unhide HSET _ (unhide HMD)⟩
                have d8b : (c % 12 == 8) = false := by rw [beq_eq_false_iff_ne]; omega
                by_cases d9 : c % 12 = 9
                · have d9b : (c % 12 == 9) = true := by rw [beq_iff_eq]; omega
                  clear d0 d1 d8 d9
                  go_wp2
                  go_meet
                  case rel => exact ⟨rfl, unhide HSET _ (unhide HMD)⟩
                have d9b : (c % 12 == 9) = false := by rw [beq_eq_false_iff_ne]; omega
                clear d0 d1 d8 d9
                go_wp2
                go_meet
                case rel => exact ⟨rfl, unhide HNIL⟩
              case rest =>
                obtain ⟨rfl, kk, hkk, hB, hbc⟩ := hcut
                have b0 := blk_cell hB 0 rfl
                have b1 := blk_cell hB 1 rfl
                have b2 := blk_cell hB 2 rfl
                have b3 := blk_cell hB 3 rfl
                have b4 := blk_cell hB 4 rfl
                have h11 := (unhide HRD).below hbc
                have how11 := own_below' (unhide HOW) hbc
                have hoz11 := own_below' (unhide HOZ) hbc
                have hb11 : Below w.heap.size w wc := (unhide HB10).trans (hbc.mono (unhide HB10).size)
                have hrl11 := h11.lt
                clear HRD HOW HOZ HB10 hB hbc B0 hW0 hWs
                generalize w10.heap.size = bx at *
                go_wp2_with (at_builtin; refine wpList_append_own _ rfl (.tmp 160) (.tmp 162) 29 rfl (w.heap.size + 1) 65 j0 _ 5 40 Yabv.underlying29 ji jz0 jz1 jz2 rfl (by decide) _ _ _ rfl (how11.alloc _) ⟨wc.heap.size, 0, none⟩ 1 1 _ (by rfl) (by rfl) (cells_new wc [.int .i64 (c % 12), .int .i64 r1, .int .i64 r2, .int .i64 r3, .int .i64 kk] 65) (ints5_one _ _ _ _ _) (by have := unhide HL; unfold maxLen; omega) (by have := unhide HL; omega) (by simp; omega) ?_)
                intro v12 w12 how12 hg12 _
                have hrow := unhide HROW
                have h12 : Rd w12 w.heap.size a n cap pos10 := (h11.grown (World.grownBy_alloc wc _ none) (by simp) (by simp)).grown hg12 (fun e => by have := hrow _ e.symm; omega) (fun hn bb off ha e => by have := hrow _ e.symm; have := unhide HIB hn bb off ha; omega)
                have hb12 : Below w.heap.size w w12 := (hb11.alloc hb11.size _).grown hg12 (by simp; omega) (fun j hj => by have := hrow j hj; omega)
                have hoz12 := (hoz11.alloc (.cells #[.int .i64 (c % 12), .int .i64 r1, .int .i64 r2, .int .i64 r3, .int .i64 kk] 65)).kept hg12 (own_disj hoz11 how11 (by decide))
                have hok12 : OkR (ops ++ [⟨c % 12, r1, r2, r3, kk⟩]) := hok1.snoc ⟨i64s (c % 12) (by omega) (by omega), i64s r1 (by omega) (by omega), i64s r2 (by omega) (by omega), i64s r3 (by omega) (by omega), hkk⟩
                have how13 : w12.ownsRow (w.heap.size + 1) 65 5 v12 (ops.length + 1) (cellsR (ops ++ [⟨c % 12, r1, r2, r3, kk⟩])) := by rw [← cellsR_snoc]; exact how12
                clear hg12 how11 hoz11 h11 hb11 hrow how12
                go_wp2
                go_roundw
                case rel => exact ⟨i + 1, pos10, _, by omega, by go_num, by rw [List.length_append, unhide HL]; rfl, by simpa using how13, hok12, hoz12, h12, hb12⟩
                case measure => simp [intOf]; omega
            · obtain ⟨a7, cp7, hv⟩ := own_form how
              rw [hv] at how ⊢
              clear hv
              have hl7 : ops.length ≤ 262144 := by have := unhide HL; omega
              as_aux_lemma =>
                go_wp2
                go_ret3
                exact ⟨a7, cp7, ops, m, a2, cp2, zs, rfl, own_base how (by omega), hok1, by omega, hm0, hm1, own_base hoz (by omega), hok, hzl, hbw⟩
end Go.Proofs.Yahabw
