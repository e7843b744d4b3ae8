import Derived.Test.YahabwGen1
set_option linter.unusedVariables false
set_option linter.unusedSimpArgs false
namespace Go.Proofs.Yahabw
open Go.RowKit

set_option maxHeartbeats 1000000 in
theorem spatch {w : World} {rb gb base n cap pos m : Nat} {a : Option Addr} (h : St w rb gb base a n cap pos m) (hm : m ≤ 1000000000) (at_ : Nat) (hat : at_ < m) (x : Int) (hx : I64 x) :
    Calls Yabv.prog 70 #[.pointer (some ⟨gb, 0, none⟩), .int .i64 (at_ : Int), .int .i64 x] w fun e w' => e = .returned (.tuple #[]) ∧ St w' rb gb base a n cap pos m ∧ Fr base rb gb w w' := by
  obtain ⟨v, ops, hv, hl, hown, hok⟩ := h.gn
  obtain ⟨a2, cap2, rfl⟩ := own_form hown
  obtain ⟨g, rfl⟩ := own_some hown (by omega)
  have q0 : w.cell? ⟨gb, 0, none⟩ = some (.slice (some ⟨g, 0, none⟩) m cap2) := blk_cell hv 0 rfl
  obtain ⟨c0, c1⟩ := ownS_cell hown at_ (by omega)
  have f1 := hown.frozenAt (at_ * 2 + 1)
  have l1 : (at_ : Int) < (m : Int) := by omega
  have hgb := (hown.lt g rfl).1
  have hr := h.hr
  have hg := h.hg
  have hHb := h.hb
  have hst := hown.stored (at_ * 2 + 1) (.int .i64 x)
  have hst' : (w.setCell ⟨g, at_ * 2 + 1, none⟩ (.int .i64 x)).ownsRow base 60 2 (.slice (some ⟨g, 0, none⟩) m cap2) m (cellsS (ops.set at_ (ops[at_].1, x))) := by
    have e : (cellsS ops).set (at_ * 2 + 1) (.int .i64 x) = cellsS (ops.set at_ (ops[at_].1, x)) := by
      rw [← cellsS_set ops at_ (by omega)]
      congr 1
      apply List.ext_getElem?
      intro k
      rw [List.getElem?_set]
      split
      · rename_i hk; subst hk
        rw [cellsS_get0 ops at_ (by omega), if_pos (by rw [cellsS_len]; omega)]
      · rfl
    rw [← e]; exact hst.1
  have HS := hide hst'
  have HG := hide hst.2
  clear hst hst'
  have HOK : Hid (∀ o ∈ ops, I64 o.1 ∧ I64 o.2) := hok
  have HL := hide hl
  clear hok
  obtain ⟨y0, hy0⟩ : ∃ y, Hid (ops[at_].2 = y) := ⟨_, hide rfl⟩
  rw [unhide hy0] at c1
  clear c0 hy0
  go_enter Yabv.func70, Yabv.ntmps70
  go_wp2
  go_end0
  have hgr := unhide HG
  refine ⟨rfl, ⟨?_, ⟨_, _, ?_, ?_, unhide HS, ?_⟩, ?_, hr, hg, h.hne, h.far⟩, Fr.of_grown hgr hHb (fun k hk => by simp at hk; omega)⟩
  · refine h.rd.keep (hgr.block rb (by omega) (by simp; omega)) (fun hn bb off hb hb2 hb3 => ?_)
    obtain ⟨h1, h2⟩ := h.far hn bb off hb
    exact hgr.block bb hb3 (by simp; omega)
  · rw [hgr.block gb (blk_lt hv) (by simp; omega)]; exact hv
  · rw [List.length_set]; exact unhide HL
  · intro o ho
    rcases List.mem_or_eq_of_mem_set ho with h' | h'
    · exact unhide HOK o h'
    · subst h'; exact ⟨(unhide HOK _ (List.getElem_mem _)).1, hx⟩
  · simp; omega

set_option maxHeartbeats 1000000 in
theorem sbalance {w : World} {rb gb base n cap pos m : Nat} {a : Option Addr} (h : St w rb gb base a n cap pos m) (fr to : Int) (hf : -500000000 ≤ fr ∧ fr ≤ 500000000) (ht : -500000000 ≤ to ∧ to ≤ 500000000) (hm : m + (fr - to).natAbs ≤ 1000000000) :
    Calls Yabv.prog 69 #[.pointer (some ⟨gb, 0, none⟩), .int .i64 fr, .int .i64 to] w fun e w' => e = .returned (.tuple #[]) ∧ St w' rb gb base a n cap pos (m + (fr - to).natAbs) ∧ Fr base rb gb w w' := by
  obtain ⟨hf1, hf2⟩ := hf
  obtain ⟨ht1, ht2⟩ := ht
  go_enter Yabv.func69, Yabv.ntmps69
  go_wp2_with fail
  go_loopw [1] (fun f wr => ∃ (x : Int) (k : Nat), f = .int .i64 x ∧ -500000000 ≤ x ∧ x ≤ 500000000 ∧ Hid (k + (x - to).natAbs = m + (fr - to).natAbs) ∧ St wr rb gb base a n cap pos k ∧ Fr base rb gb w wr)
    (fun f _ => (intOf f - to).toNat)
  case atStart => exact ⟨fr, m, rfl, hf1, hf2, rfl, h, Fr.refl _ _ _ _⟩
  case round =>
    obtain ⟨x, k, rfl, hx1, hx2, HK, hs, hfr⟩ := hrel
    have hk : k ≤ 1000000000 := by have := unhide HK; omega
    by_cases hgt : to < x
    · go_wp2_with fail
      refine (semit hs hk 7 0 ⟨by omega, by omega⟩ ⟨by omega, by omega⟩).mono ?_
      rintro e w1 ⟨rfl, hs1, hf1⟩
      go_wp2
      go_roundw
      case rel => first | exact ⟨x - 1, k + 1, rfl, by omega, by omega, by have := unhide HK; show _ = _; omega, hs1, hfr.trans hf1⟩ | ((repeat apply Exists.intro); exact ⟨⟨x - 1, k + 1, rfl, by omega, by omega, by have := unhide HK; show _ = _; omega, hs1, hfr.trans hf1⟩, rfl⟩)
      case measure => simp [intOf]; omega
    · go_wp2_with fail
      go_loopw [1] (fun f wr => ∃ (x : Int) (k : Nat), f = .int .i64 x ∧ -500000000 ≤ x ∧ x ≤ to ∧ Hid (k + (x - to).natAbs = m + (fr - to).natAbs) ∧ St wr rb gb base a n cap pos k ∧ Fr base rb gb w wr)
        (fun f _ => (to - intOf f).toNat)
      case atStart => exact ⟨x, k, rfl, hx1, by omega, HK, hs, hfr⟩
      case round =>
        rename_i wr0
        obtain ⟨x, k, rfl, hx1, hx2, HK, hs, hfr⟩ := hrel
        have hk : k ≤ 1000000000 := by have := unhide HK; omega
        by_cases hlt : x < to
        · go_wp2_with fail
          refine (semit hs hk 0 0 ⟨by omega, by omega⟩ ⟨by omega, by omega⟩).mono ?_
          rintro e w1 ⟨rfl, hs1, hf1⟩
          go_wp2
          go_roundw
          case rel => first | exact ⟨x + 1, k + 1, rfl, by omega, by omega, by have := unhide HK; show _ = _; omega, hs1, hfr.trans hf1⟩ | ((repeat apply Exists.intro); exact ⟨⟨x + 1, k + 1, rfl, by omega, by omega, by have := unhide HK; show _ = _; omega, hs1, hfr.trans hf1⟩, rfl⟩)
          case measure => simp [intOf]; omega
        · have hk2 : k = m + (fr - to).natAbs := by have := unhide HK; omega
          have HK2 := hide hk2
          clear hk2
          go_wp2
          go_end0
          exact ⟨rfl, by rw [← unhide HK2]; exact hs, hfr⟩
end Go.Proofs.Yahabw
