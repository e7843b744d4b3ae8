import Derived.Test.YahabwMaxD
import Derived.Test.YahabwDecode2
import Derived.Deep.DeepCutAuto
import Derived.Deep.CutBlock
set_option linter.unusedVariables false
set_option linter.unusedSimpArgs false
namespace Go.Proofs.Yahabw
open Go.RowKit

theorem store5 {w : World} {base e g n cap : Nat} {xs : List Value} (h : w.ownsRow base e 5 (.slice (some ⟨g, 0, none⟩) n cap) n xs) (j0 j1 j2 j3 j4 : Nat) (v0 v1 v2 v3 v4 : Value) :
    ∃ ys, (((((w.setCell ⟨g, j0, none⟩ v0).setCell ⟨g, j1, none⟩ v1).setCell ⟨g, j2, none⟩ v2).setCell ⟨g, j3, none⟩ v3).setCell ⟨g, j4, none⟩ v4).ownsRow base e 5 (.slice (some ⟨g, 0, none⟩) n cap) n ys :=
  ⟨_, (((((h.stored j0 v0).1.stored j1 v1).1.stored j2 v2).1.stored j3 v3).1.stored j4 v4).1⟩

theorem below5 {w wr : World} {B g : Nat} (h : Below B w wr) (hg : B ≤ g) (j0 j1 j2 j3 j4 : Nat) (v0 v1 v2 v3 v4 : Value) :
    Below B w (((((wr.setCell ⟨g, j0, none⟩ v0).setCell ⟨g, j1, none⟩ v1).setCell ⟨g, j2, none⟩ v2).setCell ⟨g, j3, none⟩ v3).setCell ⟨g, j4, none⟩ v4) :=
  ((((h.setCell hg _).setCell hg _).setCell hg _).setCell hg _).setCell hg _

theorem own5 {w : World} {base e size g n : Nat} {v : Value} {xs : List Value} (h : w.ownsRow base e size v n xs) (hne : v.ownBlock ≠ some g) (j0 j1 j2 j3 j4 : Nat) (v0 v1 v2 v3 v4 : Value) :
    (((((w.setCell ⟨g, j0, none⟩ v0).setCell ⟨g, j1, none⟩ v1).setCell ⟨g, j2, none⟩ v2).setCell ⟨g, j3, none⟩ v3).setCell ⟨g, j4, none⟩ v4).ownsRow base e size v n xs :=
  own_setCell (own_setCell (own_setCell (own_setCell (own_setCell h _ _ _ hne) _ _ _ hne) _ _ _ hne) _ _ _ hne) _ _ _ hne

/-- What 'Translate' hands back, as far as it is asked. -/
def ITrPost (p : List (Int × Int)) (w : World) (e : Ending) (w' : World) : Prop :=
  (∃ (a : Option Addr) (c : Nat) (m : Int), e = .returned (.tuple #[.slice a (p.length + 1) c, .int .i64 m, .bool true]) ∧ IsMD p m true ∧ Below w.heap.size w w') ∨
  (e = .returned (.tuple #[.slice none 0 0, .int .i64 0, .bool false]) ∧ IsMD p 0 false ∧ Below w.heap.size w w')

set_option maxRecDepth 100000 in
set_option maxHeartbeats 4000000 in
theorem implTr_any (a : Option Addr) (cap : Nat) (p : List (Int × Int)) (w : World) (hp : w.ownsRow 0 60 2 (.slice a p.length cap) p.length (cellsS p)) (hlen : p.length ≤ 1000000000) :
    Calls Yabv.prog 6 #[.slice a p.length cap] w (ITrPost p w) := by
  obtain ⟨i0, hi, hz0, hz1, hz2⟩ := info_parts Yabv.info65
  go_enter Yabv.func6, Yabv.ntmps6
  go_wp2_with fail
  refine (implDep_any a cap p w hp hlen).mono ?_
  rintro e w1 (⟨a1, c1, dep, m, rfl, hMD, hD, hdl, hrg, hsm, hm1, hb⟩ | ⟨rfl, hm, hb⟩)
  · obtain ⟨g1, rfl⟩ := own_some hD (by omega)
    have HDL := hide hdl
    have HRG := hide hrg
    have HMD := hide hMD
    clear hdl hrg hMD
    have hg1l : g1 < w1.heap.size := (hD.lt g1 rfl).2
    have hws := hb.size
    go_wp2_with (at_make; refine wpList_make_full _ rfl _ _ 29 rfl w1.heap.size 65 i0 _ 5 Yabv.underlying29 hi hz0 hz1 _ _ _ _ (p.length + 1) (by rfl) (by rfl) (by omega) (by omega) (by rw [hz2]; omega) (by unfold maxLen; omega) (Nat.le_refl _) ?_)
    intro w2 hown2 hgr2
    have hb2 : Below w.heap.size w w2 := hb.grown hgr2 hb.size (by simp)
    have hD2 := hD.kept hgr2 (.inr (by simp [Value.ownBlock]))
    clear hgr2 hb hD
    generalize w1.heap.size = gb at *
    go_wp2_with fail
    go_loopg [10] p.length (fun gk iv wx => ∃ (k : Nat) (xs : List Value), k ≤ p.length ∧ gk = p.length - k ∧ iv = .int .i64 (k : Int) ∧ wx.ownsRow gb 65 5 (.slice (some ⟨gb, 0, none⟩) (p.length + 1) (p.length + 1)) (p.length + 1) xs ∧
        wx.ownsRow w.heap.size 3 1 (.slice (some ⟨g1, 0, none⟩) (p.length + 1) c1) (p.length + 1) (ints dep) ∧ Below w.heap.size w wx)
    case atStart => exact ⟨0, _, Nat.zero_le _, rfl, rfl, hown2, hD2, hb2⟩
    case round =>
      clear hown2 hD2 hb2
      obtain ⟨k, xs, hk, hgk, rfl, how, hD, hbw⟩ := hrel
      have HGK := hide hgk
      clear hgk
      have hgbl : gb < wr.heap.size := (how.lt gb rfl).2
      have hg1w : g1 < wr.heap.size := (hD.lt g1 rfl).2
      have hxl : xs.length = (p.length + 1) * 5 := how.1
      have HXL := hide hxl
      clear hxl
      by_cases hlt : k < p.length
      · obtain ⟨d, hd⟩ : ∃ x, dep[k]? = some x := ⟨_, List.getElem?_eq_getElem (by rw [unhide HDL]; omega)⟩
        have cd := ownI_cell? hD hd
        obtain ⟨hd1, hd2⟩ := unhide HRG d (List.mem_of_getElem? hd)
        clear hd
        have l1 : (k : Int) < (p.length : Int) + 1 := by omega
        have l2 : (k : Int) < (p.length : Int) := by omega
        have f0 := how.frozenAt (k * 5)
        obtain ⟨u00, e0⟩ := own_old how (k * 5) (by rw [unhide HXL]; omega)
        have f1 := how.frozenAt (k * 5 + 1)
        obtain ⟨u01, e1⟩ := own_old how (k * 5 + 1) (by rw [unhide HXL]; omega)
        have f2 := how.frozenAt (k * 5 + 2)
        obtain ⟨u02, e2⟩ := own_old how (k * 5 + 2) (by rw [unhide HXL]; omega)
        have f3 := how.frozenAt (k * 5 + 3)
        obtain ⟨u03, e3⟩ := own_old how (k * 5 + 3) (by rw [unhide HXL]; omega)
        have f4 := how.frozenAt (k * 5 + 4)
        obtain ⟨u04, e4⟩ := own_old how (k * 5 + 4) (by rw [unhide HXL]; omega)
        by_cases hd0 : d < 0
        · go_wp2
          go_roundg (p.length - (k + 1))
          case measure => have := unhide HGK; omega
          case rel =>
            obtain ⟨ys, hys⟩ := store5 how (k * 5) (k * 5 + 1) (k * 5 + 2) (k * 5 + 3) (k * 5 + 4) (.int .i64 7) (.int .i64 0) (.int .i64 0) (.int .i64 0) (.int .i64 0)
            exact ⟨k + 1, ys, by omega, rfl, by go_num, hys, own5 hD (by simp [Value.ownBlock]; omega) _ _ _ _ _ _ _ _ _ _, below5 hbw (by omega) _ _ _ _ _ _ _ _ _ _⟩
        · have hd0b : decide (d < 0) = false := by simpa using hd0
          obtain ⟨gp, rfl⟩ := own_some hp (by omega)
          obtain ⟨c0, cc1⟩ := ownS_cell (own_below' hp hbw) k hlt
          have hgp : gp < wr.heap.size := ((own_below' hp hbw).lt gp rfl).2
          generalize p[k] = op at *
          obtain ⟨c, x⟩ := op
          simp only at c0 cc1
          go_upto_block 2 with fail
          go_cut [] from 27 to 126 (fun wc => ∃ r0 r1 r2 r3 r4 : Int, wc = wr.alloc (.cells #[.int .i64 r0, .int .i64 r1, .int .i64 r2, .int .i64 r3, .int .i64 r4] 65))
          case first =>
            clear how hD hbw HGK HXL hp hlen hk cd e0 e1 e2 e3 e4 f0 f1 f2 f3 f4
            have hc : c = 0 ∨ c = 1 ∨ c = 2 ∨ c = 3 ∨ c = 4 ∨ c = 5 ∨ c = 6 ∨ c = 7 ∨ c = 8 ∨ c = 9 ∨ c = 10 ∨ c < 0 ∨ 10 < c := by omega
            rcases hc with rfl | rfl | rfl | rfl | rfl | rfl | rfl | rfl | rfl | rfl | rfl | hc | hc
            all_goals
              go_wp2
              go_meet
              case rel => exact ⟨_, _, _, _, _, rfl⟩
          case rest =>
            obtain ⟨r0, r1, r2, r3, r4, rfl⟩ := hcut
            clear c0 cc1 cd hd0 hd0b
            have hne : ¬ wr.heap.size = gb := by omega
            go_wp2
            go_roundg (p.length - (k + 1))
            case measure => have := unhide HGK; omega
            case rel =>
              obtain ⟨ys, hys⟩ := store5 how (k * 5) (k * 5 + 1) (k * 5 + 2) (k * 5 + 3) (k * 5 + 4) (.int .i64 r0) (.int .i64 r1) (.int .i64 r2) (.int .i64 r3) (.int .i64 r4)
              exact ⟨k + 1, ys, by omega, rfl, by go_num, hys.alloc _, (own5 hD (by simp [Value.ownBlock]; omega) _ _ _ _ _ _ _ _ _ _).alloc _, (below5 hbw (by omega) _ _ _ _ _ _ _ _ _ _).alloc (by simp; omega) _⟩
      · obtain ⟨d, hd⟩ : ∃ x, dep[p.length]? = some x := ⟨_, List.getElem?_eq_getElem (by rw [unhide HDL]; omega)⟩
        have cd := ownI_cell? hD hd
        obtain ⟨hd1, hd2⟩ := unhide HRG d (List.mem_of_getElem? hd)
        clear hd
        have f0 := how.frozenAt (p.length * 5)
        obtain ⟨u00, e0⟩ := own_old how (p.length * 5) (by rw [unhide HXL]; omega)
        have f1 := how.frozenAt (p.length * 5 + 1)
        obtain ⟨u01, e1⟩ := own_old how (p.length * 5 + 1) (by rw [unhide HXL]; omega)
        have f2 := how.frozenAt (p.length * 5 + 2)
        obtain ⟨u02, e2⟩ := own_old how (p.length * 5 + 2) (by rw [unhide HXL]; omega)
        have f3 := how.frozenAt (p.length * 5 + 3)
        obtain ⟨u03, e3⟩ := own_old how (p.length * 5 + 3) (by rw [unhide HXL]; omega)
        have f4 := how.frozenAt (p.length * 5 + 4)
        obtain ⟨u04, e4⟩ := own_old how (p.length * 5 + 4) (by rw [unhide HXL]; omega)
        by_cases hd0 : 0 ≤ d
        · go_wp2
          go_ret3
          exact .inl ⟨_, _, m, rfl, unhide HMD, below5 hbw (by omega) _ _ _ _ _ _ _ _ _ _⟩
        · have hd0b : decide (0 ≤ d) = false := by simpa using hd0
          go_wp2
          go_ret3
          exact .inl ⟨_, _, m, rfl, unhide HMD, below5 hbw (by omega) _ _ _ _ _ _ _ _ _ _⟩
  · go_wp2
    go_ret3
    exact .inr ⟨rfl, hm, hb⟩
end Go.Proofs.Yahabw
