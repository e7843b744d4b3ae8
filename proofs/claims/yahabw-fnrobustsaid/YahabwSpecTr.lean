import Derived.Test.YahabwRegFor
import Derived.Test.YahabwDecode2
import Derived.Deep.AppendLies
set_option linter.unusedVariables false
set_option linter.unusedSimpArgs false
namespace Go.Proofs.Yahabw
open Go.RowKit

theorem ints5_one (a b c d e : Int) : ∀ u ∈ [Value.int .i64 a, .int .i64 b, .int .i64 c, .int .i64 d, .int .i64 e], u.oneCell' = true := by
  intro u hu; simp at hu; rcases hu with rfl | rfl | rfl | rfl | rfl <;> rfl
theorem cellsR_snoc (ops : List R5) (o : R5) : cellsR ops ++ [.int .i64 o.op, .int .i64 o.r, .int .i64 o.a, .int .i64 o.b, .int .i64 o.k] = cellsR (ops ++ [o]) := by simp [cellsR, cellR]
def OkR (p : List R5) : Prop := ∀ o ∈ p, Ok5 o
theorem OkR.snoc {p : List R5} (h : OkR p) {o : R5} (ho : Ok5 o) : OkR (p ++ [o]) := by
  intro x hx
  rcases List.mem_append.1 hx with h' | h'
  · exact h x h'
  · simp at h'; subst h'; exact ho

/-- What the model's 'Translate' hands back. -/
def TrPost (p : List (Int × Int)) (w : World) (e : Ending) (w' : World) : Prop :=
  (∃ (a : Option Addr) (c : Nat) (ops : List R5) (m : Int), e = .returned (.tuple #[.slice a ops.length c, .int .i64 m, .bool true]) ∧ w'.ownsRow w.heap.size 65 5 (.slice a ops.length c) ops.length (cellsR ops) ∧ OkR ops ∧ ops.length ≤ 65537 ∧ 0 ≤ m ∧ m ≤ 65536 ∧ Below w.heap.size w w') ∨
  (e = .returned (.tuple #[.slice none 0 0, .int .i64 0, .bool false]) ∧ Below w.heap.size w w')

theorem keepA {w : World} {b o : Nat} {v : Value} (h : w.cell? ⟨b, o, none⟩ = some v) (hb : b < w.heap.size) (x : Obj) : (w.alloc x).cell? ⟨b, o, none⟩ = some v := keepc ((Below.refl _ _).alloc (Nat.le_refl _) x) h hb

set_option maxRecDepth 100000 in
set_option maxHeartbeats 4000000 in
theorem specTr_any (a : Option Addr) (cap : Nat) (p : List (Int × Int)) (w : World) (hp : w.ownsRow 0 60 2 (.slice a p.length cap) p.length (cellsS p)) (hok : OkS p) (hlen : p.length ≤ 1000000000) :
    Calls Yabv.prog 24 #[.slice a p.length cap] w (TrPost p w) := by
  obtain ⟨i0, hi, hz0, hz1, hz2⟩ := info_parts Yabv.info65
  go_enter Yabv.func24, Yabv.ntmps24
  go_wp2_with fail
  refine (specDep_any a cap p w hp hlen).mono ?_
  rintro e w1 (⟨a1, c1, dep, rfl, hg, hD, hb⟩ | ⟨rfl, hm, hb⟩)
  · have hsm := hg.small
    obtain ⟨g1, rfl⟩ := own_some hD (by omega)
    have hdl := hg.base.len
    have hrg := hg.base.range hsm
    have HDL := hide hdl
    have HRG := hide hrg
    clear hdl hrg hg
    go_wp2_with fail
    go_loopw [8, 25] (fun mv kv wr => ∃ (m : Int) (k : Nat), mv = .int .i64 m ∧ kv = .int .i64 (k : Int) ∧ k ≤ p.length + 1 ∧ wr = w1 ∧ 0 ≤ m ∧ m ≤ 65536)
      (fun _ kv _ => p.length + 1 - (intOf kv).toNat)
    case atStart => exact ⟨0, 0, rfl, rfl, Nat.zero_le _, rfl, by omega, by omega⟩
    case round =>
      obtain ⟨m, k, rfl, rfl, hk, rfl, hm0, hm1⟩ := hrel
      by_cases hlt : k < p.length + 1
      · obtain ⟨x, hx⟩ : ∃ x, dep[k]? = some x := ⟨_, List.getElem?_eq_getElem (by rw [unhide HDL]; exact hlt)⟩
        have cx := ownI_cell? hD hx
        obtain ⟨hx1, hx2⟩ := unhide HRG x (List.mem_of_getElem? hx)
        clear hx
        have l1 : (k : Int) < (p.length : Int) + 1 := by omega
        by_cases hxm : m < x
        · go_wp2
          go_roundw
          case rel => exact ⟨x, k + 1, rfl, by go_num, by omega, trivial, by omega, by omega⟩
          case measure => simp [intOf]; omega
        · go_wp2
          go_roundw
          case rel => exact ⟨m, k + 1, rfl, by go_num, by omega, trivial, by omega, by omega⟩
          case measure => simp [intOf]; omega
      · have hz1s : w.heap.size ≤ wr.heap.size := hb.size
        go_wp2_with (at_make; refine wpList_make_own _ rfl _ _ 29 rfl wr.heap.size 65 i0 _ 5 Yabv.underlying29 hi hz0 hz1 _ _ _ (p.length + 1) (by rfl) (by rfl) (by omega) (by rw [hz2]; omega) (by unfold maxLen; omega) (Nat.le_refl _) ?_)
        intro w2 hown2 hgr2
        have hb2 : Below w.heap.size w w2 := hb.grown hgr2 hb.size (by simp)
        have hD2 := hD.kept hgr2 (.inr (by simp [Value.ownBlock]))
        have hg1l : g1 < wr.heap.size := (hD.lt g1 rfl).2
        have hbb2 := hgr2.size
        clear hgr2 hb hD
        generalize wr.heap.size = bb at *
        go_wp2_with fail
        go_loopw [11, 12] (fun v iv wx => ∃ (k : Nat) (ops : List R5), k ≤ p.length ∧ iv = .int .i64 (k : Int) ∧ ops.length = k ∧ wx.ownsRow bb 65 5 v ops.length (cellsR ops) ∧ OkR ops ∧
            wx.ownsRow w.heap.size 3 1 (.slice (some ⟨g1, 0, none⟩) (p.length + 1) c1) (p.length + 1) (ints dep) ∧ Below w.heap.size w wx ∧ bb ≤ wx.heap.size)
          (fun _ iv _ => p.length - (intOf iv).toNat)
        case atStart => exact ⟨0, [], Nat.zero_le _, rfl, rfl, hown2, by intro o ho; simp at ho, hD2, hb2, hbb2⟩
        case round =>
          clear hown2 hD2 hb2 hbb2
          obtain ⟨k, ops, hk, rfl, hl, how, hokr, hD, hbw, hszb⟩ := hrel
          have HL := hide hl
          clear hl
          by_cases hlt : k < p.length
          · obtain ⟨gp, rfl⟩ := own_some hp (by omega)
            obtain ⟨c0, cc1⟩ := ownS_cell (own_below' hp hbw) k hlt
            have hgp : gp < wr.heap.size := ((own_below' hp hbw).lt gp rfl).2
            have hg1w : g1 < wr.heap.size := (hD.lt g1 rfl).2
            obtain ⟨d, hd⟩ : ∃ x, dep[k]? = some x := ⟨_, List.getElem?_eq_getElem (by rw [unhide HDL]; omega)⟩
            have cd := ownI_cell? hD hd
            obtain ⟨hd1, hd2⟩ := unhide HRG d (List.mem_of_getElem? hd)
            have hxk := (hok p[k] (List.getElem_mem hlt)).2
            clear hd
            generalize p[k] = op at *
            obtain ⟨c, x⟩ := op
            simp only at c0 cc1 hxk
            have l1 : (k : Int) < (p.length : Int) + 1 := by omega
            have l2 : (k : Int) < (p.length : Int) := by omega
            have hgpb : gp < w.heap.size := (hp.lt gp rfl).2
            have hrowA : u11.ownBlock ≠ some gp := fun e => by have := (how.lt _ e).1; omega
            have hrowB : u11.ownBlock ≠ some g1 := fun e => by have := (how.lt _ e).1; omega
            go_wp2
            go_region_held3 (fun w' => w'.cell? ⟨gp, k * 2, none⟩ = some (.int .i64 c) ∧ w'.cell? ⟨gp, k * 2 + 1, none⟩ = some (.int .i64 x) ∧ w'.cell? ⟨g1, k, none⟩ = some (.int .i64 d)) (first | assumption | exact hS4 _ | exact hS5 | (simp [go_sem, *]; done))
              (first | (go_at_call 45; refine (regFor_any c x d _ (by omega) hxk).mono ?_; rintro e w3 ⟨o, rfl, hoo, hb3⟩; have how3 := own_below' (World.ownsRow.drew how) hb3; have hS3 := And.intro (keepc hb3 c0 hgp) (And.intro (keepc hb3 cc1 hgp) (keepc hb3 cd hg1w)); have hgp3 := Nat.lt_of_lt_of_le hgp hb3.size; have hg13 := Nat.lt_of_lt_of_le hg1w hb3.size; have hS4 := fun ob => And.intro (keepA hS3.1 hgp3 ob) (And.intro (keepA hS3.2.1 hgp3 ob) (keepA hS3.2.2 hg13 ob))) | (refine step_append_lies _ (by rfl) (.tmp 42) (.tmp 52) 29 (by rfl) bb 65 i0 _ 5 40 Yabv.underlying29 hi hz0 hz1 hz2 rfl (by decide) _ _ _ (by rfl) (how3.alloc _) ⟨w3.heap.size, 0, none⟩ 1 1 _ (by rfl) (by rfl) (cells_new _ _ _) (ints5_one _ _ _ _ _) (by decide) (by have := unhide HL; unfold maxLen; omega) (by have := unhide HL; omega) (by have := hb3.size; simp at this ⊢; omega) (w3.heap.size + 1) (by simp) ?_; intro g4 cp4 w4 how4 hg4 hor4 hlt4; have hS5 := And.intro ((hg4.cell_far ⟨gp, k * 2, none⟩ (by simp; omega) (fun e => hrowA e.symm)).trans (hS4 _).1) (And.intro ((hg4.cell_far ⟨gp, k * 2 + 1, none⟩ (by simp; omega) (fun e => hrowA e.symm)).trans (hS4 _).2.1) ((hg4.cell_far ⟨g1, k, none⟩ (by simp; omega) (fun e => hrowB e.symm)).trans (hS4 _).2.2))))
            have hb4 : Below w.heap.size w w4 := ((hbw.drew.trans (hb3.mono hbw.size)).alloc (Nat.le_trans hbw.size hb3.size) _).grown hg4 (by have := hbw.size; have := hb3.size; simp at this ⊢; omega) (fun j hj => by have := (how.lt j hj).1; omega)
            have hD4 := ((own_below' (World.ownsRow.drew hD) hb3).alloc (.cells #[.int .i64 o.op, .int .i64 o.r, .int .i64 o.a, .int .i64 o.b, .int .i64 o.k] 65)).kept hg4 (.inr (by simpa [Value.ownBlock] using hrowB.symm))
            have hsz4 : bb ≤ w4.heap.size := by have := hb3.size; have := hg4.size; simp at *; omega
            rw [cellsR_snoc] at how4
            clear hg4 hS5 hS4 hS3 how3 hb3 hor4
            go_wp2
            go_roundw
            case rel => first | exact ⟨k + 1, ops ++ [o], by omega, by go_num, by rw [List.length_append, unhide HL]; rfl, by simpa using how4, hokr.snoc hoo, hD4, hb4, hsz4⟩ | ((repeat apply Exists.intro); exact ⟨⟨k + 1, ops ++ [o], by omega, by go_num, by rw [List.length_append, unhide HL]; rfl, by simpa using how4, hokr.snoc hoo, hD4, hb4, hsz4⟩, rfl⟩)
            case measure => simp [intOf]; omega
          · obtain ⟨d, hd⟩ : ∃ x, dep[p.length]? = some x := ⟨_, List.getElem?_eq_getElem (by rw [unhide HDL]; omega)⟩
            have cd := ownI_cell? hD hd
            obtain ⟨hd1, hd2⟩ := unhide HRG d (List.mem_of_getElem? hd)
            have hg1w : g1 < wr.heap.size := (hD.lt g1 rfl).2
            have hne1 : ¬ wr.heap.size = g1 := by omega
            have hrow : ∀ j, u11.ownBlock = some j → bb ≤ j := fun j hj => (how.lt j hj).1
            have hbwz := hbw.size
            clear hd
            have fin : ∀ (o : R5) (x1 : Obj) (v9 : Value) (w9 : World), Ok5 o → w9.ownsRow bb 65 5 v9 (ops.length + 1) (cellsR ops ++ [.int .i64 o.op, .int .i64 o.r, .int .i64 o.a, .int .i64 o.b, .int .i64 o.k]) → ((wr.alloc x1).alloc (.cells #[.int .i64 o.op, .int .i64 o.r, .int .i64 o.a, .int .i64 o.b, .int .i64 o.k] 65)).grownBy w9 u11.ownBlock → TrPost p w (.returned (.tuple #[v9, .int .i64 m, .bool true])) w9 := by
              intro o x1 v9 w9 hoo how9 hg9
              rw [cellsR_snoc] at how9
              obtain ⟨a9, c9, rfl⟩ := own_form how9
              have e : ops.length + 1 = (ops ++ [o]).length := by simp
              rw [e] at how9 ⊢
              refine .inl ⟨a9, c9, ops ++ [o], m, rfl, own_base how9 hz1s, hokr.snoc hoo, by have := unhide HL; rw [List.length_append]; simp; omega, hm0, hm1, ?_⟩
              exact ((hbw.alloc hbwz _).alloc (by simp; omega) _).grown hg9 (by simp; omega) (fun j hj => by have := hrow j hj; omega)
            have HF := hide fin
            clear fin
            by_cases hd0 : 0 ≤ d
            · go_wp2_with (at_builtin; refine wpList_append_own _ rfl (.tmp 65) (.tmp 67) 29 rfl bb 65 i0 _ 5 40 Yabv.underlying29 hi hz0 hz1 hz2 rfl (by decide) _ _ _ (by rfl) ((how.alloc _).alloc _) ⟨wr.heap.size + 1, 0, none⟩ 1 1 _ (by rfl) (by rfl) (by have := cells_new (wr.alloc (.cells #[.int .i64 10, .int .i64 0, .int .i64 d, .int .i64 0, .int .i64 0] 65)) [.int .i64 10, .int .i64 0, .int .i64 d, .int .i64 0, .int .i64 0] 65; simpa using this) (ints5_one _ _ _ _ _) (by have := unhide HL; unfold maxLen; omega) (by have := unhide HL; omega) (by simp; omega) ?_)
              intro v9 w9 how9 hg9 _
              go_wp2
              go_ret3
              exact unhide HF ⟨10, 0, d, 0, 0⟩ _ v9 w9 (ok5s _ _ _ _ _ (by omega) (by omega) (by omega) (by omega) z64) how9 hg9
            · have hd0b : decide (0 ≤ d) = false := by simpa using hd0
              go_wp2_with (at_builtin; refine wpList_append_own _ rfl (.tmp 65) (.tmp 67) 29 rfl bb 65 i0 _ 5 40 Yabv.underlying29 hi hz0 hz1 hz2 rfl (by decide) _ _ _ (by rfl) ((how.alloc _).alloc _) ⟨wr.heap.size + 1, 0, none⟩ 1 1 _ (by rfl) (by rfl) (by have := cells_new (wr.alloc (.cells #[.int .i64 10, .int .i64 0, .int .i64 0, .int .i64 0, .int .i64 0] 65)) [.int .i64 10, .int .i64 0, .int .i64 0, .int .i64 0, .int .i64 0] 65; simpa using this) (ints5_one _ _ _ _ _) (by have := unhide HL; unfold maxLen; omega) (by have := unhide HL; omega) (by simp; omega) ?_)
              intro v9 w9 how9 hg9 _
              go_wp2
              go_ret3
              exact unhide HF ⟨10, 0, 0, 0, 0⟩ _ v9 w9 (ok5s _ _ _ _ _ (by omega) (by omega) (by omega) (by omega) z64) how9 hg9
  · go_wp2
    go_ret3
    exact .inr ⟨rfl, hb⟩
end Go.Proofs.Yahabw
