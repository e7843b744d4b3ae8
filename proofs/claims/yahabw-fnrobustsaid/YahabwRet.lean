import Derived.Test.YahabwRunRH
set_option linter.unusedVariables false
set_option linter.unusedSimpArgs false
namespace Go.Proofs.Yahabw
open Go.RowKit

theorem cells3 {w : World} {b : Nat} {c0 c1 c2 : Value} (B : w.heap[b]? = some (.cells #[c0, c1, c2] 34 (0, 0))) (x y z : Value) :
    (((w.setCell ⟨b, 0, none⟩ x).setCell ⟨b, 1, none⟩ y).setCell ⟨b, 2, none⟩ z).heap[b]? = some (.cells #[x, y, z] 34 (0, 0)) := by
  rw [heap_setCell_same _ b 2 _ 34 _ (heap_setCell_same _ b 1 _ 34 _ (heap_setCell_same _ b 0 _ 34 _ B))]
  simp

theorem res_box {fn : Func} (hfn : fn.results = #[ResultVar.cell 6 34]) {tm : Array Value} {w : World} {b : Nat} {x y z : Value} (h6 : tm[6]? = some (.pointer (some ⟨b, 0, none⟩)))
    (B : w.heap[b]? = some (.cells #[x, y, z] 34 (0, 0))) : (results fn tm).run Yabv.prog w = .ok (.agg #[x, y, z]) w := by
  have q0 : w.cell? ⟨b, 0, none⟩ = some x := blk_cell B 0 rfl
  have q1 : w.cell? ⟨b, 1, none⟩ = some y := blk_cell B 1 rfl
  have q2 : w.cell? ⟨b, 2, none⟩ = some z := blk_cell B 2 rfl
  simp [results, hfn, go_sem, q0, q1, q2, h6]

theorem ret_box {fn : Func} (hfn : fn.results = #[ResultVar.cell 6 34]) {R : Ending → World → Prop} {v0 v1 v2 v3 v4 v5 : Value} {t : List Value} {w : World} {b : Nat} {c0 c1 c2 x y z : Value}
    (B : w.heap[b]? = some (.cells #[c0, c1, c2] 34 (0, 0))) (hR : R (.returned (.agg #[x, y, z])) (((w.setCell ⟨b, 0, none⟩ x).setCell ⟨b, 1, none⟩ y).setCell ⟨b, 2, none⟩ z)) :
    bodyPost Yabv.prog fn R .ret ⟨(v0 :: v1 :: v2 :: v3 :: v4 :: v5 :: .pointer (some ⟨b, 0, none⟩) :: t).toArray, []⟩ (((w.setCell ⟨b, 0, none⟩ x).setCell ⟨b, 1, none⟩ y).setCell ⟨b, 2, none⟩ z) :=
  bodyPost_ret (res_box hfn (by simp) (cells3 B x y z)) rfl hR
end Go.Proofs.Yahabw
