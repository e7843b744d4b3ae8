import Derived.Test.YahabwText
set_option linter.unusedVariables false
set_option linter.unusedSimpArgs false
namespace Go.Proofs.Yahabw
open Go.RowKit

set_option maxHeartbeats 1000000 in
theorem regText_0 (r a b k : Int) (ok : Ok5 ⟨0, r, a, b, k⟩) (w : World) :
    Calls Yabv.prog 61 #[.agg #[.int .i64 0, .int .i64 r, .int .i64 a, .int .i64 b, .int .i64 k]] w fun e w' => ∃ s : ByteArray, e = .returned (.string s) ∧ Hid (s = strOfNums (textF ⟨0, r, a, b, k⟩)) ∧ Below w.heap.size w w' := by
  obtain ⟨okop, okr, oka, okb, okk⟩ := ok
  simp only at okop okr oka okb okk
  go_enter Yabv.func61, Yabv.ntmps61
  go_wp2
  generalize hW : World.alloc w _ = W
  have hbW : Below w.heap.size w W := by rw [← hW]; exact (Below.refl _ _).alloc (Nat.le_refl _) _
  have B0 : W.heap[w.heap.size]? = some (.cells #[.int .i64 0, .int .i64 r, .int .i64 a, .int .i64 b, .int .i64 k] 65 (0, 0)) := by rw [← hW]; exact heap_alloc_new w _
  have hz := blk_lt B0
  clear hW
  have q0 : W.cell? ⟨w.heap.size, 0, none⟩ = some (.int .i64 0) := blk_cell B0 0 rfl
  have q1 : W.cell? ⟨w.heap.size, 1, none⟩ = some (.int .i64 r) := blk_cell B0 1 rfl
  have q2 : W.cell? ⟨w.heap.size, 2, none⟩ = some (.int .i64 a) := blk_cell B0 2 rfl
  have q3 : W.cell? ⟨w.heap.size, 3, none⟩ = some (.int .i64 b) := blk_cell B0 3 rfl
  have q4 : W.cell? ⟨w.heap.size, 4, none⟩ = some (.int .i64 k) := blk_cell B0 4 rfl
  clear B0
  go_region_held3 (fun w' => w'.cell? ⟨w.heap.size, 0, none⟩ = some (.int .i64 0) ∧ w'.cell? ⟨w.heap.size, 1, none⟩ = some (.int .i64 r) ∧ w'.cell? ⟨w.heap.size, 2, none⟩ = some (.int .i64 a) ∧ w'.cell? ⟨w.heap.size, 3, none⟩ = some (.int .i64 b) ∧ w'.cell? ⟨w.heap.size, 4, none⟩ = some (.int .i64 k) ∧ w.heap.size < w'.heap.size ∧ Below W.heap.size W w') (first | assumption | exact ⟨q0, q1, q2, q3, q4, hz, (Below.refl _ _).drew⟩)
    (first | (go_at_call_of 68 (Value.int IntKind.i64 r); refine (regS_str _ okr _).mono ?_; rintro e w1 ⟨s1, rfl, hs1, Hs1, hbel1⟩; have hS1 := box_keep (o := ⟨0, r, a, b, k⟩) hbel1 (by assumption); have p1_0 := cat_run s1 { data := #[32, 61, 32] } (by (try simp only [ByteArray.size_append]); show s1.size + 3 ≤ 1000000; omega)) | (go_at_call_of 60 (Value.int IntKind.i64 k); refine (dec_str _ okk _).mono ?_; rintro e w2 ⟨s2, rfl, hs2, Hs2, hbel2⟩; have hS2 := box_keep (o := ⟨0, r, a, b, k⟩) hbel2 (by assumption); have p2_0 := cat_run (s1 ++ { data := #[32, 61, 32] }) s2 (by (try simp only [ByteArray.size_append]); show s1.size + 3 + s2.size ≤ 1000000; omega)))
  go_wp2
  go_ret
  exact ⟨_, rfl, fin_0 r a b k (unhide Hs1) (unhide Hs2), hbW.trans (hS2.2.2.2.2.2.2.mono hbW.size)⟩

set_option maxHeartbeats 1000000 in
theorem regText_1 (r a b k : Int) (ok : Ok5 ⟨1, r, a, b, k⟩) (w : World) :
    Calls Yabv.prog 61 #[.agg #[.int .i64 1, .int .i64 r, .int .i64 a, .int .i64 b, .int .i64 k]] w fun e w' => ∃ s : ByteArray, e = .returned (.string s) ∧ Hid (s = strOfNums (textF ⟨1, r, a, b, k⟩)) ∧ Below w.heap.size w w' := by
  obtain ⟨okop, okr, oka, okb, okk⟩ := ok
  simp only at okop okr oka okb okk
  go_enter Yabv.func61, Yabv.ntmps61
  go_wp2
  generalize hW : World.alloc w _ = W
  have hbW : Below w.heap.size w W := by rw [← hW]; exact (Below.refl _ _).alloc (Nat.le_refl _) _
  have B0 : W.heap[w.heap.size]? = some (.cells #[.int .i64 1, .int .i64 r, .int .i64 a, .int .i64 b, .int .i64 k] 65 (0, 0)) := by rw [← hW]; exact heap_alloc_new w _
  have hz := blk_lt B0
  clear hW
  have q0 : W.cell? ⟨w.heap.size, 0, none⟩ = some (.int .i64 1) := blk_cell B0 0 rfl
  have q1 : W.cell? ⟨w.heap.size, 1, none⟩ = some (.int .i64 r) := blk_cell B0 1 rfl
  have q2 : W.cell? ⟨w.heap.size, 2, none⟩ = some (.int .i64 a) := blk_cell B0 2 rfl
  have q3 : W.cell? ⟨w.heap.size, 3, none⟩ = some (.int .i64 b) := blk_cell B0 3 rfl
  have q4 : W.cell? ⟨w.heap.size, 4, none⟩ = some (.int .i64 k) := blk_cell B0 4 rfl
  clear B0
  go_region_held3 (fun w' => w'.cell? ⟨w.heap.size, 0, none⟩ = some (.int .i64 1) ∧ w'.cell? ⟨w.heap.size, 1, none⟩ = some (.int .i64 r) ∧ w'.cell? ⟨w.heap.size, 2, none⟩ = some (.int .i64 a) ∧ w'.cell? ⟨w.heap.size, 3, none⟩ = some (.int .i64 b) ∧ w'.cell? ⟨w.heap.size, 4, none⟩ = some (.int .i64 k) ∧ w.heap.size < w'.heap.size ∧ Below W.heap.size W w') (first | assumption | exact ⟨q0, q1, q2, q3, q4, hz, (Below.refl _ _).drew⟩)
    (first | (go_at_call_of 68 (Value.int IntKind.i64 r); refine (regS_str _ okr _).mono ?_; rintro e w1 ⟨s1, rfl, hs1, Hs1, hbel1⟩; have hS1 := box_keep (o := ⟨1, r, a, b, k⟩) hbel1 (by assumption); have p1_0 := cat_run s1 { data := #[32, 61, 32, 97, 114, 103, 32] } (by (try simp only [ByteArray.size_append]); show s1.size + 7 ≤ 1000000; omega)) | (go_at_call_of 60 (Value.int IntKind.i64 k); refine (dec_str _ okk _).mono ?_; rintro e w2 ⟨s2, rfl, hs2, Hs2, hbel2⟩; have hS2 := box_keep (o := ⟨1, r, a, b, k⟩) hbel2 (by assumption); have p2_0 := cat_run (s1 ++ { data := #[32, 61, 32, 97, 114, 103, 32] }) s2 (by (try simp only [ByteArray.size_append]); show s1.size + 7 + s2.size ≤ 1000000; omega)))
  go_wp2
  go_ret
  exact ⟨_, rfl, fin_1 r a b k (unhide Hs1) (unhide Hs2), hbW.trans (hS2.2.2.2.2.2.2.mono hbW.size)⟩

set_option maxHeartbeats 1000000 in
theorem regText_2 (r a b k : Int) (ok : Ok5 ⟨2, r, a, b, k⟩) (w : World) :
    Calls Yabv.prog 61 #[.agg #[.int .i64 2, .int .i64 r, .int .i64 a, .int .i64 b, .int .i64 k]] w fun e w' => ∃ s : ByteArray, e = .returned (.string s) ∧ Hid (s = strOfNums (textF ⟨2, r, a, b, k⟩)) ∧ Below w.heap.size w w' := by
  obtain ⟨okop, okr, oka, okb, okk⟩ := ok
  simp only at okop okr oka okb okk
  go_enter Yabv.func61, Yabv.ntmps61
  go_wp2
  generalize hW : World.alloc w _ = W
  have hbW : Below w.heap.size w W := by rw [← hW]; exact (Below.refl _ _).alloc (Nat.le_refl _) _
  have B0 : W.heap[w.heap.size]? = some (.cells #[.int .i64 2, .int .i64 r, .int .i64 a, .int .i64 b, .int .i64 k] 65 (0, 0)) := by rw [← hW]; exact heap_alloc_new w _
  have hz := blk_lt B0
  clear hW
  have q0 : W.cell? ⟨w.heap.size, 0, none⟩ = some (.int .i64 2) := blk_cell B0 0 rfl
  have q1 : W.cell? ⟨w.heap.size, 1, none⟩ = some (.int .i64 r) := blk_cell B0 1 rfl
  have q2 : W.cell? ⟨w.heap.size, 2, none⟩ = some (.int .i64 a) := blk_cell B0 2 rfl
  have q3 : W.cell? ⟨w.heap.size, 3, none⟩ = some (.int .i64 b) := blk_cell B0 3 rfl
  have q4 : W.cell? ⟨w.heap.size, 4, none⟩ = some (.int .i64 k) := blk_cell B0 4 rfl
  clear B0
  go_region_held3 (fun w' => w'.cell? ⟨w.heap.size, 0, none⟩ = some (.int .i64 2) ∧ w'.cell? ⟨w.heap.size, 1, none⟩ = some (.int .i64 r) ∧ w'.cell? ⟨w.heap.size, 2, none⟩ = some (.int .i64 a) ∧ w'.cell? ⟨w.heap.size, 3, none⟩ = some (.int .i64 b) ∧ w'.cell? ⟨w.heap.size, 4, none⟩ = some (.int .i64 k) ∧ w.heap.size < w'.heap.size ∧ Below W.heap.size W w') (first | assumption | exact ⟨q0, q1, q2, q3, q4, hz, (Below.refl _ _).drew⟩)
    (first | (go_at_call_of 68 (Value.int IntKind.i64 r); refine (regS_str _ okr _).mono ?_; rintro e w1 ⟨s1, rfl, hs1, Hs1, hbel1⟩; have hS1 := box_keep (o := ⟨2, r, a, b, k⟩) hbel1 (by assumption); have p1_0 := cat_run s1 { data := #[32, 61, 32] } (by (try simp only [ByteArray.size_append]); show s1.size + 3 ≤ 1000000; omega)) | (go_at_call_of 68 (Value.int IntKind.i64 a); refine (regS_str _ oka _).mono ?_; rintro e w2 ⟨s2, rfl, hs2, Hs2, hbel2⟩; have hS2 := box_keep (o := ⟨2, r, a, b, k⟩) hbel2 (by assumption); have p2_0 := cat_run (s1 ++ { data := #[32, 61, 32] }) s2 (by (try simp only [ByteArray.size_append]); show s1.size + 3 + s2.size ≤ 1000000; omega); have p2_1 := cat_run ((s1 ++ { data := #[32, 61, 32] }) ++ s2) { data := #[32, 43, 32] } (by (try simp only [ByteArray.size_append]); show s1.size + 3 + s2.size + 3 ≤ 1000000; omega)) | (go_at_call_of 68 (Value.int IntKind.i64 b); refine (regS_str _ okb _).mono ?_; rintro e w3 ⟨s3, rfl, hs3, Hs3, hbel3⟩; have hS3 := box_keep (o := ⟨2, r, a, b, k⟩) hbel3 (by assumption); have p3_0 := cat_run (((s1 ++ { data := #[32, 61, 32] }) ++ s2) ++ { data := #[32, 43, 32] }) s3 (by (try simp only [ByteArray.size_append]); show s1.size + 3 + s2.size + 3 + s3.size ≤ 1000000; omega)))
  go_wp2
  go_ret
  exact ⟨_, rfl, fin_2 r a b k (unhide Hs1) (unhide Hs2) (unhide Hs3), hbW.trans (hS3.2.2.2.2.2.2.mono hbW.size)⟩

set_option maxHeartbeats 1000000 in
theorem regText_3 (r a b k : Int) (ok : Ok5 ⟨3, r, a, b, k⟩) (w : World) :
    Calls Yabv.prog 61 #[.agg #[.int .i64 3, .int .i64 r, .int .i64 a, .int .i64 b, .int .i64 k]] w fun e w' => ∃ s : ByteArray, e = .returned (.string s) ∧ Hid (s = strOfNums (textF ⟨3, r, a, b, k⟩)) ∧ Below w.heap.size w w' := by
  obtain ⟨okop, okr, oka, okb, okk⟩ := ok
  simp only at okop okr oka okb okk
  go_enter Yabv.func61, Yabv.ntmps61
  go_wp2
  generalize hW : World.alloc w _ = W
  have hbW : Below w.heap.size w W := by rw [← hW]; exact (Below.refl _ _).alloc (Nat.le_refl _) _
  have B0 : W.heap[w.heap.size]? = some (.cells #[.int .i64 3, .int .i64 r, .int .i64 a, .int .i64 b, .int .i64 k] 65 (0, 0)) := by rw [← hW]; exact heap_alloc_new w _
  have hz := blk_lt B0
  clear hW
  have q0 : W.cell? ⟨w.heap.size, 0, none⟩ = some (.int .i64 3) := blk_cell B0 0 rfl
  have q1 : W.cell? ⟨w.heap.size, 1, none⟩ = some (.int .i64 r) := blk_cell B0 1 rfl
  have q2 : W.cell? ⟨w.heap.size, 2, none⟩ = some (.int .i64 a) := blk_cell B0 2 rfl
  have q3 : W.cell? ⟨w.heap.size, 3, none⟩ = some (.int .i64 b) := blk_cell B0 3 rfl
  have q4 : W.cell? ⟨w.heap.size, 4, none⟩ = some (.int .i64 k) := blk_cell B0 4 rfl
  clear B0
  go_region_held3 (fun w' => w'.cell? ⟨w.heap.size, 0, none⟩ = some (.int .i64 3) ∧ w'.cell? ⟨w.heap.size, 1, none⟩ = some (.int .i64 r) ∧ w'.cell? ⟨w.heap.size, 2, none⟩ = some (.int .i64 a) ∧ w'.cell? ⟨w.heap.size, 3, none⟩ = some (.int .i64 b) ∧ w'.cell? ⟨w.heap.size, 4, none⟩ = some (.int .i64 k) ∧ w.heap.size < w'.heap.size ∧ Below W.heap.size W w') (first | assumption | exact ⟨q0, q1, q2, q3, q4, hz, (Below.refl _ _).drew⟩)
    (first | (go_at_call_of 68 (Value.int IntKind.i64 r); refine (regS_str _ okr _).mono ?_; rintro e w1 ⟨s1, rfl, hs1, Hs1, hbel1⟩; have hS1 := box_keep (o := ⟨3, r, a, b, k⟩) hbel1 (by assumption); have p1_0 := cat_run s1 { data := #[32, 61, 32] } (by (try simp only [ByteArray.size_append]); show s1.size + 3 ≤ 1000000; omega)) | (go_at_call_of 68 (Value.int IntKind.i64 a); refine (regS_str _ oka _).mono ?_; rintro e w2 ⟨s2, rfl, hs2, Hs2, hbel2⟩; have hS2 := box_keep (o := ⟨3, r, a, b, k⟩) hbel2 (by assumption); have p2_0 := cat_run (s1 ++ { data := #[32, 61, 32] }) s2 (by (try simp only [ByteArray.size_append]); show s1.size + 3 + s2.size ≤ 1000000; omega); have p2_1 := cat_run ((s1 ++ { data := #[32, 61, 32] }) ++ s2) { data := #[32, 45, 32] } (by (try simp only [ByteArray.size_append]); show s1.size + 3 + s2.size + 3 ≤ 1000000; omega)) | (go_at_call_of 68 (Value.int IntKind.i64 b); refine (regS_str _ okb _).mono ?_; rintro e w3 ⟨s3, rfl, hs3, Hs3, hbel3⟩; have hS3 := box_keep (o := ⟨3, r, a, b, k⟩) hbel3 (by assumption); have p3_0 := cat_run (((s1 ++ { data := #[32, 61, 32] }) ++ s2) ++ { data := #[32, 45, 32] }) s3 (by (try simp only [ByteArray.size_append]); show s1.size + 3 + s2.size + 3 + s3.size ≤ 1000000; omega)))
  go_wp2
  go_ret
  exact ⟨_, rfl, fin_3 r a b k (unhide Hs1) (unhide Hs2) (unhide Hs3), hbW.trans (hS3.2.2.2.2.2.2.mono hbW.size)⟩

set_option maxHeartbeats 1000000 in
theorem regText_4 (r a b k : Int) (ok : Ok5 ⟨4, r, a, b, k⟩) (w : World) :
    Calls Yabv.prog 61 #[.agg #[.int .i64 4, .int .i64 r, .int .i64 a, .int .i64 b, .int .i64 k]] w fun e w' => ∃ s : ByteArray, e = .returned (.string s) ∧ Hid (s = strOfNums (textF ⟨4, r, a, b, k⟩)) ∧ Below w.heap.size w w' := by
  obtain ⟨okop, okr, oka, okb, okk⟩ := ok
  simp only at okop okr oka okb okk
  go_enter Yabv.func61, Yabv.ntmps61
  go_wp2
  generalize hW : World.alloc w _ = W
  have hbW : Below w.heap.size w W := by rw [← hW]; exact (Below.refl _ _).alloc (Nat.le_refl _) _
  have B0 : W.heap[w.heap.size]? = some (.cells #[.int .i64 4, .int .i64 r, .int .i64 a, .int .i64 b, .int .i64 k] 65 (0, 0)) := by rw [← hW]; exact heap_alloc_new w _
  have hz := blk_lt B0
  clear hW
  have q0 : W.cell? ⟨w.heap.size, 0, none⟩ = some (.int .i64 4) := blk_cell B0 0 rfl
  have q1 : W.cell? ⟨w.heap.size, 1, none⟩ = some (.int .i64 r) := blk_cell B0 1 rfl
  have q2 : W.cell? ⟨w.heap.size, 2, none⟩ = some (.int .i64 a) := blk_cell B0 2 rfl
  have q3 : W.cell? ⟨w.heap.size, 3, none⟩ = some (.int .i64 b) := blk_cell B0 3 rfl
  have q4 : W.cell? ⟨w.heap.size, 4, none⟩ = some (.int .i64 k) := blk_cell B0 4 rfl
  clear B0
  go_region_held3 (fun w' => w'.cell? ⟨w.heap.size, 0, none⟩ = some (.int .i64 4) ∧ w'.cell? ⟨w.heap.size, 1, none⟩ = some (.int .i64 r) ∧ w'.cell? ⟨w.heap.size, 2, none⟩ = some (.int .i64 a) ∧ w'.cell? ⟨w.heap.size, 3, none⟩ = some (.int .i64 b) ∧ w'.cell? ⟨w.heap.size, 4, none⟩ = some (.int .i64 k) ∧ w.heap.size < w'.heap.size ∧ Below W.heap.size W w') (first | assumption | exact ⟨q0, q1, q2, q3, q4, hz, (Below.refl _ _).drew⟩)
    (first | (go_at_call_of 68 (Value.int IntKind.i64 r); refine (regS_str _ okr _).mono ?_; rintro e w1 ⟨s1, rfl, hs1, Hs1, hbel1⟩; have hS1 := box_keep (o := ⟨4, r, a, b, k⟩) hbel1 (by assumption); have p1_0 := cat_run s1 { data := #[32, 61, 32] } (by (try simp only [ByteArray.size_append]); show s1.size + 3 ≤ 1000000; omega)) | (go_at_call_of 68 (Value.int IntKind.i64 a); refine (regS_str _ oka _).mono ?_; rintro e w2 ⟨s2, rfl, hs2, Hs2, hbel2⟩; have hS2 := box_keep (o := ⟨4, r, a, b, k⟩) hbel2 (by assumption); have p2_0 := cat_run (s1 ++ { data := #[32, 61, 32] }) s2 (by (try simp only [ByteArray.size_append]); show s1.size + 3 + s2.size ≤ 1000000; omega); have p2_1 := cat_run ((s1 ++ { data := #[32, 61, 32] }) ++ s2) { data := #[32, 42, 32] } (by (try simp only [ByteArray.size_append]); show s1.size + 3 + s2.size + 3 ≤ 1000000; omega)) | (go_at_call_of 68 (Value.int IntKind.i64 b); refine (regS_str _ okb _).mono ?_; rintro e w3 ⟨s3, rfl, hs3, Hs3, hbel3⟩; have hS3 := box_keep (o := ⟨4, r, a, b, k⟩) hbel3 (by assumption); have p3_0 := cat_run (((s1 ++ { data := #[32, 61, 32] }) ++ s2) ++ { data := #[32, 42, 32] }) s3 (by (try simp only [ByteArray.size_append]); show s1.size + 3 + s2.size + 3 + s3.size ≤ 1000000; omega)))
  go_wp2
  go_ret
  exact ⟨_, rfl, fin_4 r a b k (unhide Hs1) (unhide Hs2) (unhide Hs3), hbW.trans (hS3.2.2.2.2.2.2.mono hbW.size)⟩

set_option maxHeartbeats 1000000 in
theorem regText_5 (r a b k : Int) (ok : Ok5 ⟨5, r, a, b, k⟩) (w : World) :
    Calls Yabv.prog 61 #[.agg #[.int .i64 5, .int .i64 r, .int .i64 a, .int .i64 b, .int .i64 k]] w fun e w' => ∃ s : ByteArray, e = .returned (.string s) ∧ Hid (s = strOfNums (textF ⟨5, r, a, b, k⟩)) ∧ Below w.heap.size w w' := by
  obtain ⟨okop, okr, oka, okb, okk⟩ := ok
  simp only at okop okr oka okb okk
  go_enter Yabv.func61, Yabv.ntmps61
  go_wp2
  generalize hW : World.alloc w _ = W
  have hbW : Below w.heap.size w W := by rw [← hW]; exact (Below.refl _ _).alloc (Nat.le_refl _) _
  have B0 : W.heap[w.heap.size]? = some (.cells #[.int .i64 5, .int .i64 r, .int .i64 a, .int .i64 b, .int .i64 k] 65 (0, 0)) := by rw [← hW]; exact heap_alloc_new w _
  have hz := blk_lt B0
  clear hW
  have q0 : W.cell? ⟨w.heap.size, 0, none⟩ = some (.int .i64 5) := blk_cell B0 0 rfl
  have q1 : W.cell? ⟨w.heap.size, 1, none⟩ = some (.int .i64 r) := blk_cell B0 1 rfl
  have q2 : W.cell? ⟨w.heap.size, 2, none⟩ = some (.int .i64 a) := blk_cell B0 2 rfl
  have q3 : W.cell? ⟨w.heap.size, 3, none⟩ = some (.int .i64 b) := blk_cell B0 3 rfl
  have q4 : W.cell? ⟨w.heap.size, 4, none⟩ = some (.int .i64 k) := blk_cell B0 4 rfl
  clear B0
  go_region_held3 (fun w' => w'.cell? ⟨w.heap.size, 0, none⟩ = some (.int .i64 5) ∧ w'.cell? ⟨w.heap.size, 1, none⟩ = some (.int .i64 r) ∧ w'.cell? ⟨w.heap.size, 2, none⟩ = some (.int .i64 a) ∧ w'.cell? ⟨w.heap.size, 3, none⟩ = some (.int .i64 b) ∧ w'.cell? ⟨w.heap.size, 4, none⟩ = some (.int .i64 k) ∧ w.heap.size < w'.heap.size ∧ Below W.heap.size W w') (first | assumption | exact ⟨q0, q1, q2, q3, q4, hz, (Below.refl _ _).drew⟩)
    (first | (go_at_call_of 68 (Value.int IntKind.i64 r); refine (regS_str _ okr _).mono ?_; rintro e w1 ⟨s1, rfl, hs1, Hs1, hbel1⟩; have hS1 := box_keep (o := ⟨5, r, a, b, k⟩) hbel1 (by assumption); have p1_0 := cat_run s1 { data := #[32, 61, 32] } (by (try simp only [ByteArray.size_append]); show s1.size + 3 ≤ 1000000; omega)) | (go_at_call_of 68 (Value.int IntKind.i64 a); refine (regS_str _ oka _).mono ?_; rintro e w2 ⟨s2, rfl, hs2, Hs2, hbel2⟩; have hS2 := box_keep (o := ⟨5, r, a, b, k⟩) hbel2 (by assumption); have p2_0 := cat_run (s1 ++ { data := #[32, 61, 32] }) s2 (by (try simp only [ByteArray.size_append]); show s1.size + 3 + s2.size ≤ 1000000; omega)))
  go_wp2
  go_ret
  exact ⟨_, rfl, fin_5 r a b k (unhide Hs1) (unhide Hs2), hbW.trans (hS2.2.2.2.2.2.2.mono hbW.size)⟩

set_option maxHeartbeats 1000000 in
theorem regText_6 (r a b k : Int) (ok : Ok5 ⟨6, r, a, b, k⟩) (w : World) :
    Calls Yabv.prog 61 #[.agg #[.int .i64 6, .int .i64 r, .int .i64 a, .int .i64 b, .int .i64 k]] w fun e w' => ∃ s : ByteArray, e = .returned (.string s) ∧ Hid (s = strOfNums (textF ⟨6, r, a, b, k⟩)) ∧ Below w.heap.size w w' := by
  obtain ⟨okop, okr, oka, okb, okk⟩ := ok
  simp only at okop okr oka okb okk
  go_enter Yabv.func61, Yabv.ntmps61
  go_wp2
  generalize hW : World.alloc w _ = W
  have hbW : Below w.heap.size w W := by rw [← hW]; exact (Below.refl _ _).alloc (Nat.le_refl _) _
  have B0 : W.heap[w.heap.size]? = some (.cells #[.int .i64 6, .int .i64 r, .int .i64 a, .int .i64 b, .int .i64 k] 65 (0, 0)) := by rw [← hW]; exact heap_alloc_new w _
  have hz := blk_lt B0
  clear hW
  have q0 : W.cell? ⟨w.heap.size, 0, none⟩ = some (.int .i64 6) := blk_cell B0 0 rfl
  have q1 : W.cell? ⟨w.heap.size, 1, none⟩ = some (.int .i64 r) := blk_cell B0 1 rfl
  have q2 : W.cell? ⟨w.heap.size, 2, none⟩ = some (.int .i64 a) := blk_cell B0 2 rfl
  have q3 : W.cell? ⟨w.heap.size, 3, none⟩ = some (.int .i64 b) := blk_cell B0 3 rfl
  have q4 : W.cell? ⟨w.heap.size, 4, none⟩ = some (.int .i64 k) := blk_cell B0 4 rfl
  clear B0
  go_region_held3 (fun w' => w'.cell? ⟨w.heap.size, 0, none⟩ = some (.int .i64 6) ∧ w'.cell? ⟨w.heap.size, 1, none⟩ = some (.int .i64 r) ∧ w'.cell? ⟨w.heap.size, 2, none⟩ = some (.int .i64 a) ∧ w'.cell? ⟨w.heap.size, 3, none⟩ = some (.int .i64 b) ∧ w'.cell? ⟨w.heap.size, 4, none⟩ = some (.int .i64 k) ∧ w.heap.size < w'.heap.size ∧ Below W.heap.size W w') (first | assumption | exact ⟨q0, q1, q2, q3, q4, hz, (Below.refl _ _).drew⟩)
    (first | (go_at_call_of 68 (Value.int IntKind.i64 a); refine (regS_str _ oka _).mono ?_; rintro e w1 ⟨s1, rfl, hs1, Hs1, hbel1⟩; have hS1 := box_keep (o := ⟨6, r, a, b, k⟩) hbel1 (by assumption); have p1_0 := cat_run { data := #[115, 119, 97, 112, 32] } s1 (by (try simp only [ByteArray.size_append]); show 5 + s1.size ≤ 1000000; omega); have p1_1 := cat_run ({ data := #[115, 119, 97, 112, 32] } ++ s1) { data := #[32] } (by (try simp only [ByteArray.size_append]); show 5 + s1.size + 1 ≤ 1000000; omega)) | (go_at_call_of 68 (Value.int IntKind.i64 b); refine (regS_str _ okb _).mono ?_; rintro e w2 ⟨s2, rfl, hs2, Hs2, hbel2⟩; have hS2 := box_keep (o := ⟨6, r, a, b, k⟩) hbel2 (by assumption); have p2_0 := cat_run (({ data := #[115, 119, 97, 112, 32] } ++ s1) ++ { data := #[32] }) s2 (by (try simp only [ByteArray.size_append]); show 5 + s1.size + 1 + s2.size ≤ 1000000; omega)))
  go_wp2
  go_ret
  exact ⟨_, rfl, fin_6 r a b k (unhide Hs1) (unhide Hs2), hbW.trans (hS2.2.2.2.2.2.2.mono hbW.size)⟩

set_option maxHeartbeats 1000000 in
theorem regText_7 (r a b k : Int) (ok : Ok5 ⟨7, r, a, b, k⟩) (w : World) :
    Calls Yabv.prog 61 #[.agg #[.int .i64 7, .int .i64 r, .int .i64 a, .int .i64 b, .int .i64 k]] w fun e w' => ∃ s : ByteArray, e = .returned (.string s) ∧ Hid (s = strOfNums (textF ⟨7, r, a, b, k⟩)) ∧ Below w.heap.size w w' := by
  obtain ⟨okop, okr, oka, okb, okk⟩ := ok
  simp only at okop okr oka okb okk
  go_enter Yabv.func61, Yabv.ntmps61
  go_wp2
  go_ret
  exact ⟨_, rfl, fin_7 r a b k , (Below.refl _ _).alloc (Nat.le_refl _) _⟩

set_option maxHeartbeats 1000000 in
theorem regText_8 (r a b k : Int) (ok : Ok5 ⟨8, r, a, b, k⟩) (w : World) :
    Calls Yabv.prog 61 #[.agg #[.int .i64 8, .int .i64 r, .int .i64 a, .int .i64 b, .int .i64 k]] w fun e w' => ∃ s : ByteArray, e = .returned (.string s) ∧ Hid (s = strOfNums (textF ⟨8, r, a, b, k⟩)) ∧ Below w.heap.size w w' := by
  obtain ⟨okop, okr, oka, okb, okk⟩ := ok
  simp only at okop okr oka okb okk
  go_enter Yabv.func61, Yabv.ntmps61
  go_wp2_with fail
  refine (dec_str _ okk _).mono ?_
  rintro e w1 ⟨s1, rfl, hs1, Hs1, hb1⟩
  have p1 := cat_run { data := #[106, 109, 112, 32] } s1 (by show 4 + s1.size ≤ 1000000; omega)
  go_wp2
  go_ret
  exact ⟨_, rfl, fin_8 r a b k (unhide Hs1), ((Below.refl _ _).alloc (Nat.le_refl _) _).trans (hb1.mono (by simp))⟩

set_option maxHeartbeats 1000000 in
theorem regText_9 (r a b k : Int) (ok : Ok5 ⟨9, r, a, b, k⟩) (w : World) :
    Calls Yabv.prog 61 #[.agg #[.int .i64 9, .int .i64 r, .int .i64 a, .int .i64 b, .int .i64 k]] w fun e w' => ∃ s : ByteArray, e = .returned (.string s) ∧ Hid (s = strOfNums (textF ⟨9, r, a, b, k⟩)) ∧ Below w.heap.size w w' := by
  obtain ⟨okop, okr, oka, okb, okk⟩ := ok
  simp only at okop okr oka okb okk
  go_enter Yabv.func61, Yabv.ntmps61
  go_wp2
  generalize hW : World.alloc w _ = W
  have hbW : Below w.heap.size w W := by rw [← hW]; exact (Below.refl _ _).alloc (Nat.le_refl _) _
  have B0 : W.heap[w.heap.size]? = some (.cells #[.int .i64 9, .int .i64 r, .int .i64 a, .int .i64 b, .int .i64 k] 65 (0, 0)) := by rw [← hW]; exact heap_alloc_new w _
  have hz := blk_lt B0
  clear hW
  have q0 : W.cell? ⟨w.heap.size, 0, none⟩ = some (.int .i64 9) := blk_cell B0 0 rfl
  have q1 : W.cell? ⟨w.heap.size, 1, none⟩ = some (.int .i64 r) := blk_cell B0 1 rfl
  have q2 : W.cell? ⟨w.heap.size, 2, none⟩ = some (.int .i64 a) := blk_cell B0 2 rfl
  have q3 : W.cell? ⟨w.heap.size, 3, none⟩ = some (.int .i64 b) := blk_cell B0 3 rfl
  have q4 : W.cell? ⟨w.heap.size, 4, none⟩ = some (.int .i64 k) := blk_cell B0 4 rfl
  clear B0
  go_region_held3 (fun w' => w'.cell? ⟨w.heap.size, 0, none⟩ = some (.int .i64 9) ∧ w'.cell? ⟨w.heap.size, 1, none⟩ = some (.int .i64 r) ∧ w'.cell? ⟨w.heap.size, 2, none⟩ = some (.int .i64 a) ∧ w'.cell? ⟨w.heap.size, 3, none⟩ = some (.int .i64 b) ∧ w'.cell? ⟨w.heap.size, 4, none⟩ = some (.int .i64 k) ∧ w.heap.size < w'.heap.size ∧ Below W.heap.size W w') (first | assumption | exact ⟨q0, q1, q2, q3, q4, hz, (Below.refl _ _).drew⟩)
    (first | (go_at_call_of 68 (Value.int IntKind.i64 a); refine (regS_str _ oka _).mono ?_; rintro e w1 ⟨s1, rfl, hs1, Hs1, hbel1⟩; have hS1 := box_keep (o := ⟨9, r, a, b, k⟩) hbel1 (by assumption); have p1_0 := cat_run { data := #[106, 122, 32] } s1 (by (try simp only [ByteArray.size_append]); show 3 + s1.size ≤ 1000000; omega); have p1_1 := cat_run ({ data := #[106, 122, 32] } ++ s1) { data := #[32] } (by (try simp only [ByteArray.size_append]); show 3 + s1.size + 1 ≤ 1000000; omega)) | (go_at_call_of 60 (Value.int IntKind.i64 k); refine (dec_str _ okk _).mono ?_; rintro e w2 ⟨s2, rfl, hs2, Hs2, hbel2⟩; have hS2 := box_keep (o := ⟨9, r, a, b, k⟩) hbel2 (by assumption); have p2_0 := cat_run (({ data := #[106, 122, 32] } ++ s1) ++ { data := #[32] }) s2 (by (try simp only [ByteArray.size_append]); show 3 + s1.size + 1 + s2.size ≤ 1000000; omega)))
  go_wp2
  go_ret
  exact ⟨_, rfl, fin_9 r a b k (unhide Hs1) (unhide Hs2), hbW.trans (hS2.2.2.2.2.2.2.mono hbW.size)⟩

set_option maxHeartbeats 1000000 in
theorem regText_10 (r a b k : Int) (ok : Ok5 ⟨10, r, a, b, k⟩) (w : World) :
    Calls Yabv.prog 61 #[.agg #[.int .i64 10, .int .i64 r, .int .i64 a, .int .i64 b, .int .i64 k]] w fun e w' => ∃ s : ByteArray, e = .returned (.string s) ∧ Hid (s = strOfNums (textF ⟨10, r, a, b, k⟩)) ∧ Below w.heap.size w w' := by
  obtain ⟨okop, okr, oka, okb, okk⟩ := ok
  simp only at okop okr oka okb okk
  go_enter Yabv.func61, Yabv.ntmps61
  go_wp2_with fail
  refine (dec_str _ oka _).mono ?_
  rintro e w1 ⟨s1, rfl, hs1, Hs1, hb1⟩
  have p1 := cat_run { data := #[104, 97, 108, 116, 32] } s1 (by show 5 + s1.size ≤ 1000000; omega)
  go_wp2
  go_ret
  exact ⟨_, rfl, fin_10 r a b k (unhide Hs1), ((Below.refl _ _).alloc (Nat.le_refl _) _).trans (hb1.mono (by simp))⟩

set_option maxHeartbeats 1000000 in
theorem regText_11 (o r a b k : Int) (ho : o < 0 ∨ 10 < o) (ok : Ok5 ⟨o, r, a, b, k⟩) (w : World) :
    Calls Yabv.prog 61 #[.agg #[.int .i64 o, .int .i64 r, .int .i64 a, .int .i64 b, .int .i64 k]] w fun e w' => ∃ s : ByteArray, e = .returned (.string s) ∧ Hid (s = strOfNums (textF ⟨o, r, a, b, k⟩)) ∧ Below w.heap.size w w' := by
  obtain ⟨okop, okr, oka, okb, okk⟩ := ok
  simp only at okop okr oka okb okk
  have ho2 := ho
  rcases ho with ho1 | ho1
  · go_enter Yabv.func61, Yabv.ntmps61
    go_wp2_with fail
    refine (dec_str _ okop _).mono ?_
    rintro e w1 ⟨s1, rfl, hs1, Hs1, hb1⟩
    have p1 := cat_run { data := #[98, 97, 100, 32] } s1 (by show 4 + s1.size ≤ 1000000; omega)
    go_wp2
    go_ret
    exact ⟨_, rfl, fin_11 o r a b k ho2 (unhide Hs1), ((Below.refl _ _).alloc (Nat.le_refl _) _).trans (hb1.mono (by simp))⟩
  · go_enter Yabv.func61, Yabv.ntmps61
    go_wp2_with fail
    refine (dec_str _ okop _).mono ?_
    rintro e w1 ⟨s1, rfl, hs1, Hs1, hb1⟩
    have p1 := cat_run { data := #[98, 97, 100, 32] } s1 (by show 4 + s1.size ≤ 1000000; omega)
    go_wp2
    go_ret
    exact ⟨_, rfl, fin_11 o r a b k ho2 (unhide Hs1), ((Below.refl _ _).alloc (Nat.le_refl _) _).trans (hb1.mono (by simp))⟩

theorem regText_any (o : R5) (ok : Ok5 o) (w : World) :
    Calls Yabv.prog 61 #[.agg #[.int .i64 o.op, .int .i64 o.r, .int .i64 o.a, .int .i64 o.b, .int .i64 o.k]] w fun e w' => ∃ s : ByteArray, e = .returned (.string s) ∧ s.size ≤ 100 ∧ Hid (s = strOfNums (textF o)) ∧ Below w.heap.size w w' := by
  have hfin : Calls Yabv.prog 61 #[.agg #[.int .i64 o.op, .int .i64 o.r, .int .i64 o.a, .int .i64 o.b, .int .i64 o.k]] w fun e w' => ∃ s : ByteArray, e = .returned (.string s) ∧ Hid (s = strOfNums (textF o)) ∧ Below w.heap.size w w' := by
    obtain ⟨o, r, a, b, k⟩ := o
    by_cases ho : o < 0 ∨ 10 < o
    · exact regText_11 o r a b k ho ok w
    · have : o = 0 ∨ o = 1 ∨ o = 2 ∨ o = 3 ∨ o = 4 ∨ o = 5 ∨ o = 6 ∨ o = 7 ∨ o = 8 ∨ o = 9 ∨ o = 10 := by omega
      rcases this with rfl | rfl | rfl | rfl | rfl | rfl | rfl | rfl | rfl | rfl | rfl
      · exact regText_0 r a b k ok w
      · exact regText_1 r a b k ok w
      · exact regText_2 r a b k ok w
      · exact regText_3 r a b k ok w
      · exact regText_4 r a b k ok w
      · exact regText_5 r a b k ok w
      · exact regText_6 r a b k ok w
      · exact regText_7 r a b k ok w
      · exact regText_8 r a b k ok w
      · exact regText_9 r a b k ok w
      · exact regText_10 r a b k ok w
  refine hfin.mono fun e w' ⟨s, he, hs, hb⟩ => ⟨s, he, ?_, hs, hb⟩
  rw [unhide hs, strOfNums_size]
  exact textF_len o
end Go.Proofs.Yahabw
