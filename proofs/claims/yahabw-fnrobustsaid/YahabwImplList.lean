import Derived.Test.YahabwList
import Derived.Deep.DeepCutAuto
import Derived.Deep.CutBlock
set_option linter.unusedVariables false
set_option linter.unusedSimpArgs false
namespace Go.Proofs.Yahabw
open Go.RowKit

set_option maxRecDepth 100000 in
set_option maxHeartbeats 4000000 in
theorem implListing_any (a : Option Addr) (cap : Nat) (p : List R5) (w : World) (hp : w.ownsRow 0 65 5 (.slice a p.length cap) p.length (cellsR p)) (hlen : p.length ≤ 2000000) (ok : ∀ o ∈ p, Ok5 o) :
    Calls Yabv.prog 11 #[.slice a p.length cap] w fun e w' => e = .returned (.string (strOfNums (listAux 0 p))) ∧ Below w.heap.size w w' := by
  obtain ⟨i0, hi, hz0, hz1, hz2⟩ := info_parts Yabv.info5
  go_enter Yabv.func11, Yabv.ntmps11
  go_wp2_with (at_make; refine wpList_make_own _ rfl _ _ 22 rfl w.heap.size 5 i0 _ 1 Yabv.underlying22 hi hz0 hz1 _ _ _ (p.length * 16) (by rfl) (by rfl) (by omega) (by rw [hz2]; omega) (by unfold maxLen; omega) (Nat.le_refl _) ?_)
  intro w0 hown0 hgrow0
  have hb0 := below_of_grown hgrow0
  clear hgrow0
  go_wp2
  go_loopg [3, 4] p.length (fun n v i wr => ∃ k : Nat, k ≤ p.length ∧ n = p.length - k ∧ i = .int .i64 k ∧ Below w.heap.size w wr ∧ wr.ownsRow w.heap.size 5 1 v (listAux 0 (p.take k)).length ((listAux 0 (p.take k)).map (Value.int .u8)))
  case atStart => exact ⟨0, Nat.zero_le _, rfl, rfl, hb0, hown0⟩
  case round =>
    obtain ⟨k, hk, hn, rfl, hbw, hown⟩ := hrel
    have hsz := hbw.size
    by_cases hlt : k < p.length
    · obtain ⟨g, rfl⟩ := own_some hp (by omega)
      have hgl := (hp.lt g rfl).2
      obtain ⟨c0, c1, c2, c3, c4⟩ := ownR_cell (own_below' hp hbw) k hlt
      have oko := ok p[k] (List.getElem_mem hlt)
      have hT := listTake_len p k
      have HE := hide (listAux_take p k hlt)
      have l1 : (k : Int) < (p.length : Int) := by omega
      generalize hTT : listAux 0 (p.take k) = T at *
      clear hTT
      generalize p[k] = o at *
      obtain ⟨op, r, a, b, kk⟩ := o
      obtain ⟨okop, okr, oka, okb, okk⟩ := oko
      simp only at okop okr oka okb okk c0 c1 c2 c3 c4
      go_upto_block 2 with fail
      generalize hW : World.alloc wr _ = W
      have hbW : Below w.heap.size w W := by rw [← hW]; exact hbw.alloc hsz _
      have hszW : w.heap.size ≤ W.heap.size := hbW.size
      have B0 : W.heap[wr.heap.size]? = some (.cells #[.int .i64 op, .int .i64 r, .int .i64 a, .int .i64 b, .int .i64 kk] 65 (0, 0)) := by rw [← hW]; exact heap_alloc_new wr _
      have hownW : W.ownsRow w.heap.size 5 1 u3 T.length (T.map (Value.int .u8)) := by rw [← hW]; exact hown.alloc _
      have hz := blk_lt B0
      clear hW hown c0 c1 c2 c3 c4 hbw hsz
      go_cut [6] from 11 to 149 (fun s wc => ∃ str : ByteArray, s = .string str ∧ str.size ≤ 100 ∧ Hid (str = strOfNums (textF ⟨op, r, a, b, kk⟩)) ∧ Below W.heap.size W wc)
      case first =>
        have q0 : W.cell? ⟨wr.heap.size, 0, none⟩ = some (.int .i64 op) := blk_cell B0 0 rfl
        have q1 : W.cell? ⟨wr.heap.size, 1, none⟩ = some (.int .i64 r) := blk_cell B0 1 rfl
        have q2 : W.cell? ⟨wr.heap.size, 2, none⟩ = some (.int .i64 a) := blk_cell B0 2 rfl
        have q3 : W.cell? ⟨wr.heap.size, 3, none⟩ = some (.int .i64 b) := blk_cell B0 3 rfl
        have q4 : W.cell? ⟨wr.heap.size, 4, none⟩ = some (.int .i64 kk) := blk_cell B0 4 rfl
        have hop : op = 0 ∨ op = 1 ∨ op = 2 ∨ op = 3 ∨ op = 4 ∨ op = 5 ∨ op = 6 ∨ op = 7 ∨ op = 8 ∨ op = 9 ∨ op = 10 ∨ op < 0 ∨ 10 < op := by omega
        have hlenF := textF_len ⟨op, r, a, b, kk⟩
        clear B0 hownW HE hT
        rcases hop with rfl | rfl | rfl | rfl | rfl | rfl | rfl | rfl | rfl | rfl | rfl | ho | ho
        · go_wp2_with fail
          go_region_held3 (fun w' => w'.cell? ⟨wr.heap.size, 0, none⟩ = some (.int .i64 0) ∧ w'.cell? ⟨wr.heap.size, 1, none⟩ = some (.int .i64 r) ∧ w'.cell? ⟨wr.heap.size, 2, none⟩ = some (.int .i64 a) ∧ w'.cell? ⟨wr.heap.size, 3, none⟩ = some (.int .i64 b) ∧ w'.cell? ⟨wr.heap.size, 4, none⟩ = some (.int .i64 kk) ∧ wr.heap.size < w'.heap.size ∧ Below W.heap.size W w') (first | assumption | exact ⟨q0, q1, q2, q3, q4, hz, (Below.refl _ _).drew⟩)
            (first | (go_at_call_of 27 (Value.int IntKind.i64 r); refine (regI_str _ okr _).mono ?_; rintro e w1 ⟨s1, rfl, hs1, Hs1, hbel1⟩; have hS1 := box_keep (o := ⟨0, r, a, b, kk⟩) hbel1 (by assumption); have p1_0 := cat_run s1 { data := #[32, 61, 32] } (by (try simp only [ByteArray.size_append]); show s1.size + 3 ≤ 1000000; omega)) | (go_at_call_of 28 (Value.int IntKind.i64 kk); refine (itoa_str _ okk _).mono ?_; rintro e w2 ⟨s2, rfl, hs2, Hs2, hbel2⟩; have hS2 := box_keep (o := ⟨0, r, a, b, kk⟩) hbel2 (by assumption); have p2_0 := cat_run (s1 ++ { data := #[32, 61, 32] }) s2 (by (try simp only [ByteArray.size_append]); show s1.size + 3 + s2.size ≤ 1000000; omega)))
          go_wp2
          go_meet
          case rel => exact ⟨_, rfl, by rw [fin_0 r a b kk (unhide Hs1) (unhide Hs2), strOfNums_size]; exact hlenF, fin_0 r a b kk (unhide Hs1) (unhide Hs2), hS2.2.2.2.2.2.2⟩
        · go_wp2_with fail
          go_region_held3 (fun w' => w'.cell? ⟨wr.heap.size, 0, none⟩ = some (.int .i64 1) ∧ w'.cell? ⟨wr.heap.size, 1, none⟩ = some (.int .i64 r) ∧ w'.cell? ⟨wr.heap.size, 2, none⟩ = some (.int .i64 a) ∧ w'.cell? ⟨wr.heap.size, 3, none⟩ = some (.int .i64 b) ∧ w'.cell? ⟨wr.heap.size, 4, none⟩ = some (.int .i64 kk) ∧ wr.heap.size < w'.heap.size ∧ Below W.heap.size W w') (first | assumption | exact ⟨q0, q1, q2, q3, q4, hz, (Below.refl _ _).drew⟩)
            (first | (go_at_call_of 27 (Value.int IntKind.i64 r); refine (regI_str _ okr _).mono ?_; rintro e w1 ⟨s1, rfl, hs1, Hs1, hbel1⟩; have hS1 := box_keep (o := ⟨1, r, a, b, kk⟩) hbel1 (by assumption); have p1_0 := cat_run s1 { data := #[32, 61, 32, 97, 114, 103, 32] } (by (try simp only [ByteArray.size_append]); show s1.size + 7 ≤ 1000000; omega)) | (go_at_call_of 28 (Value.int IntKind.i64 kk); refine (itoa_str _ okk _).mono ?_; rintro e w2 ⟨s2, rfl, hs2, Hs2, hbel2⟩; have hS2 := box_keep (o := ⟨1, r, a, b, kk⟩) hbel2 (by assumption); have p2_0 := cat_run (s1 ++ { data := #[32, 61, 32, 97, 114, 103, 32] }) s2 (by (try simp only [ByteArray.size_append]); show s1.size + 7 + s2.size ≤ 1000000; omega)))
          go_wp2
          go_meet
          case rel => exact ⟨_, rfl, by rw [fin_1 r a b kk (unhide Hs1) (unhide Hs2), strOfNums_size]; exact hlenF, fin_1 r a b kk (unhide Hs1) (unhide Hs2), hS2.2.2.2.2.2.2⟩
        · go_wp2_with fail
          go_region_held3 (fun w' => w'.cell? ⟨wr.heap.size, 0, none⟩ = some (.int .i64 2) ∧ w'.cell? ⟨wr.heap.size, 1, none⟩ = some (.int .i64 r) ∧ w'.cell? ⟨wr.heap.size, 2, none⟩ = some (.int .i64 a) ∧ w'.cell? ⟨wr.heap.size, 3, none⟩ = some (.int .i64 b) ∧ w'.cell? ⟨wr.heap.size, 4, none⟩ = some (.int .i64 kk) ∧ wr.heap.size < w'.heap.size ∧ Below W.heap.size W w') (first | assumption | exact ⟨q0, q1, q2, q3, q4, hz, (Below.refl _ _).drew⟩)
            (first | (go_at_call_of 27 (Value.int IntKind.i64 r); refine (regI_str _ okr _).mono ?_; rintro e w1 ⟨s1, rfl, hs1, Hs1, hbel1⟩; have hS1 := box_keep (o := ⟨2, r, a, b, kk⟩) hbel1 (by assumption); have p1_0 := cat_run s1 { data := #[32, 61, 32] } (by (try simp only [ByteArray.size_append]); show s1.size + 3 ≤ 1000000; omega)) | (go_at_call_of 27 (Value.int IntKind.i64 a); refine (regI_str _ oka _).mono ?_; rintro e w2 ⟨s2, rfl, hs2, Hs2, hbel2⟩; have hS2 := box_keep (o := ⟨2, r, a, b, kk⟩) hbel2 (by assumption); have p2_0 := cat_run (s1 ++ { data := #[32, 61, 32] }) s2 (by (try simp only [ByteArray.size_append]); show s1.size + 3 + s2.size ≤ 1000000; omega); have p2_1 := cat_run ((s1 ++ { data := #[32, 61, 32] }) ++ s2) { data := #[32, 43, 32] } (by (try simp only [ByteArray.size_append]); show s1.size + 3 + s2.size + 3 ≤ 1000000; omega)) | (go_at_call_of 27 (Value.int IntKind.i64 b); refine (regI_str _ okb _).mono ?_; rintro e w3 ⟨s3, rfl, hs3, Hs3, hbel3⟩; have hS3 := box_keep (o := ⟨2, r, a, b, kk⟩) hbel3 (by assumption); have p3_0 := cat_run (((s1 ++ { data := #[32, 61, 32] }) ++ s2) ++ { data := #[32, 43, 32] }) s3 (by (try simp only [ByteArray.size_append]); show s1.size + 3 + s2.size + 3 + s3.size ≤ 1000000; omega)))
          go_wp2
          go_meet
          case rel => exact ⟨_, rfl, by rw [fin_2 r a b kk (unhide Hs1) (unhide Hs2) (unhide Hs3), strOfNums_size]; exact hlenF, fin_2 r a b kk (unhide Hs1) (unhide Hs2) (unhide Hs3), hS3.2.2.2.2.2.2⟩
        · go_wp2_with fail
          go_region_held3 (fun w' => w'.cell? ⟨wr.heap.size, 0, none⟩ = some (.int .i64 3) ∧ w'.cell? ⟨wr.heap.size, 1, none⟩ = some (.int .i64 r) ∧ w'.cell? ⟨wr.heap.size, 2, none⟩ = some (.int .i64 a) ∧ w'.cell? ⟨wr.heap.size, 3, none⟩ = some (.int .i64 b) ∧ w'.cell? ⟨wr.heap.size, 4, none⟩ = some (.int .i64 kk) ∧ wr.heap.size < w'.heap.size ∧ Below W.heap.size W w') (first | assumption | exact ⟨q0, q1, q2, q3, q4, hz, (Below.refl _ _).drew⟩)
            (first | (go_at_call_of 27 (Value.int IntKind.i64 r); refine (regI_str _ okr _).mono ?_; rintro e w1 ⟨s1, rfl, hs1, Hs1, hbel1⟩; have hS1 := box_keep (o := ⟨3, r, a, b, kk⟩) hbel1 (by assumption); have p1_0 := cat_run s1 { data := #[32, 61, 32] } (by (try simp only [ByteArray.size_append]); show s1.size + 3 ≤ 1000000; omega)) | (go_at_call_of 27 (Value.int IntKind.i64 a); refine (regI_str _ oka _).mono ?_; rintro e w2 ⟨s2, rfl, hs2, Hs2, hbel2⟩; have hS2 := box_keep (o := ⟨3, r, a, b, kk⟩) hbel2 (by assumption); have p2_0 := cat_run (s1 ++ { data := #[32, 61, 32] }) s2 (by (try simp only [ByteArray.size_append]); show s1.size + 3 + s2.size ≤ 1000000; omega); have p2_1 := cat_run ((s1 ++ { data := #[32, 61, 32] }) ++ s2) { data := #[32, 45, 32] } (by (try simp only [ByteArray.size_append]); show s1.size + 3 + s2.size + 3 ≤ 1000000; omega)) | (go_at_call_of 27 (Value.int IntKind.i64 b); refine (regI_str _ okb _).mono ?_; rintro e w3 ⟨s3, rfl, hs3, Hs3, hbel3⟩; have hS3 := box_keep (o := ⟨3, r, a, b, kk⟩) hbel3 (by assumption); have p3_0 := cat_run (((s1 ++ { data := #[32, 61, 32] }) ++ s2) ++ { data := #[32, 45, 32] }) s3 (by (try simp only [ByteArray.size_append]); show s1.size + 3 + s2.size + 3 + s3.size ≤ 1000000; omega)))
          go_wp2
          go_meet
          case rel => exact ⟨_, rfl, by rw [fin_3 r a b kk (unhide Hs1) (unhide Hs2) (unhide Hs3), strOfNums_size]; exact hlenF, fin_3 r a b kk (unhide Hs1) (unhide Hs2) (unhide Hs3), hS3.2.2.2.2.2.2⟩
        · go_wp2_with fail
          go_region_held3 (fun w' => w'.cell? ⟨wr.heap.size, 0, none⟩ = some (.int .i64 4) ∧ w'.cell? ⟨wr.heap.size, 1, none⟩ = some (.int .i64 r) ∧ w'.cell? ⟨wr.heap.size, 2, none⟩ = some (.int .i64 a) ∧ w'.cell? ⟨wr.heap.size, 3, none⟩ = some (.int .i64 b) ∧ w'.cell? ⟨wr.heap.size, 4, none⟩ = some (.int .i64 kk) ∧ wr.heap.size < w'.heap.size ∧ Below W.heap.size W w') (first | assumption | exact ⟨q0, q1, q2, q3, q4, hz, (Below.refl _ _).drew⟩)
            (first | (go_at_call_of 27 (Value.int IntKind.i64 r); refine (regI_str _ okr _).mono ?_; rintro e w1 ⟨s1, rfl, hs1, Hs1, hbel1⟩; have hS1 := box_keep (o := ⟨4, r, a, b, kk⟩) hbel1 (by assumption); have p1_0 := cat_run s1 { data := #[32, 61, 32] } (by (try simp only [ByteArray.size_append]); show s1.size + 3 ≤ 1000000; omega)) | (go_at_call_of 27 (Value.int IntKind.i64 a); refine (regI_str _ oka _).mono ?_; rintro e w2 ⟨s2, rfl, hs2, Hs2, hbel2⟩; have hS2 := box_keep (o := ⟨4, r, a, b, kk⟩) hbel2 (by assumption); have p2_0 := cat_run (s1 ++ { data := #[32, 61, 32] }) s2 (by (try simp only [ByteArray.size_append]); show s1.size + 3 + s2.size ≤ 1000000; omega); have p2_1 := cat_run ((s1 ++ { data := #[32, 61, 32] }) ++ s2) { data := #[32, 42, 32] } (by (try simp only [ByteArray.size_append]); show s1.size + 3 + s2.size + 3 ≤ 1000000; omega)) | (go_at_call_of 27 (Value.int IntKind.i64 b); refine (regI_str _ okb _).mono ?_; rintro e w3 ⟨s3, rfl, hs3, Hs3, hbel3⟩; have hS3 := box_keep (o := ⟨4, r, a, b, kk⟩) hbel3 (by assumption); have p3_0 := cat_run (((s1 ++ { data := #[32, 61, 32] }) ++ s2) ++ { data := #[32, 42, 32] }) s3 (by (try simp only [ByteArray.size_append]); show s1.size + 3 + s2.size + 3 + s3.size ≤ 1000000; omega)))
          go_wp2
          go_meet
          case rel => exact ⟨_, rfl, by rw [fin_4 r a b kk (unhide Hs1) (unhide Hs2) (unhide Hs3), strOfNums_size]; exact hlenF, fin_4 r a b kk (unhide Hs1) (unhide Hs2) (unhide Hs3), hS3.2.2.2.2.2.2⟩
        · go_wp2_with fail
          go_region_held3 (fun w' => w'.cell? ⟨wr.heap.size, 0, none⟩ = some (.int .i64 5) ∧ w'.cell? ⟨wr.heap.size, 1, none⟩ = some (.int .i64 r) ∧ w'.cell? ⟨wr.heap.size, 2, none⟩ = some (.int .i64 a) ∧ w'.cell? ⟨wr.heap.size, 3, none⟩ = some (.int .i64 b) ∧ w'.cell? ⟨wr.heap.size, 4, none⟩ = some (.int .i64 kk) ∧ wr.heap.size < w'.heap.size ∧ Below W.heap.size W w') (first | assumption | exact ⟨q0, q1, q2, q3, q4, hz, (Below.refl _ _).drew⟩)
            (first | (go_at_call_of 27 (Value.int IntKind.i64 r); refine (regI_str _ okr _).mono ?_; rintro e w1 ⟨s1, rfl, hs1, Hs1, hbel1⟩; have hS1 := box_keep (o := ⟨5, r, a, b, kk⟩) hbel1 (by assumption); have p1_0 := cat_run s1 { data := #[32, 61, 32] } (by (try simp only [ByteArray.size_append]); show s1.size + 3 ≤ 1000000; omega)) | (go_at_call_of 27 (Value.int IntKind.i64 a); refine (regI_str _ oka _).mono ?_; rintro e w2 ⟨s2, rfl, hs2, Hs2, hbel2⟩; have hS2 := box_keep (o := ⟨5, r, a, b, kk⟩) hbel2 (by assumption); have p2_0 := cat_run (s1 ++ { data := #[32, 61, 32] }) s2 (by (try simp only [ByteArray.size_append]); show s1.size + 3 + s2.size ≤ 1000000; omega)))
          go_wp2
          go_meet
          case rel => exact ⟨_, rfl, by rw [fin_5 r a b kk (unhide Hs1) (unhide Hs2), strOfNums_size]; exact hlenF, fin_5 r a b kk (unhide Hs1) (unhide Hs2), hS2.2.2.2.2.2.2⟩
        · go_wp2_with fail
          go_region_held3 (fun w' => w'.cell? ⟨wr.heap.size, 0, none⟩ = some (.int .i64 6) ∧ w'.cell? ⟨wr.heap.size, 1, none⟩ = some (.int .i64 r) ∧ w'.cell? ⟨wr.heap.size, 2, none⟩ = some (.int .i64 a) ∧ w'.cell? ⟨wr.heap.size, 3, none⟩ = some (.int .i64 b) ∧ w'.cell? ⟨wr.heap.size, 4, none⟩ = some (.int .i64 kk) ∧ wr.heap.size < w'.heap.size ∧ Below W.heap.size W w') (first | assumption | exact ⟨q0, q1, q2, q3, q4, hz, (Below.refl _ _).drew⟩)
            (first | (go_at_call_of 27 (Value.int IntKind.i64 a); refine (regI_str _ oka _).mono ?_; rintro e w1 ⟨s1, rfl, hs1, Hs1, hbel1⟩; have hS1 := box_keep (o := ⟨6, r, a, b, kk⟩) hbel1 (by assumption); have p1_0 := cat_run { data := #[115, 119, 97, 112, 32] } s1 (by (try simp only [ByteArray.size_append]); show 5 + s1.size ≤ 1000000; omega); have p1_1 := cat_run ({ data := #[115, 119, 97, 112, 32] } ++ s1) { data := #[32] } (by (try simp only [ByteArray.size_append]); show 5 + s1.size + 1 ≤ 1000000; omega)) | (go_at_call_of 27 (Value.int IntKind.i64 b); refine (regI_str _ okb _).mono ?_; rintro e w2 ⟨s2, rfl, hs2, Hs2, hbel2⟩; have hS2 := box_keep (o := ⟨6, r, a, b, kk⟩) hbel2 (by assumption); have p2_0 := cat_run (({ data := #[115, 119, 97, 112, 32] } ++ s1) ++ { data := #[32] }) s2 (by (try simp only [ByteArray.size_append]); show 5 + s1.size + 1 + s2.size ≤ 1000000; omega)))
          go_wp2
          go_meet
          case rel => exact ⟨_, rfl, by rw [fin_6 r a b kk (unhide Hs1) (unhide Hs2), strOfNums_size]; exact hlenF, fin_6 r a b kk (unhide Hs1) (unhide Hs2), hS2.2.2.2.2.2.2⟩
        · go_wp2
          go_meet
          case rel => exact ⟨_, rfl, by rw [fin_7 r a b kk , strOfNums_size]; exact hlenF, fin_7 r a b kk , Below.refl _ _⟩
        · go_wp2_with fail
          refine (itoa_str _ okk _).mono ?_
          rintro e w1 ⟨s1, rfl, hs1, Hs1, hb1⟩
          have p1 := cat_run { data := #[106, 109, 112, 32] } s1 (by show 4 + s1.size ≤ 1000000; omega)
          go_wp2
          go_meet
          case rel => exact ⟨_, rfl, by rw [fin_8 r a b kk (unhide Hs1), strOfNums_size]; exact hlenF, fin_8 r a b kk (unhide Hs1), hb1⟩
        · go_wp2_with fail
          go_region_held3 (fun w' => w'.cell? ⟨wr.heap.size, 0, none⟩ = some (.int .i64 9) ∧ w'.cell? ⟨wr.heap.size, 1, none⟩ = some (.int .i64 r) ∧ w'.cell? ⟨wr.heap.size, 2, none⟩ = some (.int .i64 a) ∧ w'.cell? ⟨wr.heap.size, 3, none⟩ = some (.int .i64 b) ∧ w'.cell? ⟨wr.heap.size, 4, none⟩ = some (.int .i64 kk) ∧ wr.heap.size < w'.heap.size ∧ Below W.heap.size W w') (first | assumption | exact ⟨q0, q1, q2, q3, q4, hz, (Below.refl _ _).drew⟩)
            (first | (go_at_call_of 27 (Value.int IntKind.i64 a); refine (regI_str _ oka _).mono ?_; rintro e w1 ⟨s1, rfl, hs1, Hs1, hbel1⟩; have hS1 := box_keep (o := ⟨9, r, a, b, kk⟩) hbel1 (by assumption); have p1_0 := cat_run { data := #[106, 122, 32] } s1 (by (try simp only [ByteArray.size_append]); show 3 + s1.size ≤ 1000000; omega); have p1_1 := cat_run ({ data := #[106, 122, 32] } ++ s1) { data := #[32] } (by (try simp only [ByteArray.size_append]); show 3 + s1.size + 1 ≤ 1000000; omega)) | (go_at_call_of 28 (Value.int IntKind.i64 kk); refine (itoa_str _ okk _).mono ?_; rintro e w2 ⟨s2, rfl, hs2, Hs2, hbel2⟩; have hS2 := box_keep (o := ⟨9, r, a, b, kk⟩) hbel2 (by assumption); have p2_0 := cat_run (({ data := #[106, 122, 32] } ++ s1) ++ { data := #[32] }) s2 (by (try simp only [ByteArray.size_append]); show 3 + s1.size + 1 + s2.size ≤ 1000000; omega)))
          go_wp2
          go_meet
          case rel => exact ⟨_, rfl, by rw [fin_9 r a b kk (unhide Hs1) (unhide Hs2), strOfNums_size]; exact hlenF, fin_9 r a b kk (unhide Hs1) (unhide Hs2), hS2.2.2.2.2.2.2⟩
        · go_wp2_with fail
          refine (itoa_str _ oka _).mono ?_
          rintro e w1 ⟨s1, rfl, hs1, Hs1, hb1⟩
          have p1 := cat_run { data := #[104, 97, 108, 116, 32] } s1 (by show 5 + s1.size ≤ 1000000; omega)
          go_wp2
          go_meet
          case rel => exact ⟨_, rfl, by rw [fin_10 r a b kk (unhide Hs1), strOfNums_size]; exact hlenF, fin_10 r a b kk (unhide Hs1), hb1⟩
        · go_wp2_with fail
          refine (itoa_str _ okop _).mono ?_
          rintro e w1 ⟨s1, rfl, hs1, Hs1, hb1⟩
          have p1 := cat_run { data := #[98, 97, 100, 32] } s1 (by show 4 + s1.size ≤ 1000000; omega)
          go_wp2
          go_meet
          case rel => exact ⟨_, rfl, by rw [fin_11 op r a b kk (by omega) (unhide Hs1), strOfNums_size]; exact hlenF, fin_11 op r a b kk (by omega) (unhide Hs1), hb1⟩
        · go_wp2_with fail
          refine (itoa_str _ okop _).mono ?_
          rintro e w1 ⟨s1, rfl, hs1, Hs1, hb1⟩
          have p1 := cat_run { data := #[98, 97, 100, 32] } s1 (by show 4 + s1.size ≤ 1000000; omega)
          go_wp2
          go_meet
          case rel => exact ⟨_, rfl, by rw [fin_11 op r a b kk (by omega) (unhide Hs1), strOfNums_size]; exact hlenF, fin_11 op r a b kk (by omega) (unhide Hs1), hb1⟩
      case rest =>
        obtain ⟨str, rfl, hstr, HSTR, hbc⟩ := hcut
        have B1 := keepb hbc B0 hz
        have hownc := own_below' hownW hbc
        have hbwc : Below w.heap.size w wc := hbW.trans (hbc.mono hszW)
        have hszc := hbwc.size
        clear hownW hbc B0 hbW hz
        have hd := decF_len k
        have ht := textF_len ⟨op, r, a, b, kk⟩
        go_wp2_with fail
        refine (itoa_str (k : Int) ⟨by omega, by omega⟩ _).mono ?_
        rintro e w1 ⟨s1, rfl, hs1, HS1, hb1⟩
        have B2 := keepb hb1 B1 (blk_lt B1)
        have hbw1 : Below w.heap.size w w1 := hbwc.trans (hb1.mono hszc)
        have hown1 := own_below' hownc hb1
        clear hownc hb1 B1
        go_wp2_with (at_builtin; refine Lib.wpList_append_own_string _ rfl (.tmp 138) (.tmp 140) 22 9 rfl w.heap.size 5 i0 Yabv.underlying22 Yabv.underlying9 hi hz0 hz1 hz2 _ _ _ rfl hown1 s1 rfl (by unfold maxLen; omega) (by omega) hbw1.size ?_)
        intro v2 w2 hown2 hg2 _
        obtain ⟨how2, hbw2, hsz2, B3⟩ := step_app hown1 hbw1 hbw1.size B2 hown2 hg2 (unhide HS1) (Pr_dec k)
        clear hown2 hg2 hown1 B2 HS1
        have hl2 : (T ++ decF k).length ≤ 124 * k + 21 := by simp; omega
        obtain ⟨T2, HT2⟩ : ∃ T2 : List Int, Hid (T2 = T ++ decF k) := ⟨_, hide rfl⟩
        rw [← unhide HT2] at how2 hl2
        go_wp2_with (at_builtin; refine Lib.wpList_append_own_string _ rfl (.tmp 142) (.const (.string { data := #[58, 32] })) 22 9 rfl w.heap.size 5 i0 Yabv.underlying22 Yabv.underlying9 hi hz0 hz1 hz2 _ _ _ rfl how2 { data := #[58, 32] } rfl (by show _ + 2 ≤ 9223372036854775807; omega) (by show _ + 2 ≤ _; omega) hbw2.size ?_)
        intro v3 w3 hown3 hg3 _
        obtain ⟨how3, hbw3, hsz3, B4⟩ := step_app how2 hbw2 hsz2 B3 (s := { data := #[58, 32] }) hown3 hg3 (D := [58, 32]) rfl (Pr_lit (by decide))
        clear hown3 hg3 how2 B3
        have hl3 : (T2 ++ [58, 32]).length ≤ 124 * k + 23 := by simp; omega
        obtain ⟨T3, HT3⟩ : ∃ T3 : List Int, Hid (T3 = T2 ++ [58, 32]) := ⟨_, hide rfl⟩
        rw [← unhide HT3] at how3 hl3
        go_wp2_with (at_builtin; refine Lib.wpList_append_own_string _ rfl (.tmp 144) (.tmp 145) 22 9 rfl w.heap.size 5 i0 Yabv.underlying22 Yabv.underlying9 hi hz0 hz1 hz2 _ _ _ rfl how3 str rfl (by unfold maxLen; omega) (by omega) hbw3.size ?_)
        intro v5 w5 hown5 hg5 _
        obtain ⟨how5, hbw5, hsz5, B5⟩ := step_app how3 hbw3 hsz3 B4 hown5 hg5 (unhide HSTR) (Pr_text _)
        clear hown5 hg5 how3 B4 HSTR
        have hl5 : (T3 ++ textF ⟨op, r, a, b, kk⟩).length ≤ 124 * k + 123 := by simp; omega
        obtain ⟨T5, HT5⟩ : ∃ T5 : List Int, Hid (T5 = T3 ++ textF ⟨op, r, a, b, kk⟩) := ⟨_, hide rfl⟩
        rw [← unhide HT5] at how5 hl5
        go_wp2_with (at_builtin; refine wpList_append_own _ rfl (.tmp 147) (.tmp 148) 22 rfl w.heap.size 5 i0 (.int .u8 0) 1 1 Yabv.underlying22 hi hz0 hz1 hz2 rfl (by decide) _ _ _ rfl (how5.alloc _) ⟨w5.heap.size, 0, none⟩ 1 1 [.int .u8 10] rfl rfl (cell_one_new _ _ _) (by intro u hu; simp at hu; subst hu; rfl) (by unfold maxLen; omega) (by omega) (by simp; omega) ?_)
        intro v6 w6 how6 hg6 _
        have hbw6 : Below w.heap.size w w6 := (hbw5.alloc hsz5 _).grown hg6 (by simp; omega) (fun g hg => (how5.lt g hg).1)
        clear hg6 how5 B5
        go_wp2
        go_roundg (p.length - (k + 1))
        case measure => omega
        case rel => exact ⟨k + 1, by omega, rfl, by go_num, hbw6, by rw [unhide HE, ← unhide HT2, ← unhide HT3, ← unhide HT5]; simpa using how6⟩
    · obtain rfl : k = p.length := by omega
      rw [List.take_length] at hown
      obtain ⟨a2, cap2, hv⟩ := own_form hown
      rw [hv] at hown ⊢
      have hcv := conv_own hown
      go_wp2
      go_ret
      exact ⟨rfl, hbw⟩
end Go.Proofs.Yahabw
