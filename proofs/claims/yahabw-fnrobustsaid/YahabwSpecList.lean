import Derived.Test.YahabwList
import Derived.Test.YahabwRegText
set_option linter.unusedVariables false
set_option linter.unusedSimpArgs false
namespace Go.Proofs.Yahabw
open Go.RowKit

set_option maxHeartbeats 1000000 in
theorem specListing_any (a : Option Addr) (cap : Nat) (p : List R5) (w : World) (hp : w.ownsRow 0 65 5 (.slice a p.length cap) p.length (cellsR p)) (hlen : p.length ≤ 2000000) (ok : ∀ o ∈ p, Ok5 o) :
    Calls Yabv.prog 39 #[.slice a p.length cap] w fun e w' => e = .returned (.string (strOfNums (listAux 0 p))) ∧ Below w.heap.size w w' := by
  obtain ⟨i0, hi, hz0, hz1, hz2⟩ := info_parts Yabv.info5
  go_enter Yabv.func39, Yabv.ntmps39
  go_wp2
  go_loopw [3, 8] (fun v i wr => ∃ k : Nat, k ≤ p.length ∧ i = .int .i64 k ∧ Below w.heap.size w wr ∧ wr.ownsRow w.heap.size 5 1 v (listAux 0 (p.take k)).length ((listAux 0 (p.take k)).map (Value.int .u8)))
    (fun _ i _ => p.length - (intOf i).toNat)
  case atStart => exact ⟨0, Nat.zero_le _, rfl, Below.refl _ _, World.ownsRow_nil _ _ _ _⟩
  case round =>
    obtain ⟨k, hk, rfl, hbw, hown⟩ := hrel
    have hsz := hbw.size
    by_cases hlt : k < p.length
    · obtain ⟨g, rfl⟩ := own_some hp (by omega)
      have hgl := (hp.lt g rfl).2
      obtain ⟨c0, c1, c2, c3, c4⟩ := ownR_cell (own_below' hp hbw) k hlt
      have oko := ok p[k] (List.getElem_mem hlt)
      have hT := listTake_len p k
      have HE := hide (listAux_take p k hlt)
      have l1 : (k : Int) < (p.length : Int) := by omega
      generalize hTT : listAux 0 (p.take k) = T at *
      clear hTT
      generalize p[k] = o at *
      go_wp2_with fail
      refine (dec_str (k : Int) ⟨by omega, by omega⟩ _).mono ?_
      rintro e w1 ⟨s1, rfl, hs1, HS1, hb1⟩
      have B1 : w1.heap[wr.heap.size]? = some (.cells #[.int .i64 o.op, .int .i64 o.r, .int .i64 o.a, .int .i64 o.b, .int .i64 o.k] 65 (0, 0)) := keepb hb1 (heap_alloc_new wr _) (by simp)
      have hbw1 : Below w.heap.size w w1 := (hbw.alloc hsz _).trans (hb1.mono (by simp; omega))
      have hown1 := own_below' (hown.alloc (.cells #[.int .i64 o.op, .int .i64 o.r, .int .i64 o.a, .int .i64 o.b, .int .i64 o.k] 65 (0, 0))) hb1
      clear hown hb1
      have hd := decF_len k
      have ht := textF_len o
      go_wp2_with (at_builtin; refine Lib.wpList_append_own_string _ rfl (.tmp 13) (.tmp 15) 22 9 rfl w.heap.size 5 i0 Yabv.underlying22 Yabv.underlying9 hi hz0 hz1 hz2 _ _ _ rfl hown1 s1 rfl (by unfold maxLen; omega) (by omega) hbw1.size ?_)
      intro v2 w2 hown2 hg2 _
      obtain ⟨how2, hbw2, hsz2, B2⟩ := step_app hown1 hbw1 hbw1.size B1 hown2 hg2 (unhide HS1) (Pr_dec k)
      clear hown2 hg2 hown1 B1 HS1
      have hl2 : (T ++ decF k).length ≤ 124 * k + 21 := by simp; omega
      obtain ⟨T2, HT2⟩ : ∃ T2 : List Int, Hid (T2 = T ++ decF k) := ⟨_, hide rfl⟩
      rw [← unhide HT2] at how2 hl2
      go_wp2_with (at_builtin; refine Lib.wpList_append_own_string _ rfl (.tmp 17) (.const (.string { data := #[58, 32] })) 22 9 rfl w.heap.size 5 i0 Yabv.underlying22 Yabv.underlying9 hi hz0 hz1 hz2 _ _ _ rfl how2 { data := #[58, 32] } rfl (by show _ + 2 ≤ 9223372036854775807; omega) (by show _ + 2 ≤ _; omega) hbw2.size ?_)
      intro v3 w3 hown3 hg3 _
      obtain ⟨how3, hbw3, hsz3, B3⟩ := step_app how2 hbw2 hsz2 B2 (s := { data := #[58, 32] }) hown3 hg3 (D := [58, 32]) rfl (Pr_lit (by decide))
      clear hown3 hg3 how2 B2
      have hl3 : (T2 ++ [58, 32]).length ≤ 124 * k + 23 := by simp; omega
      obtain ⟨T3, HT3⟩ : ∃ T3 : List Int, Hid (T3 = T2 ++ [58, 32]) := ⟨_, hide rfl⟩
      rw [← unhide HT3] at how3 hl3
      have q0 := blk_cell B3 0 (u := .int .i64 o.op) rfl
      have q1 := blk_cell B3 1 (u := .int .i64 o.r) rfl
      have q2 := blk_cell B3 2 (u := .int .i64 o.a) rfl
      have q3 := blk_cell B3 3 (u := .int .i64 o.b) rfl
      have q4 := blk_cell B3 4 (u := .int .i64 o.k) rfl
      go_wp2_with fail
      refine (regText_any o oko _).mono ?_
      rintro e w4 ⟨s4, rfl, hs4, HS4, hb4⟩
      have B4 := keepb hb4 B3 (blk_lt B3)
      have hbw4 : Below w.heap.size w w4 := hbw3.trans (hb4.mono hsz3)
      have how4 := own_below' how3 hb4
      have hsz4 := hbw4.size
      clear how3 hb4 q0 q1 q2 q3 q4 B3
      go_wp2_with (at_builtin; refine Lib.wpList_append_own_string _ rfl (.tmp 19) (.tmp 21) 22 9 rfl w.heap.size 5 i0 Yabv.underlying22 Yabv.underlying9 hi hz0 hz1 hz2 _ _ _ rfl how4 s4 rfl (by unfold maxLen; omega) (by omega) hbw4.size ?_)
      intro v5 w5 hown5 hg5 _
      obtain ⟨how5, hbw5, hsz5, B5⟩ := step_app how4 hbw4 hsz4 B4 hown5 hg5 (unhide HS4) (Pr_text o)
      clear hown5 hg5 how4 B4 HS4
      have hl5 : (T3 ++ textF o).length ≤ 124 * k + 123 := by simp; omega
      obtain ⟨T5, HT5⟩ : ∃ T5 : List Int, Hid (T5 = T3 ++ textF o) := ⟨_, hide rfl⟩
      rw [← unhide HT5] at how5 hl5
      go_wp2_with (at_builtin; refine wpList_append_own _ rfl (.tmp 23) (.tmp 24) 22 rfl w.heap.size 5 i0 (.int .u8 0) 1 1 Yabv.underlying22 hi hz0 hz1 hz2 rfl (by decide) _ _ _ rfl (how5.alloc _) ⟨w5.heap.size, 0, none⟩ 1 1 [.int .u8 10] rfl rfl (cell_one_new _ _ _) (by intro u hu; simp at hu; subst hu; rfl) (by unfold maxLen; omega) (by omega) (by simp; omega) ?_)
      intro v6 w6 how6 hg6 _
      have hbw6 : Below w.heap.size w w6 := (hbw5.alloc hsz5 _).grown hg6 (by simp; omega) (fun g hg => (how5.lt g hg).1)
      clear hg6 how5 B5
      go_wp2
      go_roundw
      case rel => exact ⟨k + 1, by omega, by go_num, hbw6, by rw [unhide HE, ← unhide HT2, ← unhide HT3, ← unhide HT5]; simpa using how6⟩
      case measure => simp [intOf]; omega
    · obtain rfl : k = p.length := by omega
      rw [List.take_length] at hown
      obtain ⟨a2, cap2, hv⟩ := own_form hown
      rw [hv] at hown ⊢
      have hcv := conv_own hown
      go_wp2
      go_ret
      exact ⟨rfl, hbw⟩
end Go.Proofs.Yahabw
