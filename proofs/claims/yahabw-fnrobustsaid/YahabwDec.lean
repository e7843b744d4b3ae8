import Derived.Test.YahabwBase
set_option linter.unusedVariables false
set_option linter.unusedSimpArgs false
namespace Go.Proofs.Yahabw
open Go.RowKit

/-- The decimal digits of u, as signs; f: fuel. -/
def dig : Nat → Nat → List Int
  | 0, _ => []
  | f + 1, u => if u = 0 then [] else dig f (u / 10) ++ [(48 : Int) + ((u % 10 : Nat) : Int)]
/-- The decimal text of an int64. -/
def decF (v : Int) : List Int := if v = 0 then [48] else if v < 0 then 45 :: dig 20 v.natAbs else dig 20 v.natAbs

theorem dig_zero (f : Nat) : dig f 0 = [] := by cases f <;> simp [dig]

/-- The state of the loop. -/
structure DigSt (u0 b j : Nat) (u : Int) (wr : World) : Prop where
  ex : ∃ (f u' : Nat) (T : List Int) (arr : Array Value), u = (u' : Int) ∧ j + T.length = 24 ∧ f + T.length = 20 ∧ u' < 10 ^ f ∧ dig f u' ++ T = dig 20 u0 ∧ wr.heap[b]? = some (.cells arr 91 (0, 0)) ∧ arr.size = 24 ∧
    ∀ t (h : t < T.length), arr[j + t]? = some (.int .u8 T[t])

theorem DigSt.bounds {u0 b j : Nat} {u : Int} {wr : World} (h : DigSt u0 b j u wr) : 0 ≤ u ∧ 4 ≤ j ∧ j ≤ 24 ∧ (0 < u → 5 ≤ j) := by
  obtain ⟨f, u', T, arr, rfl, h1, h2, h3, h4, _⟩ := h.ex
  refine ⟨by omega, by omega, by omega, fun h => ?_⟩
  cases f with
  | zero => simp at h3; omega
  | succ f => omega

theorem DigSt.cell {u0 b j : Nat} {u : Int} {wr : World} (h : DigSt u0 b j u wr) (m : Nat) (hm : m < 24) : (∃ v, wr.cell? ⟨b, m, none⟩ = some v) ∧ wr.frozen? ⟨b, m, none⟩ = false := by
  obtain ⟨f, u', T, arr, rfl, h1, h2, h3, h4, hb, hs, _⟩ := h.ex
  exact ⟨⟨arr[m], blk_cell hb m (Array.getElem?_eq_getElem (by omega))⟩, blk_free hb m⟩

theorem DigSt.step {u0 b m : Nat} {u : Int} {wr : World} (h : DigSt u0 b (m + 1) u wr) (hu : 0 < u) : DigSt u0 b m (u / 10) (wr.setCell ⟨b, m, none⟩ (.int .u8 (48 + u % 10))) := by
  obtain ⟨f, u', T, arr, rfl, h1, h2, h3, h4, hb, hs, hT⟩ := h.ex
  cases f with
  | zero => simp at h3; omega
  | succ f =>
    refine ⟨f, u' / 10, ((48 : Int) + ((u' % 10 : Nat) : Int)) :: T, arr.setIfInBounds m (.int .u8 ((48 : Int) + ((u' % 10 : Nat) : Int))), by omega, by simp; omega, by simp; omega, ?_, ?_, ?_, by simpa using hs, ?_⟩
    · rw [Nat.pow_succ] at h3
      omega
    · rw [← h4, dig, if_neg (by omega)]
      simp
    · have e : (48 : Int) + (u' : Int) % 10 = 48 + ((u' % 10 : Nat) : Int) := by omega
      rw [e]
      exact heap_setCell_same wr b m arr 91 _ hb
    · intro t ht
      cases t with
      | zero => simp [Array.getElem?_setIfInBounds, hs]; omega
      | succ t =>
        have := hT t (by simpa using ht)
        rw [Array.getElem?_setIfInBounds, if_neg (by omega)]
        have e : m + (t + 1) = m + 1 + t := by omega
        rw [e]
        simpa using this

theorem DigSt.start {u0 b : Nat} {w : World} (hu : u0 < 10 ^ 20) (arr : Array Value) (hb : w.heap[b]? = some (.cells arr 91 (0, 0))) (hs : arr.size = 24) : DigSt u0 b 24 u0 w :=
  ⟨20, u0, [], arr, rfl, rfl, rfl, hu, by simp, hb, hs, by simp⟩

theorem DigSt.fin {u0 b j : Nat} {wr : World} (h : DigSt u0 b j 0 wr) : j + (dig 20 u0).length = 24 ∧ ∀ i, i < (dig 20 u0).length → wr.cell? ⟨b, j + i, none⟩ = some (.int .u8 ((dig 20 u0).getD i 0)) := by
  obtain ⟨f, u', T, arr, h0, h1, h2, h3, h4, hb, hs, hT⟩ := h.ex
  obtain rfl : u' = 0 := by omega
  rw [dig_zero] at h4
  simp at h4
  subst h4
  refine ⟨h1, fun i hi => blk_cell hb _ ?_⟩
  rw [hT i hi]
  simp [hi]

theorem dig_pos (u : Nat) (h : 0 < u) : 0 < (dig 20 u).length := by
  rw [dig, if_neg (by omega)]; simp

theorem ret_str {a b : List Int} (h : a = b) : Ending.returned (.string (strOfNums a)) = .returned (.string (strOfNums b)) := by rw [h]

theorem sliceBuf (b j : Nat) (h : j < 24) (W : World) : (Instr.sliceAt 91 (.pointer (some ⟨b, 0, none⟩)) (some (.int .i64 (j : Int))) none none).run Yabv.prog W = .ok (.slice (some ⟨b, j, none⟩) (24 - j) (24 - j)) W := by
  have hal : Yabv.prog.arrayLen 91 = 24 := by simp [Program.arrayLen, Yabv.underlying91]
  have hel : Yabv.prog.elem 91 = 5 := by simp [Program.elem, Yabv.underlying91]
  obtain ⟨i0, hi, hz0, hz1, hz2⟩ := info_parts Yabv.info5
  rw [run_sliceAt_array_l W 91 ⟨b, 0, none⟩ (by rw [hal, hel]; exact Yabv.underlying91) .i64 (j : Int) (by omega) (by rw [hal]; omega), hal, hel]
  have hne : ¬ 24 = j := by omega
  simp [sizeOf, typeInfo, hi, hz1, slicedAt, hne, Addr.add_lit]

set_option maxHeartbeats 400000 in
theorem itoa_pos (v : Int) (h0 : 0 < v) (h1 : v ≤ 9223372036854775807) (w : World) :
    Calls Yabv.prog 28 #[.int .i64 v] w fun e w' => e = .returned (.string (strOfNums (decF v))) ∧ Below w.heap.size w w' := by
  obtain ⟨u0, rfl⟩ := Int.eq_ofNat_of_zero_le (Int.le_of_lt h0)
  have hd : decide ((u0 : Int) < 0) = false := by simp
  have he : ((u0 : Int) == 0) = false := by rw [beq_eq_false_iff_ne]; omega
  have hdec : decF u0 = dig 20 u0 := by unfold decF; rw [if_neg (by omega), if_neg (by omega)]; simp
  have HD := hide hdec
  clear hdec
  go_enter Yabv.func28, Yabv.ntmps28
  go_wp2
  generalize hW : World.alloc w _ = W
  have hbW : Below w.heap.size w W := by rw [← hW]; exact (Below.refl _ _).alloc (Nat.le_refl _) _
  have hst : DigSt u0 w.heap.size 24 u0 W := DigSt.start (by omega) _ (by rw [← hW]; exact heap_alloc_new w _) rfl
  clear hW
  go_loopw [4, 6] (fun i u wr => ∃ (j : Nat) (uu : Int), i = .int .i64 j ∧ u = .int .u64 uu ∧ uu ≤ u0 ∧ DigSt u0 w.heap.size j uu wr ∧ Below w.heap.size w wr)
    (fun i _ _ => (intOf i).toNat)
  case atStart => exact ⟨24, u0, rfl, rfl, Int.le_refl _, hst, hbW⟩
  case round =>
    obtain ⟨j, uu, rfl, rfl, hle, hs, hbw⟩ := hrel
    obtain ⟨b1, b2, b3, b4⟩ := hs.bounds
    by_cases hpos : 0 < uu
    · have b5 := b4 hpos
      obtain ⟨m, rfl⟩ : ∃ m, j = m + 1 := ⟨j - 1, by omega⟩
      obtain ⟨⟨v0, c0⟩, f0⟩ := hs.cell m (by omega)
      have l1 : (m : Int) < 24 := by omega
      clear b4
      go_wp2
      go_roundw
      case rel => exact ⟨m, uu / 10, rfl, rfl, by omega, hs.step hpos, hbw.setCell (Nat.le_refl _) _⟩
      case measure => simp [intOf]
    · obtain rfl : uu = 0 := by omega
      obtain ⟨e1, e2⟩ := hs.fin
      have hp := dig_pos u0 (by omega)
      have hcv := fun cap => run_convert_bytes_arg (P := Yabv.prog) wr 22 5 Yabv.underlying22 Yabv.underlying5 w.heap.size j (24 - j) cap (dig 20 u0) (by omega) (fun i hi => e2 i (by omega)) 9 Yabv.underlying9
      have l1 : j < 24 := by omega
      have l2 : ¬ 24 = j := by omega
      have hsl := sliceBuf w.heap.size j l1
      clear e2 e1 b4
      go_wp2
      go_ret
      exact ⟨ret_str (unhide HD).symm, hbw⟩
theorem neg_cells {wr : World} {b m n : Nat} {T : List Int} {v0 : Value} (c0 : wr.cell? ⟨b, m, none⟩ = some v0) (e2 : ∀ i, i < T.length → wr.cell? ⟨b, m + 1 + i, none⟩ = some (.int .u8 (T.getD i 0))) (hn : n ≤ T.length + 1) :
    ∀ i, i < n → (wr.setCell ⟨b, m, none⟩ (.int .u8 45)).cell? ⟨b, m + i, none⟩ = some (.int .u8 ((45 :: T).getD i 0)) := by
  intro i hi
  cases i with
  | zero => exact World.cell?_setCell_same _ _ _ c0
  | succ i =>
    rw [World.cell?_setCell_other _ _ _ _ (by simp)]
    have e : m + (i + 1) = m + 1 + i := by omega
    rw [e, e2 i (by omega)]
    simp

set_option maxHeartbeats 400000 in
theorem itoa_neg (v : Int) (h0 : v < 0) (h1 : -9223372036854775808 ≤ v) (w : World) :
    Calls Yabv.prog 28 #[.int .i64 v] w fun e w' => e = .returned (.string (strOfNums (decF v))) ∧ Below w.heap.size w w' := by
  obtain ⟨u0, hu⟩ := Int.eq_ofNat_of_zero_le (show 0 ≤ -v by omega)
  obtain rfl : v = -(u0 : Int) := by omega
  clear hu
  have hd : decide (-(u0 : Int) < 0) = true := by simp; omega
  have he : (-(u0 : Int) == 0) = false := by rw [beq_eq_false_iff_ne]; omega
  have hdec : decF (-(u0 : Int)) = 45 :: dig 20 u0 := by unfold decF; rw [if_neg (by omega), if_pos (by omega)]; simp
  have HD := hide hdec
  clear hdec
  go_enter Yabv.func28, Yabv.ntmps28
  go_wp2
  generalize hW : World.alloc w _ = W
  have hbW : Below w.heap.size w W := by rw [← hW]; exact (Below.refl _ _).alloc (Nat.le_refl _) _
  have hst : DigSt u0 w.heap.size 24 u0 W := DigSt.start (by omega) _ (by rw [← hW]; exact heap_alloc_new w _) rfl
  clear hW
  go_loopw [4, 6] (fun i u wr => ∃ (j : Nat) (uu : Int), i = .int .i64 j ∧ u = .int .u64 uu ∧ uu ≤ u0 ∧ DigSt u0 w.heap.size j uu wr ∧ Below w.heap.size w wr)
    (fun i _ _ => (intOf i).toNat)
  case atStart => exact ⟨24, _, rfl, rfl, by omega, by rw [show -(-(u0 : Int) + 1) + 1 = u0 by omega]; exact hst, hbW⟩
  case round =>
    obtain ⟨j, uu, rfl, rfl, hle, hs, hbw⟩ := hrel
    obtain ⟨b1, b2, b3, b4⟩ := hs.bounds
    by_cases hpos : 0 < uu
    · have b5 := b4 hpos
      obtain ⟨m, rfl⟩ : ∃ m, j = m + 1 := ⟨j - 1, by omega⟩
      obtain ⟨⟨v0, c0⟩, f0⟩ := hs.cell m (by omega)
      have l1 : (m : Int) < 24 := by omega
      clear b4
      go_wp2
      go_roundw
      case rel => exact ⟨m, uu / 10, rfl, rfl, by omega, hs.step hpos, hbw.setCell (Nat.le_refl _) _⟩
      case measure => simp [intOf]
    · obtain rfl : uu = 0 := by omega
      obtain ⟨e1, e2⟩ := hs.fin
      have hp := dig_pos u0 (by omega)
      obtain ⟨m, rfl⟩ : ∃ m, j = m + 1 := ⟨j - 1, by omega⟩
      obtain ⟨⟨v0, c0⟩, f0⟩ := hs.cell m (by omega)
      have l1 : m < 24 := by omega
      have l3 : (m : Int) < 24 := by omega
      have l2 : ¬ 24 = m := by omega
      have hcv := fun cap => run_convert_bytes_arg (P := Yabv.prog) (wr.setCell ⟨w.heap.size, m, none⟩ (.int .u8 45)) 22 5 Yabv.underlying22 Yabv.underlying5 w.heap.size m (24 - m) cap (45 :: dig 20 u0) (by simp; omega) (neg_cells c0 e2 (by omega)) 9 Yabv.underlying9
      have hsl := sliceBuf w.heap.size m l1
      clear e2 e1 b4
      go_wp2
      go_ret
      exact ⟨ret_str (unhide HD).symm, hbw.setCell (Nat.le_refl _) _⟩

theorem itoa_any (v : Int) (h0 : -9223372036854775808 ≤ v) (h1 : v ≤ 9223372036854775807) (w : World) :
    Calls Yabv.prog 28 #[.int .i64 v] w fun e w' => e = .returned (.string (strOfNums (decF v))) ∧ Below w.heap.size w w' := by
  by_cases hz : v = 0
  · subst hz
    go_enter Yabv.func28, Yabv.ntmps28
    go_wp2
    go_ret
    exact ⟨rfl, Below.refl _ _⟩
  · by_cases hp : 0 < v
    · exact itoa_pos v hp h1 w
    · exact itoa_neg v (by omega) h0 w

set_option maxHeartbeats 400000 in
theorem dec_pos (v : Int) (h0 : 0 < v) (h1 : v ≤ 9223372036854775807) (w : World) :
    Calls Yabv.prog 60 #[.int .i64 v] w fun e w' => e = .returned (.string (strOfNums (decF v))) ∧ Below w.heap.size w w' := by
  obtain ⟨u0, rfl⟩ := Int.eq_ofNat_of_zero_le (Int.le_of_lt h0)
  have hd : decide ((u0 : Int) < 0) = false := by simp
  have he : ((u0 : Int) == 0) = false := by rw [beq_eq_false_iff_ne]; omega
  have hdec : decF u0 = dig 20 u0 := by unfold decF; rw [if_neg (by omega), if_neg (by omega)]; simp
  have HD := hide hdec
  clear hdec
  go_enter Yabv.func60, Yabv.ntmps60
  go_wp2
  generalize hW : World.alloc w _ = W
  have hbW : Below w.heap.size w W := by rw [← hW]; exact (Below.refl _ _).alloc (Nat.le_refl _) _
  have hst : DigSt u0 w.heap.size 24 u0 W := DigSt.start (by omega) _ (by rw [← hW]; exact heap_alloc_new w _) rfl
  clear hW
  go_loopw [6, 4] (fun i u wr => ∃ (j : Nat) (uu : Int), i = .int .i64 j ∧ u = .int .u64 uu ∧ uu ≤ u0 ∧ DigSt u0 w.heap.size j uu wr ∧ Below w.heap.size w wr)
    (fun i _ _ => (intOf i).toNat)
  case atStart => exact ⟨24, u0, rfl, rfl, Int.le_refl _, hst, hbW⟩
  case round =>
    obtain ⟨j, uu, rfl, rfl, hle, hs, hbw⟩ := hrel
    obtain ⟨b1, b2, b3, b4⟩ := hs.bounds
    by_cases hpos : 0 < uu
    · have b5 := b4 hpos
      obtain ⟨m, rfl⟩ : ∃ m, j = m + 1 := ⟨j - 1, by omega⟩
      obtain ⟨⟨v0, c0⟩, f0⟩ := hs.cell m (by omega)
      have l1 : (m : Int) < 24 := by omega
      clear b4
      go_wp2
      go_roundw
      case rel => exact ⟨m, uu / 10, rfl, rfl, by omega, hs.step hpos, hbw.setCell (Nat.le_refl _) _⟩
      case measure => simp [intOf]
    · obtain rfl : uu = 0 := by omega
      obtain ⟨e1, e2⟩ := hs.fin
      have hp := dig_pos u0 (by omega)
      have hcv := fun cap => run_convert_bytes_arg (P := Yabv.prog) wr 22 5 Yabv.underlying22 Yabv.underlying5 w.heap.size j (24 - j) cap (dig 20 u0) (by omega) (fun i hi => e2 i (by omega)) 9 Yabv.underlying9
      have l1 : j < 24 := by omega
      have l2 : ¬ 24 = j := by omega
      have hsl := sliceBuf w.heap.size j l1
      clear e2 e1 b4
      go_wp2
      go_ret
      exact ⟨ret_str (unhide HD).symm, hbw⟩
set_option maxHeartbeats 400000 in
theorem dec_neg (v : Int) (h0 : v < 0) (h1 : -9223372036854775808 ≤ v) (w : World) :
    Calls Yabv.prog 60 #[.int .i64 v] w fun e w' => e = .returned (.string (strOfNums (decF v))) ∧ Below w.heap.size w w' := by
  obtain ⟨u0, hu⟩ := Int.eq_ofNat_of_zero_le (show 0 ≤ -v by omega)
  obtain rfl : v = -(u0 : Int) := by omega
  clear hu
  have hd : decide (-(u0 : Int) < 0) = true := by simp; omega
  have he : (-(u0 : Int) == 0) = false := by rw [beq_eq_false_iff_ne]; omega
  have hdec : decF (-(u0 : Int)) = 45 :: dig 20 u0 := by unfold decF; rw [if_neg (by omega), if_pos (by omega)]; simp
  have HD := hide hdec
  clear hdec
  go_enter Yabv.func60, Yabv.ntmps60
  go_wp2
  generalize hW : World.alloc w _ = W
  have hbW : Below w.heap.size w W := by rw [← hW]; exact (Below.refl _ _).alloc (Nat.le_refl _) _
  have hst : DigSt u0 w.heap.size 24 u0 W := DigSt.start (by omega) _ (by rw [← hW]; exact heap_alloc_new w _) rfl
  clear hW
  go_loopw [6, 4] (fun i u wr => ∃ (j : Nat) (uu : Int), i = .int .i64 j ∧ u = .int .u64 uu ∧ uu ≤ u0 ∧ DigSt u0 w.heap.size j uu wr ∧ Below w.heap.size w wr)
    (fun i _ _ => (intOf i).toNat)
  case atStart => exact ⟨24, _, rfl, rfl, by omega, by rw [show -(-(u0 : Int) + 1) + 1 = u0 by omega]; exact hst, hbW⟩
  case round =>
    obtain ⟨j, uu, rfl, rfl, hle, hs, hbw⟩ := hrel
    obtain ⟨b1, b2, b3, b4⟩ := hs.bounds
    by_cases hpos : 0 < uu
    · have b5 := b4 hpos
      obtain ⟨m, rfl⟩ : ∃ m, j = m + 1 := ⟨j - 1, by omega⟩
      obtain ⟨⟨v0, c0⟩, f0⟩ := hs.cell m (by omega)
      have l1 : (m : Int) < 24 := by omega
      clear b4
      go_wp2
      go_roundw
      case rel => exact ⟨m, uu / 10, rfl, rfl, by omega, hs.step hpos, hbw.setCell (Nat.le_refl _) _⟩
      case measure => simp [intOf]
    · obtain rfl : uu = 0 := by omega
      obtain ⟨e1, e2⟩ := hs.fin
      have hp := dig_pos u0 (by omega)
      obtain ⟨m, rfl⟩ : ∃ m, j = m + 1 := ⟨j - 1, by omega⟩
      obtain ⟨⟨v0, c0⟩, f0⟩ := hs.cell m (by omega)
      have l1 : m < 24 := by omega
      have l3 : (m : Int) < 24 := by omega
      have l2 : ¬ 24 = m := by omega
      have hcv := fun cap => run_convert_bytes_arg (P := Yabv.prog) (wr.setCell ⟨w.heap.size, m, none⟩ (.int .u8 45)) 22 5 Yabv.underlying22 Yabv.underlying5 w.heap.size m (24 - m) cap (45 :: dig 20 u0) (by simp; omega) (neg_cells c0 e2 (by omega)) 9 Yabv.underlying9
      have hsl := sliceBuf w.heap.size m l1
      clear e2 e1 b4
      go_wp2
      go_ret
      exact ⟨ret_str (unhide HD).symm, hbw.setCell (Nat.le_refl _) _⟩

theorem dec_any (v : Int) (h0 : -9223372036854775808 ≤ v) (h1 : v ≤ 9223372036854775807) (w : World) :
    Calls Yabv.prog 60 #[.int .i64 v] w fun e w' => e = .returned (.string (strOfNums (decF v))) ∧ Below w.heap.size w w' := by
  by_cases hz : v = 0
  · subst hz
    go_enter Yabv.func60, Yabv.ntmps60
    go_wp2
    go_ret
    exact ⟨rfl, Below.refl _ _⟩
  · by_cases hp : 0 < v
    · exact dec_pos v hp h1 w
    · exact dec_neg v (by omega) h0 w

end Go.Proofs.Yahabw
