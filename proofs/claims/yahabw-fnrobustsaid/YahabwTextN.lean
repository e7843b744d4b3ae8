import Derived.Test.YahabwList
set_option linter.unusedVariables false
set_option linter.unusedSimpArgs false
namespace Go.Proofs.Yahabw
open Go.RowKit

def byteOf (T : ByteArray) (k : Nat) : Int := ((T.data[k]?.getD 0).toNat : Int)

theorem str_index (T : ByteArray) (k : Nat) (h : k < T.size) (W : World) : (Instr.index 9 (.string T) (.int .i64 (k : Int))).run Yabv.prog W = .ok (.int .u8 (byteOf T k)) W := by
  have h' : 0 ≤ (k : Int) ∧ (k : Int) < (T.size : Int) := ⟨by omega, by omega⟩
  rw [run_index_string W 9 T .i64 k Yabv.underlying9, dif_pos h']
  have h2 : k < T.data.size := h
  simp only [byteOf, Int.toNat_natCast, Array.getElem?_eq_getElem h2, Option.getD_some]
  rfl

theorem Pr.count {l : List Int} (h : Pr l) : l.count 10 = 0 := by
  rw [List.count_eq_zero]
  intro hm
  have := (h 10 hm).1
  omega
theorem lineF_count (i : Nat) (o : R5) : (lineF i o).count 10 = 1 := by
  unfold lineF
  rw [List.count_append, List.count_append, List.count_append, (Pr_dec _).count, (Pr_text o).count]
  decide
theorem listAux_count : ∀ (i : Nat) (p : List R5), (listAux i p).count 10 = p.length
  | _, [] => by simp [listAux]
  | i, o :: p => by
    rw [listAux, List.count_append, lineF_count, listAux_count (i + 1) p, List.length_cons]
    omega
theorem listAux_range : ∀ (i : Nat) (p : List R5), ∀ n ∈ listAux i p, 0 ≤ n ∧ n ≤ 255
  | _, [] => by simp [listAux]
  | i, o :: p => by
    intro n hn
    rw [listAux] at hn
    rcases List.mem_append.1 hn with h | h
    · rw [lineF] at h
      rcases List.mem_append.1 h with h | h
      · rcases List.mem_append.1 h with h | h
        · rcases List.mem_append.1 h with h | h
          · have := Pr_dec i n h; omega
          · simp at h; omega
        · have := Pr_text o n h; omega
      · simp at h; omega
    · exact listAux_range (i + 1) p n h
theorem listAux_last (p : List R5) (hne : (listAux 0 p).length ≠ 0) : (listAux 0 p)[(listAux 0 p).length - 1]? = some 10 := by
  rcases List.eq_nil_or_concat p with rfl | ⟨q, o, rfl⟩
  · simp [listAux] at hne
  · have h : ∀ X : List Int, (X ++ [10])[(X ++ [10]).length - 1]? = some 10 := fun X => by simp
    rw [List.concat_eq_append, listAux_snoc, lineF, ← List.append_assoc]
    exact h _

theorem byteOf_str {L : List Int} (hr : ∀ n ∈ L, 0 ≤ n ∧ n ≤ 255) (k : Nat) {x : Int} (hk : L[k]? = some x) : byteOf (strOfNums L) k = x := by
  obtain ⟨hlt, rfl⟩ := List.getElem?_eq_some_iff.1 hk
  have := hr L[k] (List.getElem_mem hlt)
  unfold byteOf strOfNums
  simp [hlt]
  omega

/-- What the law asks of a listing's text. -/
theorem list_facts (p : List R5) (hp : p.length ≤ 2000000) : ∃ (T : ByteArray) (cnt : Nat → Nat), strOfNums (listAux 0 p) = T ∧ T.size ≤ 300000000 ∧ cnt 0 = 0 ∧ cnt T.size = p.length ∧ (∀ k, cnt k ≤ k) ∧
    (∀ k, k < T.size → (byteOf T k = 10 ∧ cnt (k + 1) = cnt k + 1) ∨ (byteOf T k ≠ 10 ∧ cnt (k + 1) = cnt k)) ∧ (T.size ≠ 0 → byteOf T (T.size - 1) = 10) := by
  refine ⟨_, fun k => ((listAux 0 p).take k).count 10, rfl, ?_, by simp, ?_, ?_, ?_, ?_⟩
  · rw [strOfNums_size]; have := listAux_len 0 p; omega
  · simp only [strOfNums_size, List.take_length]; exact listAux_count 0 p
  · intro k
    have h1 : ((listAux 0 p).take k).count 10 ≤ ((listAux 0 p).take k).length := List.count_le_length
    have h2 : ((listAux 0 p).take k).length ≤ k := List.length_take_le _ _
    show ((listAux 0 p).take k).count 10 ≤ k
    omega
  · intro k hk
    rw [strOfNums_size] at hk
    have hx : (listAux 0 p)[k]? = some (listAux 0 p)[k] := List.getElem?_eq_getElem hk
    rw [byteOf_str (listAux_range 0 p) k hx]
    have ht : (listAux 0 p).take (k + 1) = (listAux 0 p).take k ++ [(listAux 0 p)[k]] := List.take_succ_eq_append_getElem hk
    simp only [ht, List.count_append]
    by_cases h : (listAux 0 p)[k] = 10
    · left; rw [h]; exact ⟨rfl, by simp⟩
    · right; exact ⟨h, by simp [List.count_singleton, h]⟩
  · intro hne
    rw [strOfNums_size] at hne ⊢
    exact byteOf_str (listAux_range 0 p) _ (listAux_last p hne)
end Go.Proofs.Yahabw
