import Derived.Test.YahabwText
import Derived.Lib.AppendStr
set_option linter.unusedVariables false
set_option linter.unusedSimpArgs false
namespace Go.Proofs.Yahabw
open Go.RowKit

/-- Signs that print. -/
def Pr (l : List Int) : Prop := ∀ n ∈ l, 32 ≤ n ∧ n ≤ 122
theorem Pr.app {a b : List Int} (ha : Pr a) (hb : Pr b) : Pr (a ++ b) := fun n hn => by
  rcases List.mem_append.1 hn with h | h
  · exact ha n h
  · exact hb n h
theorem Pr.cons {a : Int} {b : List Int} (h0 : 32 ≤ a) (h1 : a ≤ 122) (hb : Pr b) : Pr (a :: b) := fun n hn => by
  rcases List.mem_cons.1 hn with rfl | h
  · exact ⟨h0, h1⟩
  · exact hb n h
theorem Pr.nil : Pr [] := fun n hn => by simp at hn
theorem Pr_dig : ∀ f u, Pr (dig f u)
  | 0, _ => by rw [dig]; exact Pr.nil
  | f + 1, u => by
    rw [dig]; split
    · exact Pr.nil
    · exact (Pr_dig f _).app (Pr.cons (by omega) (by omega) Pr.nil)
theorem Pr_dec (v : Int) : Pr (decF v) := by
  unfold decF; split
  · exact Pr.cons (by omega) (by omega) Pr.nil
  · split
    · exact Pr.cons (by omega) (by omega) (Pr_dig _ _)
    · exact Pr_dig _ _
theorem Pr_reg (v : Int) : Pr (regF v) := Pr.cons (by omega) (by omega) (Pr_dec v)
theorem Pr_lit {l : List Int} (h : l.all (fun n => decide (32 ≤ n) && decide (n ≤ 122)) = true) : Pr l := fun n hn => by
  have := List.all_eq_true.1 h n hn; simpa using this
theorem Pr_text (o : R5) : Pr (textF o) := by
  unfold textF
  have ite_ok : ∀ (c : Prop) [Decidable c] (x y : List Int), Pr x → Pr y → Pr (if c then x else y) := by
    intro c _ x y hx hy; by_cases h : c
    · rw [if_pos h]; exact hx
    · rw [if_neg h]; exact hy
  repeat' (refine ite_ok _ _ _ ?_ ?_)
  all_goals repeat' (first | apply Pr.app | apply Pr_dec | apply Pr_reg | exact Pr_lit (by decide))

theorem strCells_str {D : List Int} (h : Pr D) : Lib.strCells (strOfNums D) = D.map (Value.int .u8) := by
  unfold Lib.strCells
  rw [strOfNums_data, List.map_map]
  apply List.map_congr_left
  intro n hn
  obtain ⟨h1, h2⟩ := h n hn
  simp
  omega

def lineF (i : Nat) (o : R5) : List Int := decF i ++ [58, 32] ++ textF o ++ [10]
def listAux : Nat → List R5 → List Int
  | _, [] => []
  | i, o :: t => lineF i o ++ listAux (i + 1) t
theorem listAux_snoc : ∀ (i : Nat) (p : List R5) (o : R5), listAux i (p ++ [o]) = listAux i p ++ lineF (i + p.length) o
  | i, [], o => by simp [listAux]
  | i, x :: p, o => by
    simp only [List.cons_append, listAux, listAux_snoc (i + 1) p o, List.append_assoc, List.length_cons]
    rw [show i + 1 + p.length = i + (p.length + 1) by omega]
theorem listAux_take (p : List R5) (k : Nat) (h : k < p.length) : listAux 0 (p.take (k + 1)) = listAux 0 (p.take k) ++ decF k ++ [58, 32] ++ textF p[k] ++ [10] := by
  rw [List.take_succ_eq_append_getElem h, listAux_snoc, lineF]
  have : (p.take k).length = k := by simp; omega
  simp [this]
theorem lineF_len (i : Nat) (o : R5) : (lineF i o).length ≤ 124 := by
  have := decF_len i; have := textF_len o
  simp [lineF]; omega
theorem listAux_len : ∀ (i : Nat) (p : List R5), (listAux i p).length ≤ 124 * p.length
  | _, [] => by simp [listAux]
  | i, o :: p => by
    have := listAux_len (i + 1) p; have := lineF_len i o
    simp [listAux]; omega
theorem listTake_len (p : List R5) (k : Nat) : (listAux 0 (p.take k)).length ≤ 124 * k := by
  have := listAux_len 0 (p.take k); have : (p.take k).length ≤ k := List.length_take_le _ _; omega

theorem app_str {w : World} {base n : Nat} {v : Value} {T D : List Int} {s : ByteArray} (h : w.ownsRow base 5 1 v (n + s.size) (T.map (Value.int .u8) ++ Lib.strCells s)) (hn : n = T.length) (hs : s = strOfNums D) (hD : Pr D) :
    w.ownsRow base 5 1 v (T ++ D).length ((T ++ D).map (Value.int .u8)) := by
  subst hs; subst hn
  rw [strCells_str hD, strOfNums_size] at h
  simpa using h


/-- Behind one append of a text onto the call's own row of bytes: the row, old memory, the box. -/
theorem step_app {w w1 w2 : World} {B b : Nat} {u v2 : Value} {T D : List Int} {s : ByteArray} {cs : Array Value} (hown1 : w1.ownsRow B 5 1 u T.length (T.map (Value.int .u8))) (hbw1 : Below B w w1) (hB : B ≤ w1.heap.size) (hbox : w1.heap[b]? = some (.cells cs 65 (0, 0)))
    (hown2 : w2.ownsRow B 5 1 v2 (T.length + s.size) (T.map (Value.int .u8) ++ Lib.strCells s)) (hg : w1.grownBy w2 u.ownBlock) (hs : s = strOfNums D) (hD : Pr D) :
    w2.ownsRow B 5 1 v2 (T ++ D).length ((T ++ D).map (Value.int .u8)) ∧ Below B w w2 ∧ B ≤ w2.heap.size ∧ w2.heap[b]? = some (.cells cs 65 (0, 0)) :=
  ⟨app_str hown2 rfl hs hD, hbw1.grown hg hB (fun g hg => (hown1.lt g hg).1), Nat.le_trans hB hg.size, (hg.block b (blk_lt hbox) (fun e => own_ne hown1 hbox (by decide) e.symm)).trans hbox⟩

theorem conv_own {w : World} {base n cap : Nat} {a : Option Addr} {T : List Int} (h : w.ownsRow base 5 1 (.slice a n cap) n (T.map (Value.int .u8))) : (convert 22 9 (.slice a n cap)).run Yabv.prog w = .ok (.string (strOfNums T)) w := by
  have hl : T.length = n := by simpa using h.1
  rcases h.2 with ⟨h', h0⟩ | ⟨g, cap', cur, h', _, hg, hnc, _, hcs, htake⟩
  · subst h0
    simp only [Value.slice.injEq] at h'
    obtain ⟨rfl, _, rfl⟩ := h'
    obtain rfl : T = [] := List.eq_nil_of_length_eq_zero hl
    exact run_convert_bytes_nil w 22 5 Yabv.underlying22 Yabv.underlying5 0 0 9 Yabv.underlying9
  · simp only [Value.slice.injEq] at h'
    obtain ⟨rfl, _, rfl⟩ := h'
    refine run_convert_bytes_arg w 22 5 Yabv.underlying22 Yabv.underlying5 g 0 n cap T hl (fun i hi => ?_) 9 Yabv.underlying9
    rw [Nat.zero_add, h.cellAt i (by omega)]
    simp [show i < T.length by omega]
end Go.Proofs.Yahabw
