import Derived.Test.YahabwProg
import Derived.WalkKit
import Derived.WalkSpells
import Derived.WalkLawsBesides
import Derived.Handy
import Derived.Deep.RegionHeld3
import Derived.Deep.QuietTactic
import Derived.BigQuiet
import Derived.Deep.DrawnRows
import Derived.Laws.CopyOwn
set_option linter.unusedVariables false
set_option linter.unusedSimpArgs false
namespace Go.Proofs.Yahabw
open Go.RowKit

theorem hide {p : Prop} (h : p) : Hid p := h
theorem unhide {p : Prop} (h : Hid p) : p := h

def I64 (v : Int) : Prop := -9223372036854775808 ≤ v ∧ v ≤ 9223372036854775807
theorem I64_wrap (x : Int) : I64 (wrap64 x) := by unfold wrap64 I64; omega

theorem ret_int {k : IntKind} {a b : Int} (h : a = b) : Ending.returned (.int k a) = .returned (.int k b) := by rw [h]

/-- A register operation, plain. -/
structure R5 where
  op : Int
  r : Int
  a : Int
  b : Int
  k : Int

def cellS (o : Int × Int) : List Value := [.int .i64 o.1, .int .i64 o.2]
def cellR (o : R5) : List Value := [.int .i64 o.op, .int .i64 o.r, .int .i64 o.a, .int .i64 o.b, .int .i64 o.k]
def cellsS (p : List (Int × Int)) : List Value := p.flatMap cellS
def cellsR (p : List R5) : List Value := p.flatMap cellR

theorem flat_get {α β : Type} (f : α → List β) (m : Nat) (hf : ∀ x, (f x).length = m) (j : Nat) (hj : j < m) :
    ∀ (l : List α) (i : Nat), (l.flatMap f)[i * m + j]? = (l[i]?).bind (fun x => (f x)[j]?)
  | [], i => by simp
  | x :: l, 0 => by
    have := hf x
    simp [List.getElem?_append, this, hj]
  | x :: l, i + 1 => by
    have h := hf x
    have e : (i + 1) * m + j - m = i * m + j := by rw [Nat.add_mul]; omega
    have g : ¬ (i + 1) * m + j < m := by rw [Nat.add_mul]; omega
    simp only [List.flatMap_cons, List.getElem?_append, h, if_neg g, e, List.getElem?_cons_succ]
    exact flat_get f m hf j hj l i

theorem flat_len {α β : Type} (f : α → List β) (m : Nat) (hf : ∀ x, (f x).length = m) : ∀ l : List α, (l.flatMap f).length = l.length * m
  | [] => by simp
  | x :: l => by simp [flat_len f m hf l, hf x, Nat.add_mul]; omega

theorem cellsS_len (p : List (Int × Int)) : (cellsS p).length = p.length * 2 := flat_len cellS 2 (fun _ => rfl) p
theorem cellsR_len (p : List R5) : (cellsR p).length = p.length * 5 := flat_len cellR 5 (fun _ => rfl) p

theorem cellsS_get0 (p : List (Int × Int)) (i : Nat) (h : i < p.length) : (cellsS p)[i * 2]? = some (.int .i64 p[i].1) := by
  have := flat_get cellS 2 (fun _ => rfl) 0 (by decide) p i
  simpa [cellS, cellsS, List.getElem?_eq_getElem h] using this
theorem cellsS_get1 (p : List (Int × Int)) (i : Nat) (h : i < p.length) : (cellsS p)[i * 2 + 1]? = some (.int .i64 p[i].2) := by
  have := flat_get cellS 2 (fun _ => rfl) 1 (by decide) p i
  simpa [cellS, cellsS, List.getElem?_eq_getElem h] using this

theorem cellsR_get (p : List R5) (i : Nat) (h : i < p.length) : (cellsR p)[i * 5]? = some (.int .i64 p[i].op) ∧ (cellsR p)[i * 5 + 1]? = some (.int .i64 p[i].r) ∧
    (cellsR p)[i * 5 + 2]? = some (.int .i64 p[i].a) ∧ (cellsR p)[i * 5 + 3]? = some (.int .i64 p[i].b) ∧ (cellsR p)[i * 5 + 4]? = some (.int .i64 p[i].k) := by
  have h0 := flat_get cellR 5 (fun _ => rfl) 0 (by decide) p i
  have h1 := flat_get cellR 5 (fun _ => rfl) 1 (by decide) p i
  have h2 := flat_get cellR 5 (fun _ => rfl) 2 (by decide) p i
  have h3 := flat_get cellR 5 (fun _ => rfl) 3 (by decide) p i
  have h4 := flat_get cellR 5 (fun _ => rfl) 4 (by decide) p i
  simp [cellR, List.getElem?_eq_getElem h] at h0 h1 h2 h3 h4
  exact ⟨h0, h1, h2, h3, h4⟩

/-- A set of one element is a set of its cells. -/
theorem flat_set {α β : Type} (f : α → List β) (m : Nat) (hm : 0 < m) (hf : ∀ x, (f x).length = m) (y : α) (l : List α) (i : Nat) (hi : i < l.length) (xs : List β) (hx : xs.length = (l.flatMap f).length)
    (hin : ∀ j, j < m → xs[i * m + j]? = (f y)[j]?) (hout : ∀ k, (k < i * m ∨ i * m + m ≤ k) → xs[k]? = (l.flatMap f)[k]?) : xs = (l.set i y).flatMap f := by
  apply List.ext_getElem?
  intro k
  have hq : k = (k / m) * m + k % m := by have := Nat.div_add_mod k m; rw [Nat.mul_comm]; exact this.symm
  have hr : k % m < m := Nat.mod_lt _ (by omega)
  generalize k / m = q at hq
  generalize k % m = r at hq hr
  subst hq
  rw [flat_get f m hf r hr]
  by_cases hqi : q = i
  · subst hqi
    rw [hin r hr]
    simp [List.getElem?_set, hi]
  · rw [hout _ (by
      rcases Nat.lt_or_gt_of_ne hqi with h | h
      · left
        have : (q + 1) * m ≤ i * m := Nat.mul_le_mul_right _ h
        rw [Nat.add_mul] at this
        omega
      · right
        have : (i + 1) * m ≤ q * m := Nat.mul_le_mul_right _ h
        rw [Nat.add_mul] at this
        omega), flat_get f m hf r hr, List.getElem?_set, if_neg (by omega)]

theorem cellsS_set (p : List (Int × Int)) (i : Nat) (h : i < p.length) (c a : Int) : ((cellsS p).set (i * 2) (.int .i64 c)).set (i * 2 + 1) (.int .i64 a) = cellsS (p.set i (c, a)) := by
  have hl := cellsS_len p
  refine flat_set cellS 2 (by decide) (fun _ => rfl) (c, a) p i h _ (by simp [cellsS]) (fun j hj => ?_) (fun k hk => ?_)
  · match j, hj with
    | 0, _ => rw [List.getElem?_set]; simp [List.getElem?_set, cellS, hl]; omega
    | 1, _ => rw [List.getElem?_set]; simp [cellS, hl]; omega
  · rw [List.getElem?_set, if_neg (by omega), List.getElem?_set, if_neg (by omega)]; rfl

theorem cellsR_set (p : List R5) (i : Nat) (h : i < p.length) (o r a b k : Int) :
    (((((cellsR p).set (i * 5) (.int .i64 o)).set (i * 5 + 1) (.int .i64 r)).set (i * 5 + 2) (.int .i64 a)).set (i * 5 + 3) (.int .i64 b)).set (i * 5 + 4) (.int .i64 k) = cellsR (p.set i ⟨o, r, a, b, k⟩) := by
  have hl := cellsR_len p
  refine flat_set cellR 5 (by decide) (fun _ => rfl) ⟨o, r, a, b, k⟩ p i h _ (by simp [cellsR]) (fun j hj => ?_) (fun k hk => ?_)
  · match j, hj with
    | 0, _ => simp [List.getElem?_set, cellR, hl]; omega
    | 1, _ => simp [List.getElem?_set, cellR, hl]; omega
    | 2, _ => simp [List.getElem?_set, cellR, hl]; omega
    | 3, _ => simp [List.getElem?_set, cellR, hl]; omega
    | 4, _ => simp [List.getElem?_set, cellR, hl]; omega
  · rw [List.getElem?_set, if_neg (by omega), List.getElem?_set, if_neg (by omega), List.getElem?_set, if_neg (by omega), List.getElem?_set, if_neg (by omega), List.getElem?_set, if_neg (by omega)]; rfl

/-! the element types' rows -/
theorem Yabv.info2 : (Yabv.prog.info? 2).map (fun i => (i.zero, i.size, i.bytes)) = some (some (.int .i64 0), 1, 8) := by kernel_rfl
theorem Yabv.info3 : (Yabv.prog.info? 3).map (fun i => (i.zero, i.size, i.bytes)) = some (some (.int .i64 0), 1, 8) := by kernel_rfl
theorem Yabv.info5 : (Yabv.prog.info? 5).map (fun i => (i.zero, i.size, i.bytes)) = some (some (.int .u8 0), 1, 1) := by kernel_rfl
theorem Yabv.info60 : (Yabv.prog.info? 60).map (fun i => (i.zero, i.size, i.bytes)) = some (some (.agg #[.int .i64 0, .int .i64 0]), 2, 16) := by kernel_rfl
theorem Yabv.info78 : (Yabv.prog.info? 78).map (fun i => (i.zero, i.size, i.bytes)) = some (some (.agg #[.int .i64 0, .int .i64 0]), 2, 16) := by kernel_rfl
theorem Yabv.info65 : (Yabv.prog.info? 65).map (fun i => (i.zero, i.size, i.bytes)) = some (some (.agg #[.int .i64 0, .int .i64 0, .int .i64 0, .int .i64 0, .int .i64 0]), 5, 40) := by kernel_rfl
theorem Yabv.info82 : (Yabv.prog.info? 82).map (fun i => (i.zero, i.size, i.bytes)) = some (some (.agg #[.int .i64 0, .int .i64 0, .int .i64 0, .int .i64 0, .int .i64 0]), 5, 40) := by kernel_rfl

/-! worlds -/
theorem own_below {w w' : World} {base e size n : Nat} {v : Value} {xs : List Value} (h : w.ownsRow base e size v n xs) {B : Nat} (hb : Below B w w') (hv : ∀ g, v.ownBlock = some g → g < B) : w'.ownsRow base e size v n xs := by
  refine ⟨h.1, ?_⟩
  rcases h.2 with hn | ⟨g, cap, cur, rfl, hg, hh, rest⟩
  · exact .inl hn
  · exact .inr ⟨g, cap, cur, rfl, hg, by rw [hb.block g (hv g rfl)]; exact hh, rest⟩

theorem own_below' {w w' : World} {base e size n : Nat} {v : Value} {xs : List Value} (h : w.ownsRow base e size v n xs) (hb : Below w.heap.size w w') : w'.ownsRow base e size v n xs :=
  own_below h hb (fun g hg => (h.lt g hg).2)

theorem own_base {w : World} {base base' e size n : Nat} {v : Value} {xs : List Value} (h : w.ownsRow base e size v n xs) (hb : base' ≤ base) : w.ownsRow base' e size v n xs := by
  refine ⟨h.1, ?_⟩
  rcases h.2 with hn | ⟨g, cap, cur, rfl, hg, rest⟩
  · exact .inl hn
  · exact .inr ⟨g, cap, cur, rfl, by omega, rest⟩

theorem below_of_grown {w w' : World} (h : w.grownBy w' none) : Below w.heap.size w w' := ⟨h.os, h.tape, h.output, h.size, fun k hk => h.block k hk (by simp)⟩

theorem made_S (n : Nat) : (madeCells #[.int .i64 0, .int .i64 0] (n * 2)).toList = cellsS (List.replicate n (0, 0)) := by
  apply List.ext_getElem?
  intro k
  have hq : k = (k / 2) * 2 + k % 2 := by omega
  have hr : k % 2 < 2 := by omega
  generalize k / 2 = q at hq
  generalize k % 2 = r at hq hr
  subst hq
  rw [cellsS, flat_get cellS 2 (fun _ => rfl) r hr]
  match r, hr with
  | 0, _ => by_cases h : q < n <;> simp [madeCells, cellS, h] <;> omega
  | 1, _ =>
    have e : (q * 2 + 1) % 2 = 1 := by omega
    by_cases h : q < n
    · have h2 : q * 2 + 1 < n * 2 := by omega
      simp [madeCells, cellS, h, h2, e]
    · have h2 : ¬ q * 2 + 1 < n * 2 := by omega
      simp [madeCells, cellS, h, h2]

theorem made_R (n : Nat) : (madeCells #[.int .i64 0, .int .i64 0, .int .i64 0, .int .i64 0, .int .i64 0] (n * 5)).toList = cellsR (List.replicate n ⟨0, 0, 0, 0, 0⟩) := by
  apply List.ext_getElem?
  intro k
  have hq : k = (k / 5) * 5 + k % 5 := by omega
  have hr : k % 5 < 5 := by omega
  generalize k / 5 = q at hq
  generalize k % 5 = r at hq hr
  subst hq
  rw [cellsR, flat_get cellR 5 (fun _ => rfl) r hr]
  have e : (q * 5 + r) % 5 = r := by omega
  by_cases h : q < n
  · have h2 : q * 5 + r < n * 5 := by omega
    match r, hr with
    | 0, _ => simp [madeCells, cellR, h]
    | 1, _ => simp [madeCells, cellR, h, h2, e]
    | 2, _ => simp [madeCells, cellR, h, h2, e]
    | 3, _ => simp [madeCells, cellR, h, h2, e]
    | 4, _ => simp [madeCells, cellR, h, h2, e]
  · have h2 : ¬ q * 5 + r < n * 5 := by omega
    simp [madeCells, h, h2]

theorem made_I (n : Nat) : (madeCells #[.int .i64 0] n).toList = (List.replicate n (0 : Int)).map (Value.int .i64) := by
  rw [toList_madeCells_one]; simp

theorem own_form {w : World} {base e size n : Nat} {v : Value} {xs : List Value} (h : w.ownsRow base e size v n xs) : ∃ a cap, v = .slice a n cap := by
  rcases h.2 with ⟨rfl, rfl⟩ | ⟨g, cap, cur, rfl, _⟩
  · exact ⟨_, _, rfl⟩
  · exact ⟨_, _, rfl⟩

theorem own_some {w : World} {base e size n cap : Nat} {a : Option Addr} {xs : List Value} (h : w.ownsRow base e size (.slice a n cap) n xs) (hn : 0 < n) : ∃ g, a = some ⟨g, 0, none⟩ := by
  rcases h.2 with ⟨h, rfl⟩ | ⟨g, cap, cur, h, _⟩
  · omega
  · simp only [Value.slice.injEq] at h
    exact ⟨g, h.1⟩

theorem own_cap {w : World} {base e size n cap : Nat} {a : Option Addr} {xs : List Value} (h : w.ownsRow base e size (.slice a n cap) n xs) : n ≤ cap := by
  rcases h.2 with ⟨h, rfl⟩ | ⟨g, cap', cur, h, _, _, hc, _⟩
  · omega
  · simp only [Value.slice.injEq] at h
    obtain ⟨_, _, rfl⟩ := h
    exact hc

theorem ownS_cell {w : World} {base e n cap g : Nat} {p : List (Int × Int)} (h : w.ownsRow base e 2 (.slice (some ⟨g, 0, none⟩) n cap) n (cellsS p)) (k : Nat) (hk : k < p.length) :
    w.cell? ⟨g, k * 2, none⟩ = some (.int .i64 p[k].1) ∧ w.cell? ⟨g, k * 2 + 1, none⟩ = some (.int .i64 p[k].2) := by
  have h1 := h.1
  rw [cellsS_len] at h1
  rw [h.cellAt (k * 2) (by omega), h.cellAt (k * 2 + 1) (by omega), cellsS_get0 p k hk, cellsS_get1 p k hk]
  exact ⟨rfl, rfl⟩

theorem ownR_cell {w : World} {base e n cap g : Nat} {p : List R5} (h : w.ownsRow base e 5 (.slice (some ⟨g, 0, none⟩) n cap) n (cellsR p)) (k : Nat) (hk : k < p.length) :
    w.cell? ⟨g, k * 5, none⟩ = some (.int .i64 p[k].op) ∧ w.cell? ⟨g, k * 5 + 1, none⟩ = some (.int .i64 p[k].r) ∧ w.cell? ⟨g, k * 5 + 2, none⟩ = some (.int .i64 p[k].a) ∧
    w.cell? ⟨g, k * 5 + 3, none⟩ = some (.int .i64 p[k].b) ∧ w.cell? ⟨g, k * 5 + 4, none⟩ = some (.int .i64 p[k].k) := by
  have h1 := h.1
  rw [cellsR_len] at h1
  rw [h.cellAt (k * 5) (by omega), h.cellAt (k * 5 + 1) (by omega), h.cellAt (k * 5 + 2) (by omega), h.cellAt (k * 5 + 3) (by omega), h.cellAt (k * 5 + 4) (by omega)]
  exact cellsR_get p k hk

theorem ownI_cell {w : World} {base e n cap g : Nat} {p : List Int} (h : w.ownsRow base e 1 (.slice (some ⟨g, 0, none⟩) n cap) n (p.map (Value.int .i64))) (k : Nat) (hk : k < p.length) :
    w.cell? ⟨g, k, none⟩ = some (.int .i64 p[k]) := by
  have h1 := h.1
  simp at h1
  rw [h.cellAt k (by omega)]
  simp [hk]

theorem own_old {w : World} {base e size n cap g : Nat} {xs : List Value} (h : w.ownsRow base e size (.slice (some ⟨g, 0, none⟩) n cap) n xs) (k : Nat) (hk : k < xs.length) : ∃ u, w.cell? ⟨g, k, none⟩ = some u := by
  rw [h.cellAt k (by rw [← h.1]; exact hk)]
  exact ⟨_, List.getElem?_eq_getElem hk⟩

theorem ownS_store {w : World} {base e n cap g : Nat} {p : List (Int × Int)} (h : w.ownsRow base e 2 (.slice (some ⟨g, 0, none⟩) n cap) n (cellsS p)) (k : Nat) (hk : k < p.length) (c a : Int) :
    ((w.setCell ⟨g, k * 2, none⟩ (.int .i64 c)).setCell ⟨g, k * 2 + 1, none⟩ (.int .i64 a)).ownsRow base e 2 (.slice (some ⟨g, 0, none⟩) n cap) n (cellsS (p.set k (c, a))) := by
  have := ((h.stored (k * 2) (.int .i64 c)).1.stored (k * 2 + 1) (.int .i64 a)).1
  rwa [cellsS_set p k hk] at this

theorem ownR_store {w : World} {base e n cap g : Nat} {p : List R5} (h : w.ownsRow base e 5 (.slice (some ⟨g, 0, none⟩) n cap) n (cellsR p)) (i : Nat) (hi : i < p.length) (o r a b k : Int) :
    (((((w.setCell ⟨g, i * 5, none⟩ (.int .i64 o)).setCell ⟨g, i * 5 + 1, none⟩ (.int .i64 r)).setCell ⟨g, i * 5 + 2, none⟩ (.int .i64 a)).setCell ⟨g, i * 5 + 3, none⟩ (.int .i64 b)).setCell ⟨g, i * 5 + 4, none⟩ (.int .i64 k)).ownsRow base e 5 (.slice (some ⟨g, 0, none⟩) n cap) n (cellsR (p.set i ⟨o, r, a, b, k⟩)) := by
  have := (((((h.stored (i * 5) (.int .i64 o)).1.stored (i * 5 + 1) (.int .i64 r)).1.stored (i * 5 + 2) (.int .i64 a)).1.stored (i * 5 + 3) (.int .i64 b)).1.stored (i * 5 + 4) (.int .i64 k)).1
  rwa [cellsR_set p i hi] at this

theorem ownI_store {w : World} {base e n cap g : Nat} {p : List Int} (h : w.ownsRow base e 1 (.slice (some ⟨g, 0, none⟩) n cap) n (p.map (Value.int .i64))) (k : Nat) (c : Int) :
    (w.setCell ⟨g, k, none⟩ (.int .i64 c)).ownsRow base e 1 (.slice (some ⟨g, 0, none⟩) n cap) n ((p.set k c).map (Value.int .i64)) := by
  have := (h.stored k (.int .i64 c)).1
  rwa [List.map_set]

theorem fill_step {α : Type} (p : List α) (z : α) (k : Nat) (h : k < p.length) : (p.take k ++ List.replicate (p.length - k) z).set k p[k] = p.take (k + 1) ++ List.replicate (p.length - (k + 1)) z := by
  apply List.ext_getElem?
  intro j
  simp only [List.getElem?_set, List.getElem?_append, List.length_take, List.length_append, List.length_replicate, List.getElem?_take, List.getElem?_replicate]
  by_cases h1 : k = j
  · subst h1
    have h5 : k < min k p.length + (p.length - k) := by omega
    have h6 : k < min (k + 1) p.length := by omega
    simp [h5, h6, h]
  · rw [if_neg h1]
    by_cases h2 : j < k
    · have h3 : j < k + 1 := by omega
      have : j < min k p.length := by omega
      have h4 : j < min (k + 1) p.length := by omega
      simp [h2, h3, this, h4]
    · have h3 : ¬ j < k + 1 := by omega
      have : ¬ j < min k p.length := by omega
      have h4 : ¬ j < min (k + 1) p.length := by omega
      simp only [if_neg this, if_neg h4]
      congr 1
      simp
      omega

theorem below_setCell_at {B : Nat} {w w' : World} (h : Below B w w') (b off : Nat) (hb : B ≤ b) (u : Value) : Below B w (w'.setCell ⟨b, off, none⟩ u) := h.setCell hb u

theorem blk_cell {w : World} {b : Nat} {cs : Array Value} {e : TypeId} (h : w.heap[b]? = some (.cells cs e (0, 0))) (j : Nat) {u : Value} (hj : cs[j]? = some u) : w.cell? ⟨b, j, none⟩ = some u := by
  rw [cell_of_row w b j cs e (0, 0) h]; exact hj
theorem blk_free {w : World} {b : Nat} {cs : Array Value} {e : TypeId} (h : w.heap[b]? = some (.cells cs e (0, 0))) (j : Nat) : w.frozen? ⟨b, j, none⟩ = false := frozen_of_row w b j cs e h

theorem grown_setCell (w : World) (a : Addr) (u : Value) : w.grownBy (w.setCell a u) (some a.block) :=
  ⟨rfl, rfl, rfl, by simp, fun k _ hk => heap_setCell_other w a k u (fun e => hk (by simp [e]))⟩
theorem own_setCell {w : World} {base e size n : Nat} {v : Value} {xs : List Value} (h : w.ownsRow base e size v n xs) (b off : Nat) (u : Value) (hne : v.ownBlock ≠ some b) : (w.setCell ⟨b, off, none⟩ u).ownsRow base e size v n xs :=
  h.kept (grown_setCell w ⟨b, off, none⟩ u) (.inr hne)
theorem grown_trans {a b c : World} {row : Option Nat} (h : a.grownBy b row) (k : b.grownBy c row) : a.grownBy c row :=
  ⟨k.os.trans h.os, k.tape.trans h.tape, k.output.trans h.output, Nat.le_trans h.size k.size, fun i hi hn => (k.block i (Nat.lt_of_lt_of_le hi h.size) hn).trans (h.block i hi hn)⟩

theorem keepc {W w' : World} {B b o : Nat} {v : Value} (hb : Below B W w') (h : W.cell? ⟨b, o, none⟩ = some v) (hlt : b < B) : w'.cell? ⟨b, o, none⟩ = some v := (hb.cell (p := ⟨b, o, none⟩) hlt).trans h
theorem keepf {W w' : World} {B b o : Nat} {v : Bool} (hb : Below B W w') (h : W.frozen? ⟨b, o, none⟩ = v) (hlt : b < B) : w'.frozen? ⟨b, o, none⟩ = v := (hb.frozen (p := ⟨b, o, none⟩) hlt).trans h
theorem keepb {W w' : World} {B b : Nat} {v : Option Obj} (hb : Below B W w') (h : W.heap[b]? = v) (hlt : b < B) : w'.heap[b]? = v := (hb.block b hlt).trans h
theorem blk_lt {w : World} {b : Nat} {o : Obj} (h : w.heap[b]? = some o) : b < w.heap.size := (Array.getElem?_eq_some_iff.1 h).1

theorem own_ne {w : World} {base e e' size n b : Nat} {v : Value} {xs : List Value} {cs : Array Value} {fr : Nat × Nat} (h : w.ownsRow base e size v n xs) (hb : w.heap[b]? = some (.cells cs e' fr)) (hne : e ≠ e') : v.ownBlock ≠ some b := by
  intro hv
  rcases h.2 with ⟨rfl, _⟩ | ⟨g, cap, cur, rfl, _, hg, _⟩
  · simp [Value.ownBlock] at hv
  · simp [Value.ownBlock] at hv
    subst hv
    rw [hb] at hg
    simp at hg
    exact hne hg.2.1.symm

theorem cells_new (w : World) (cs : List Value) (e : TypeId) : ∀ j u, cs[j]? = some u → (w.alloc (.cells cs.toArray e)).cell? ((⟨w.heap.size, 0, none⟩ : Addr).add j) = some u := by
  intro j u hj
  rw [Addr.add_lit, Nat.zero_add]
  exact blk_cell (heap_alloc_new w _) j (by simpa using hj)
theorem ints2_one (a b : Int) : ∀ u ∈ [Value.int .i64 a, Value.int .i64 b], u.oneCell' = true := by
  intro u hu; simp at hu; rcases hu with rfl | rfl <;> rfl

/-- 'copy(dst, src)', both of n elements of one cell, dst a row of the call's own. -/
theorem wpList_copy_row {P : Program} {w : World} {ops : Array Oper} {rest : List Oper} {o : Oper} {a : Act} {Q : Exit → Act → World → Prop} (hgd : o.guard = none) (d s : Operand) (dT : TypeId)
    (ho : o.op = .call { callee := .builtin .copy, args := #[d, s], argTypes := #[dT, dT] }) (elem : TypeId) (hu : P.underlying dT = some (.slice elem)) (hsz : (P.info? elem).map (·.size) = some 1)
    (g n dCap : Nat) (sp : Option Addr) (sCap : Nat) (hd : a.eval d = .slice (some ⟨g, 0, none⟩) n dCap) (hs : a.eval s = .slice sp n sCap)
    (base base' : Nat) (xs ys : List Value) (hown : w.ownsRow base elem 1 (.slice (some ⟨g, 0, none⟩) n dCap) n xs) (hsrc : w.ownsRow base' elem 1 (.slice sp n sCap) n ys) (h1 : ∀ v ∈ ys, v.oneCell' = true)
    (h : ∀ w', w'.ownsRow base elem 1 (.slice (some ⟨g, 0, none⟩) n dCap) n ys → w.grownBy w' (some g) → wpList P ops Q rest (a.put o.dst (.int .i64 n)) w') : wpList P ops Q (o :: rest) a w := by
  have hl : ys.length = n := by simpa using hsrc.1
  have hlx : xs.length = n := by simpa using hown.1
  by_cases h0 : n = 0
  · subst h0
    obtain rfl : ys = [] := List.eq_nil_of_length_eq_zero hl
    obtain rfl : xs = [] := List.eq_nil_of_length_eq_zero hlx
    refine wpList_copy_nothing hgd d s dT dT ho elem hu hsz _ _ _ _ _ _ hd hs (by simp) ?_
    exact h w hown (World.grownBy.refl _ _)
  · obtain ⟨g', rfl⟩ := own_some hsrc (by omega)
    rcases hown.2 with ⟨h', _⟩ | ⟨g2, cap2, cur, h', hb, hg, hnc, hcm, hcs, htake⟩
    · simp at h'
    · simp only [Value.slice.injEq, Option.some.injEq, Addr.mk.injEq, and_true, true_and] at h'
      obtain ⟨rfl, rfl⟩ := h'
      refine wpList_copy_own hgd d s dT dT ho elem hu hsz g 0 n dCap _ n sCap hd hs cur elem hg ys (by simp [hl]) (fun j v hj => ?_) (by omega) h1 ?_
      · rw [Addr.add_lit, Nat.zero_add, hsrc.cellAt j (by have := (List.getElem?_eq_some_iff.1 hj).1; omega)]
        exact hj
      · have e : goInt ys.length = .int .i64 n := by rw [hl]; rfl
        rw [e]
        refine h _ ⟨by simpa using hl, .inr ⟨g, dCap, _, rfl, hb, setRow_heap w g cur _ elem _ hg, hnc, hcm, ?_, ?_⟩⟩ ⟨rfl, rfl, rfl, by simp, fun k _ hk => setRow_other w g k _ (fun e => hk (by simp [e]))⟩
        · simp; omega
        · simp [← hl]
end Go.Proofs.Yahabw
