import Derived.Test.YahabwMaxD
import Derived.Test.YahabwText
set_option linter.unusedVariables false
set_option linter.unusedSimpArgs false
namespace Go.Proofs.Yahabw
open Go.RowKit

theorem ok5s (o r a b k : Int) (h1 : -1000000000000 ≤ o ∧ o ≤ 1000000000000) (h2 : -1000000000000 ≤ r ∧ r ≤ 1000000000000) (h3 : -1000000000000 ≤ a ∧ a ≤ 1000000000000) (h4 : -1000000000000 ≤ b ∧ b ≤ 1000000000000) (hk : I64 k) : Ok5 ⟨o, r, a, b, k⟩ :=
  ⟨⟨by simp only; omega, by simp only; omega⟩, ⟨by simp only; omega, by simp only; omega⟩, ⟨by simp only; omega, by simp only; omega⟩, ⟨by simp only; omega, by simp only; omega⟩, hk⟩
theorem z64 : I64 0 := ⟨by omega, by omega⟩

theorem regFor_neg (c x d : Int) (w : World) (hd : d < 0) :
    Calls Yabv.prog 45 #[.agg #[.int .i64 c, .int .i64 x], .int .i64 d] w fun e w' => ∃ o : R5, e = .returned (.agg #[.int .i64 o.op, .int .i64 o.r, .int .i64 o.a, .int .i64 o.b, .int .i64 o.k]) ∧ Ok5 o ∧ Below w.heap.size w w' := by
  go_enter Yabv.func45, Yabv.ntmps45
  go_wp2
  exact bodyPost_ret (v := .agg #[.int .i64 (7), .int .i64 (0), .int .i64 (0), .int .i64 (0), .int .i64 (0)]) (by simp [results, Yabv.results45, go_sem]) rfl ⟨⟨7, 0, 0, 0, 0⟩, rfl, ok5s _ _ _ _ _ (by omega) (by omega) (by omega) (by omega) z64, ((Below.refl _ _).alloc (Nat.le_refl _) _).alloc (by simp) _⟩

theorem regFor_0 (x d : Int) (w : World) (hd : 0 ≤ d) (hd1 : d ≤ 1000000) (hx : I64 x) :
    Calls Yabv.prog 45 #[.agg #[.int .i64 0, .int .i64 x], .int .i64 d] w fun e w' => ∃ o : R5, e = .returned (.agg #[.int .i64 o.op, .int .i64 o.r, .int .i64 o.a, .int .i64 o.b, .int .i64 o.k]) ∧ Ok5 o ∧ Below w.heap.size w w' := by
  go_enter Yabv.func45, Yabv.ntmps45
  go_wp2
  exact bodyPost_ret (v := .agg #[.int .i64 (0), .int .i64 (d), .int .i64 (0), .int .i64 (0), .int .i64 (x)]) (by simp [results, Yabv.results45, go_sem]) rfl ⟨⟨0, d, 0, 0, x⟩, rfl, ok5s _ _ _ _ _ (by omega) (by omega) (by omega) (by omega) hx, ((Below.refl _ _).alloc (Nat.le_refl _) _).alloc (by simp) _⟩

theorem regFor_1 (x d : Int) (w : World) (hd : 0 ≤ d) (hd1 : d ≤ 1000000) (hx : I64 x) :
    Calls Yabv.prog 45 #[.agg #[.int .i64 1, .int .i64 x], .int .i64 d] w fun e w' => ∃ o : R5, e = .returned (.agg #[.int .i64 o.op, .int .i64 o.r, .int .i64 o.a, .int .i64 o.b, .int .i64 o.k]) ∧ Ok5 o ∧ Below w.heap.size w w' := by
  go_enter Yabv.func45, Yabv.ntmps45
  go_wp2
  exact bodyPost_ret (v := .agg #[.int .i64 (1), .int .i64 (d), .int .i64 (0), .int .i64 (0), .int .i64 (x)]) (by simp [results, Yabv.results45, go_sem]) rfl ⟨⟨1, d, 0, 0, x⟩, rfl, ok5s _ _ _ _ _ (by omega) (by omega) (by omega) (by omega) hx, ((Below.refl _ _).alloc (Nat.le_refl _) _).alloc (by simp) _⟩

theorem regFor_2 (x d : Int) (w : World) (hd : 0 ≤ d) (hd1 : d ≤ 1000000) (hx : I64 x) :
    Calls Yabv.prog 45 #[.agg #[.int .i64 2, .int .i64 x], .int .i64 d] w fun e w' => ∃ o : R5, e = .returned (.agg #[.int .i64 o.op, .int .i64 o.r, .int .i64 o.a, .int .i64 o.b, .int .i64 o.k]) ∧ Ok5 o ∧ Below w.heap.size w w' := by
  go_enter Yabv.func45, Yabv.ntmps45
  go_wp2
  exact bodyPost_ret (v := .agg #[.int .i64 (2), .int .i64 (d - 2), .int .i64 (d - 2), .int .i64 (d - 1), .int .i64 (0)]) (by simp [results, Yabv.results45, go_sem]) rfl ⟨⟨2, d - 2, d - 2, d - 1, 0⟩, rfl, ok5s _ _ _ _ _ (by omega) (by omega) (by omega) (by omega) z64, ((Below.refl _ _).alloc (Nat.le_refl _) _).alloc (by simp) _⟩

theorem regFor_3 (x d : Int) (w : World) (hd : 0 ≤ d) (hd1 : d ≤ 1000000) (hx : I64 x) :
    Calls Yabv.prog 45 #[.agg #[.int .i64 3, .int .i64 x], .int .i64 d] w fun e w' => ∃ o : R5, e = .returned (.agg #[.int .i64 o.op, .int .i64 o.r, .int .i64 o.a, .int .i64 o.b, .int .i64 o.k]) ∧ Ok5 o ∧ Below w.heap.size w w' := by
  go_enter Yabv.func45, Yabv.ntmps45
  go_wp2
  exact bodyPost_ret (v := .agg #[.int .i64 (3), .int .i64 (d - 2), .int .i64 (d - 2), .int .i64 (d - 1), .int .i64 (0)]) (by simp [results, Yabv.results45, go_sem]) rfl ⟨⟨3, d - 2, d - 2, d - 1, 0⟩, rfl, ok5s _ _ _ _ _ (by omega) (by omega) (by omega) (by omega) z64, ((Below.refl _ _).alloc (Nat.le_refl _) _).alloc (by simp) _⟩

theorem regFor_4 (x d : Int) (w : World) (hd : 0 ≤ d) (hd1 : d ≤ 1000000) (hx : I64 x) :
    Calls Yabv.prog 45 #[.agg #[.int .i64 4, .int .i64 x], .int .i64 d] w fun e w' => ∃ o : R5, e = .returned (.agg #[.int .i64 o.op, .int .i64 o.r, .int .i64 o.a, .int .i64 o.b, .int .i64 o.k]) ∧ Ok5 o ∧ Below w.heap.size w w' := by
  go_enter Yabv.func45, Yabv.ntmps45
  go_wp2
  exact bodyPost_ret (v := .agg #[.int .i64 (4), .int .i64 (d - 2), .int .i64 (d - 2), .int .i64 (d - 1), .int .i64 (0)]) (by simp [results, Yabv.results45, go_sem]) rfl ⟨⟨4, d - 2, d - 2, d - 1, 0⟩, rfl, ok5s _ _ _ _ _ (by omega) (by omega) (by omega) (by omega) z64, ((Below.refl _ _).alloc (Nat.le_refl _) _).alloc (by simp) _⟩

theorem regFor_5 (x d : Int) (w : World) (hd : 0 ≤ d) (hd1 : d ≤ 1000000) (hx : I64 x) :
    Calls Yabv.prog 45 #[.agg #[.int .i64 5, .int .i64 x], .int .i64 d] w fun e w' => ∃ o : R5, e = .returned (.agg #[.int .i64 o.op, .int .i64 o.r, .int .i64 o.a, .int .i64 o.b, .int .i64 o.k]) ∧ Ok5 o ∧ Below w.heap.size w w' := by
  go_enter Yabv.func45, Yabv.ntmps45
  go_wp2
  exact bodyPost_ret (v := .agg #[.int .i64 (5), .int .i64 (d), .int .i64 (d - 1), .int .i64 (0), .int .i64 (0)]) (by simp [results, Yabv.results45, go_sem]) rfl ⟨⟨5, d, d - 1, 0, 0⟩, rfl, ok5s _ _ _ _ _ (by omega) (by omega) (by omega) (by omega) z64, ((Below.refl _ _).alloc (Nat.le_refl _) _).alloc (by simp) _⟩

theorem regFor_6 (x d : Int) (w : World) (hd : 0 ≤ d) (hd1 : d ≤ 1000000) (hx : I64 x) :
    Calls Yabv.prog 45 #[.agg #[.int .i64 6, .int .i64 x], .int .i64 d] w fun e w' => ∃ o : R5, e = .returned (.agg #[.int .i64 o.op, .int .i64 o.r, .int .i64 o.a, .int .i64 o.b, .int .i64 o.k]) ∧ Ok5 o ∧ Below w.heap.size w w' := by
  go_enter Yabv.func45, Yabv.ntmps45
  go_wp2
  exact bodyPost_ret (v := .agg #[.int .i64 (5), .int .i64 (d), .int .i64 (d - 2), .int .i64 (0), .int .i64 (0)]) (by simp [results, Yabv.results45, go_sem]) rfl ⟨⟨5, d, d - 2, 0, 0⟩, rfl, ok5s _ _ _ _ _ (by omega) (by omega) (by omega) (by omega) z64, ((Below.refl _ _).alloc (Nat.le_refl _) _).alloc (by simp) _⟩

theorem regFor_8 (x d : Int) (w : World) (hd : 0 ≤ d) (hd1 : d ≤ 1000000) (hx : I64 x) :
    Calls Yabv.prog 45 #[.agg #[.int .i64 8, .int .i64 x], .int .i64 d] w fun e w' => ∃ o : R5, e = .returned (.agg #[.int .i64 o.op, .int .i64 o.r, .int .i64 o.a, .int .i64 o.b, .int .i64 o.k]) ∧ Ok5 o ∧ Below w.heap.size w w' := by
  go_enter Yabv.func45, Yabv.ntmps45
  go_wp2
  exact bodyPost_ret (v := .agg #[.int .i64 (6), .int .i64 (0), .int .i64 (d - 2), .int .i64 (d - 1), .int .i64 (0)]) (by simp [results, Yabv.results45, go_sem]) rfl ⟨⟨6, 0, d - 2, d - 1, 0⟩, rfl, ok5s _ _ _ _ _ (by omega) (by omega) (by omega) (by omega) z64, ((Below.refl _ _).alloc (Nat.le_refl _) _).alloc (by simp) _⟩

theorem regFor_9 (x d : Int) (w : World) (hd : 0 ≤ d) (hd1 : d ≤ 1000000) (hx : I64 x) :
    Calls Yabv.prog 45 #[.agg #[.int .i64 9, .int .i64 x], .int .i64 d] w fun e w' => ∃ o : R5, e = .returned (.agg #[.int .i64 o.op, .int .i64 o.r, .int .i64 o.a, .int .i64 o.b, .int .i64 o.k]) ∧ Ok5 o ∧ Below w.heap.size w w' := by
  go_enter Yabv.func45, Yabv.ntmps45
  go_wp2
  exact bodyPost_ret (v := .agg #[.int .i64 (8), .int .i64 (0), .int .i64 (0), .int .i64 (0), .int .i64 (x)]) (by simp [results, Yabv.results45, go_sem]) rfl ⟨⟨8, 0, 0, 0, x⟩, rfl, ok5s _ _ _ _ _ (by omega) (by omega) (by omega) (by omega) hx, ((Below.refl _ _).alloc (Nat.le_refl _) _).alloc (by simp) _⟩

theorem regFor_10 (x d : Int) (w : World) (hd : 0 ≤ d) (hd1 : d ≤ 1000000) (hx : I64 x) :
    Calls Yabv.prog 45 #[.agg #[.int .i64 10, .int .i64 x], .int .i64 d] w fun e w' => ∃ o : R5, e = .returned (.agg #[.int .i64 o.op, .int .i64 o.r, .int .i64 o.a, .int .i64 o.b, .int .i64 o.k]) ∧ Ok5 o ∧ Below w.heap.size w w' := by
  go_enter Yabv.func45, Yabv.ntmps45
  go_wp2
  exact bodyPost_ret (v := .agg #[.int .i64 (9), .int .i64 (0), .int .i64 (d - 1), .int .i64 (0), .int .i64 (x)]) (by simp [results, Yabv.results45, go_sem]) rfl ⟨⟨9, 0, d - 1, 0, x⟩, rfl, ok5s _ _ _ _ _ (by omega) (by omega) (by omega) (by omega) hx, ((Below.refl _ _).alloc (Nat.le_refl _) _).alloc (by simp) _⟩

theorem regFor_11 (x d : Int) (w : World) (hd : 0 ≤ d) (hd1 : d ≤ 1000000) (hx : I64 x) :
    Calls Yabv.prog 45 #[.agg #[.int .i64 11, .int .i64 x], .int .i64 d] w fun e w' => ∃ o : R5, e = .returned (.agg #[.int .i64 o.op, .int .i64 o.r, .int .i64 o.a, .int .i64 o.b, .int .i64 o.k]) ∧ Ok5 o ∧ Below w.heap.size w w' := by
  go_enter Yabv.func45, Yabv.ntmps45
  go_wp2
  exact bodyPost_ret (v := .agg #[.int .i64 (10), .int .i64 (0), .int .i64 (d), .int .i64 (0), .int .i64 (0)]) (by simp [results, Yabv.results45, go_sem]) rfl ⟨⟨10, 0, d, 0, 0⟩, rfl, ok5s _ _ _ _ _ (by omega) (by omega) (by omega) (by omega) z64, ((Below.refl _ _).alloc (Nat.le_refl _) _).alloc (by simp) _⟩

theorem regFor_other (c x d : Int) (w : World) (hd : 0 ≤ d) (hd1 : d ≤ 1000000) (hx : I64 x) (hc : c < 0 ∨ 11 < c ∨ c = 7) :
    Calls Yabv.prog 45 #[.agg #[.int .i64 c, .int .i64 x], .int .i64 d] w fun e w' => ∃ o : R5, e = .returned (.agg #[.int .i64 o.op, .int .i64 o.r, .int .i64 o.a, .int .i64 o.b, .int .i64 o.k]) ∧ Ok5 o ∧ Below w.heap.size w w' := by
  rcases hc with hc | hc | rfl
  · go_enter Yabv.func45, Yabv.ntmps45
    go_wp2
    exact bodyPost_ret (v := .agg #[.int .i64 (7), .int .i64 (0), .int .i64 (0), .int .i64 (0), .int .i64 (0)]) (by simp [results, Yabv.results45, go_sem]) rfl ⟨⟨7, 0, 0, 0, 0⟩, rfl, ok5s _ _ _ _ _ (by omega) (by omega) (by omega) (by omega) z64, ((Below.refl _ _).alloc (Nat.le_refl _) _).alloc (by simp) _⟩
  · go_enter Yabv.func45, Yabv.ntmps45
    go_wp2
    exact bodyPost_ret (v := .agg #[.int .i64 (7), .int .i64 (0), .int .i64 (0), .int .i64 (0), .int .i64 (0)]) (by simp [results, Yabv.results45, go_sem]) rfl ⟨⟨7, 0, 0, 0, 0⟩, rfl, ok5s _ _ _ _ _ (by omega) (by omega) (by omega) (by omega) z64, ((Below.refl _ _).alloc (Nat.le_refl _) _).alloc (by simp) _⟩
  · go_enter Yabv.func45, Yabv.ntmps45
    go_wp2
    exact bodyPost_ret (v := .agg #[.int .i64 (7), .int .i64 (0), .int .i64 (0), .int .i64 (0), .int .i64 (0)]) (by simp [results, Yabv.results45, go_sem]) rfl ⟨⟨7, 0, 0, 0, 0⟩, rfl, ok5s _ _ _ _ _ (by omega) (by omega) (by omega) (by omega) z64, ((Below.refl _ _).alloc (Nat.le_refl _) _).alloc (by simp) _⟩

theorem regFor_any (c x d : Int) (w : World) (hd1 : d ≤ 1000000) (hx : I64 x) :
    Calls Yabv.prog 45 #[.agg #[.int .i64 c, .int .i64 x], .int .i64 d] w fun e w' => ∃ o : R5, e = .returned (.agg #[.int .i64 o.op, .int .i64 o.r, .int .i64 o.a, .int .i64 o.b, .int .i64 o.k]) ∧ Ok5 o ∧ Below w.heap.size w w' := by
  by_cases hd : d < 0
  · exact regFor_neg c x d w hd
  · by_cases hc : c < 0 ∨ 11 < c ∨ c = 7
    · exact regFor_other c x d w (by omega) hd1 hx hc
    · have : c = 0 ∨ c = 1 ∨ c = 2 ∨ c = 3 ∨ c = 4 ∨ c = 5 ∨ c = 6 ∨ c = 8 ∨ c = 9 ∨ c = 10 ∨ c = 11 := by omega
      rcases this with rfl | rfl | rfl | rfl | rfl | rfl | rfl | rfl | rfl | rfl | rfl
      · exact regFor_0 x d w (by omega) hd1 hx
      · exact regFor_1 x d w (by omega) hd1 hx
      · exact regFor_2 x d w (by omega) hd1 hx
      · exact regFor_3 x d w (by omega) hd1 hx
      · exact regFor_4 x d w (by omega) hd1 hx
      · exact regFor_5 x d w (by omega) hd1 hx
      · exact regFor_6 x d w (by omega) hd1 hx
      · exact regFor_8 x d w (by omega) hd1 hx
      · exact regFor_9 x d w (by omega) hd1 hx
      · exact regFor_10 x d w (by omega) hd1 hx
      · exact regFor_11 x d w (by omega) hd1 hx
end Go.Proofs.Yahabw
