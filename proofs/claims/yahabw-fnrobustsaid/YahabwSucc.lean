import Derived.Test.YahabwDepth2
set_option linter.unusedVariables false
set_option linter.unusedSimpArgs false
namespace Go.Proofs.Yahabw
open Go.RowKit

def edges (l : List (Nat × Int)) : List (Int × Int) := l.map fun s => ((s.1 : Int), s.2)

/-- What 'successors' hands back. -/
def SuccPost (n : Nat) (o : Int × Int) (i : Nat) (d : Int) (w : World) (e : Ending) (w' : World) : Prop :=
  (succF n o i d = none ∧ e = .returned (.tuple #[.slice none 0 0, .bool false]) ∧ Below w.heap.size w w') ∨
  ∃ (l : List (Nat × Int)) (a : Option Addr) (cap : Nat), succF n o i d = some l ∧ e = .returned (.tuple #[.slice a l.length cap, .bool true]) ∧ w'.ownsRow w.heap.size 115 2 (.slice a l.length cap) l.length (cellsS (edges l)) ∧ Below w.heap.size w w'

theorem own_edges (w : World) (base b : Nat) (cs : Array Value) (l : List (Nat × Int)) (hb : base ≤ b) (hh : w.heap[b]? = some (.cells cs 115 (0, 0))) (hcs : cs.toList = cellsS (edges l)) (hl : l.length ≤ 2) : w.ownsRow base 115 2 (.slice (some ⟨b, 0, none⟩) l.length l.length) l.length (cellsS (edges l)) := by
  have hlen : (cellsS (edges l)).length = l.length * 2 := by rw [cellsS_len]; simp [edges]
  refine ⟨hlen, .inr ⟨b, l.length, cs, rfl, hb, hh, Nat.le_refl _, by unfold maxLen; omega, ?_, ?_⟩⟩
  · rw [← Array.length_toList, hcs, hlen]
  · rw [hcs, ← hlen, List.take_length]

set_option maxHeartbeats 1000000 in
theorem succ_any (c x d : Int) (i n : Nat) (w : World) (hd0 : 0 ≤ d) (hd1 : d ≤ 1000000) (hi : i ≤ 1000000) (hn : n ≤ 1000000) :
    Calls Yabv.prog 66 #[.agg #[.int .i64 c, .int .i64 x], .int .i64 d, .int .i64 (i : Int), .int .i64 (n : Int)] w (SuccPost n (c, x) i d w) := by
  have hb1 : ∀ o, Below w.heap.size w (w.alloc o) := fun o => (Below.refl _ _).alloc (Nat.le_refl _) _
  have hb2 : ∀ o o', Below w.heap.size w ((w.alloc o).alloc o') := fun o o' => (hb1 o).alloc (by simp) _
  have hh2 : ∀ o o', ((w.alloc o).alloc o').heap[w.heap.size + 1]? = some o' := fun o o' => by simpa using heap_alloc_new (w.alloc o) o'
  have HB1 := hide hb1
  have HB2 := hide hb2
  have HH2 := hide hh2
  clear hb1 hb2 hh2
  by_cases hnd : needsF c < 0
  · go_enter Yabv.func66, Yabv.ntmps66
    go_wp2_with fail
    refine (effect_any c _).mono ?_
    rintro e w1 ⟨rfl, rfl⟩
    go_wp2
    go_ret2
    exact .inl ⟨succF_need _ _ _ _ _ (.inl hnd), rfl, unhide HB1 _⟩
  have hndb : decide (needsF c < 0) = false := by simpa using hnd
  by_cases hdn : d < needsF c
  · go_enter Yabv.func66, Yabv.ntmps66
    go_wp2_with fail
    refine (effect_any c _).mono ?_
    rintro e w1 ⟨rfl, rfl⟩
    go_wp2
    go_ret2
    exact .inl ⟨succF_need _ _ _ _ _ (.inr hdn), rfl, unhide HB1 _⟩
  have hdnb : decide (d < needsF c) = false := by simpa using hdn
  have hdl := delta_le c
  obtain ⟨hdl1, hdl2⟩ := hdl
  by_cases k11 : c = 11
  · subst k11
    go_enter Yabv.func66, Yabv.ntmps66
    go_wp2_with fail
    refine (effect_any 11 _).mono ?_
    rintro e w1 ⟨rfl, rfl⟩
    go_wp2
    go_ret2
    exact .inr ⟨[], none, 0, succF_halt _ _ _ _ hd0, rfl, World.ownsRow_nil _ _ _ _, unhide HB1 _⟩
  by_cases k9 : c = 9
  · subst k9
    by_cases hx0 : x < 0
    · go_enter Yabv.func66, Yabv.ntmps66
      go_wp2_with fail
      refine (effect_any 9 _).mono ?_
      rintro e w1 ⟨rfl, rfl⟩
      go_wp2
      go_ret2
      exact .inl ⟨succF_jmp_bad _ _ _ _ (.inl hx0), rfl, unhide HB1 _⟩
    have hx0b : decide (x < 0) = false := by simpa using hx0
    by_cases hx1 : (n : Int) < x
    · go_enter Yabv.func66, Yabv.ntmps66
      go_wp2_with fail
      refine (effect_any 9 _).mono ?_
      rintro e w1 ⟨rfl, rfl⟩
      go_wp2
      go_ret2
      exact .inl ⟨succF_jmp_bad _ _ _ _ (.inr hx1), rfl, unhide HB1 _⟩
    have hx1b : decide ((n : Int) < x) = false := by simpa using hx1
    have hxx : ((x.toNat : Nat) : Int) = x := by omega
    go_enter Yabv.func66, Yabv.ntmps66
    go_wp2_with fail
    refine (effect_any 9 _).mono ?_
    rintro e w1 ⟨rfl, rfl⟩
    go_wp2
    go_ret2
    exact .inr ⟨[(x.toNat, d)], _, _, succF_jmp _ _ _ _ hd0 (by omega) (by omega), rfl, own_edges _ _ _ _ [(x.toNat, d)] (by omega) (unhide HH2 _ _) (by simp [cellsS, cellS, edges, hxx]) (by simp), unhide HB2 _ _⟩
  by_cases k10 : c = 10
  · subst k10
    have hd2 : 1 ≤ d := by have : needsF 10 = 1 := rfl; omega
    by_cases hx0 : x < 0
    · go_enter Yabv.func66, Yabv.ntmps66
      go_wp2_with fail
      refine (effect_any 10 _).mono ?_
      rintro e w1 ⟨rfl, rfl⟩
      go_wp2
      go_ret2
      exact .inl ⟨succF_jz_bad _ _ _ _ (.inl hx0), rfl, unhide HB1 _⟩
    have hx0b : decide (x < 0) = false := by simpa using hx0
    by_cases hx1 : (n : Int) < x
    · go_enter Yabv.func66, Yabv.ntmps66
      go_wp2_with fail
      refine (effect_any 10 _).mono ?_
      rintro e w1 ⟨rfl, rfl⟩
      go_wp2
      go_ret2
      exact .inl ⟨succF_jz_bad _ _ _ _ (.inr hx1), rfl, unhide HB1 _⟩
    have hx1b : decide ((n : Int) < x) = false := by simpa using hx1
    have hxx : ((x.toNat : Nat) : Int) = x := by omega
    go_enter Yabv.func66, Yabv.ntmps66
    go_wp2_with fail
    refine (effect_any 10 _).mono ?_
    rintro e w1 ⟨rfl, rfl⟩
    go_wp2
    go_ret2
    exact .inr ⟨[(i + 1, d - 1), (x.toNat, d - 1)], _, _, succF_jz _ _ _ _ hd2 (by omega) (by omega), rfl, own_edges _ _ _ _ [(i + 1, d - 1), (x.toNat, d - 1)] (by omega) (unhide HH2 _ _) (by simp [cellsS, cellS, edges, hxx]) (by simp), unhide HB2 _ _⟩
  have k11b : (c == 11) = false := by rw [beq_eq_false_iff_ne]; exact k11
  have k10b : (c == 10) = false := by rw [beq_eq_false_iff_ne]; exact k10
  have k9b : (c == 9) = false := by rw [beq_eq_false_iff_ne]; exact k9
  go_enter Yabv.func66, Yabv.ntmps66
  go_wp2_with fail
  refine (effect_any c _).mono ?_
  rintro e w1 ⟨rfl, rfl⟩
  go_wp2
  go_ret2
  exact .inr ⟨[(i + 1, d + deltaF c)], _, _, succF_other _ _ _ _ _ k9 k10 k11 (by omega) (by omega), rfl, own_edges _ _ _ _ [(i + 1, d + deltaF c)] (by omega) (unhide HH2 _ _) (by simp [cellsS, cellS, edges]) (by simp), unhide HB2 _ _⟩
end Go.Proofs.Yahabw
