import Derived.Test.YahabwGen2
set_option linter.unusedVariables false
set_option linter.unusedSimpArgs false
namespace Go.Proofs.Yahabw
open Go.RowKit

/-- What a generator leaves; s: how much more than eight operations a byte. -/
def GPost (s : Int) (w : World) (rb gb base : Nat) (a : Option Addr) (n cap pos m : Nat) (d : Int) (e : Ending) (w' : World) : Prop :=
  ∃ (d' : Int) (pos' m' : Nat), e = .returned (.int .i64 d') ∧ pos ≤ pos' ∧ pos' ≤ n ∧ m ≤ m' ∧ (m' : Int) + (d' - d) ≤ m + 8 * ((pos' : Int) - pos) + s ∧ (m' : Int) + (d - d') ≤ m + 8 * ((pos' : Int) - pos) + s ∧
    St w' rb gb base a n cap pos' m' ∧ Fr base rb gb w w'

def GPre (s : Int) (n pos m : Nat) (d nest : Int) : Prop :=
  0 ≤ nest ∧ nest ≤ 10 ∧ (m : Int) + 8 * ((n : Int) - pos) + s ≤ 100000000 ∧ -100000000 + 8 * ((n : Int) - pos) + s ≤ d ∧ d + 8 * ((n : Int) - pos) + s ≤ 100000000

def BlockOK (f : Nat) : Prop := ∀ (w : World) (rb gb base : Nat) (a : Option Addr) (n cap pos m : Nat) (d nest : Int), St w rb gb base a n cap pos m → n - pos ≤ f → GPre 0 n pos m d nest →
  Calls Yabv.prog 21 #[.pointer (some ⟨rb, 0, none⟩), .pointer (some ⟨gb, 0, none⟩), .int .i64 d, .int .i64 nest] w (GPost 0 w rb gb base a n cap pos m d)

theorem St.len {w : World} {rb gb base n cap pos m : Nat} {a : Option Addr} (h : St w rb gb base a n cap pos m) : ∃ a2 cap2, w.cell? ⟨gb, 0, none⟩ = some (.slice a2 m cap2) := by
  obtain ⟨v, ops, hv, hl, hown, hok⟩ := h.gn
  obtain ⟨a2, cap2, rfl⟩ := own_form hown
  exact ⟨a2, cap2, blk_cell hv 0 rfl⟩

theorem i64s (x : Int) (h0 : -1000000000000 ≤ x) (h1 : x ≤ 1000000000000) : I64 x := ⟨by omega, by omega⟩

set_option maxHeartbeats 1000000 in
theorem genIf_of {f : Nat} (hB : BlockOK f) (w : World) (rb gb base : Nat) (a : Option Addr) (n cap pos m : Nat) (d nest : Int) (h : St w rb gb base a n cap pos m) (hf : n - pos ≤ f) (hn : nest ≤ 9) (hp : GPre 8 n pos m d nest) :
    Calls Yabv.prog 63 #[.pointer (some ⟨rb, 0, none⟩), .pointer (some ⟨gb, 0, none⟩), .int .i64 d, .int .i64 nest] w (GPost 8 w rb gb base a n cap pos m d) := by
  obtain ⟨p0, p1, p2, p3, p4⟩ := hp
  have hle := h.rd.le
  go_enter Yabv.func63, Yabv.ntmps63
  go_wp2_with fail
  refine (semit h (by omega) 10 0 (i64s _ (by omega) (by omega)) (i64s _ (by omega) (by omega))).mono ?_
  rintro e w1 ⟨rfl, h1, f1⟩
  go_wp2_with fail
  refine (hB w1 rb gb base a n cap pos (m + 1) (d - 1) (nest + 1) h1 hf ⟨by omega, by omega, by omega, by omega, by omega⟩).mono ?_
  rintro e w2 ⟨e1, pos2, m2, rfl, b1, b2, b3, b4, b5, h2, f2⟩
  go_wp2_with fail
  refine (sbalance h2 e1 (d - 1) ⟨by omega, by omega⟩ ⟨by omega, by omega⟩ (by omega)).mono ?_
  rintro e w3 ⟨rfl, h3, f3⟩
  obtain ⟨m3, c1, c2, h3⟩ : ∃ m3 : Nat, m2 ≤ m3 ∧ (m3 : Int) ≤ m + 1 + 8 * ((pos2 : Int) - pos) ∧ St w3 rb gb base a n cap pos2 m3 := ⟨_, by omega, by omega, h3⟩
  go_wp2_with fail
  refine (semit h3 (by omega) 9 0 (i64s _ (by omega) (by omega)) (i64s _ (by omega) (by omega))).mono ?_
  rintro e w4 ⟨rfl, h4, f4⟩
  obtain ⟨a4, cp4, q4⟩ := h4.len
  go_wp2_with fail
  refine (spatch h4 (by omega) m (by omega) _ (i64s _ (by omega) (by omega))).mono ?_
  rintro e w5 ⟨rfl, h5, f5⟩
  clear q4
  go_wp2_with fail
  refine (hB w5 rb gb base a n cap pos2 (m3 + 1) (d - 1) (nest + 1) h5 (by omega) ⟨by omega, by omega, by omega, by omega, by omega⟩).mono ?_
  rintro e w6 ⟨e6, pos6, m6, rfl, b61, b62, b63, b64, b65, h6, f6⟩
  go_wp2_with fail
  refine (sbalance h6 e6 (d - 1) ⟨by omega, by omega⟩ ⟨by omega, by omega⟩ (by omega)).mono ?_
  rintro e w7 ⟨rfl, h7, f7⟩
  obtain ⟨m7, c71, c72, h7⟩ : ∃ m7 : Nat, m6 ≤ m7 ∧ (m7 : Int) ≤ m + 2 + 8 * ((pos6 : Int) - pos) ∧ St w7 rb gb base a n cap pos6 m7 := ⟨_, by omega, by omega, h7⟩
  obtain ⟨a7, cp7, q7⟩ := h7.len
  go_wp2_with fail
  refine (spatch h7 (by omega) m3 (by omega) _ (i64s _ (by omega) (by omega))).mono ?_
  rintro e w8 ⟨rfl, h8, f8⟩
  clear q7
  go_wp2
  go_ret
  exact ⟨d - 1, pos6, m7, rfl, by omega, by omega, by omega, by omega, by omega, h8, f1.trans (f2.trans (f3.trans (f4.trans (f5.trans (f6.trans (f7.trans f8))))))⟩
end Go.Proofs.Yahabw
