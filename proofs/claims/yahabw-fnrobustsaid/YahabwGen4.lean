import Derived.Test.YahabwGen3
set_option linter.unusedVariables false
set_option linter.unusedSimpArgs false
namespace Go.Proofs.Yahabw
open Go.RowKit

set_option maxHeartbeats 1000000 in
theorem genCount_of {f : Nat} (hB : BlockOK f) (w : World) (rb gb base : Nat) (a : Option Addr) (n cap pos m : Nat) (d nest : Int) (h : St w rb gb base a n cap pos m) (hf : n - pos ≤ f) (hn : nest ≤ 9) (hp : GPre 8 n pos m d nest) :
    Calls Yabv.prog 65 #[.pointer (some ⟨rb, 0, none⟩), .pointer (some ⟨gb, 0, none⟩), .int .i64 d, .int .i64 nest] w (GPost 8 w rb gb base a n cap pos m d) := by
  obtain ⟨p0, p1, p2, p3, p4⟩ := hp
  have hle := h.rd.le
  go_enter Yabv.func65, Yabv.ntmps65
  go_wp2_with fail
  refine (snext h).mono ?_
  rintro e w1 ⟨c, pos1, rfl, hc0, hc1, hp1, hp2, _, h1, f1⟩
  go_wp2_with fail
  refine (semit h1 (by omega) 0 _ (i64s _ (by omega) (by omega)) (i64s _ (by omega) (by omega))).mono ?_
  rintro e w2 ⟨rfl, h2, f2⟩
  obtain ⟨a2, cp2, q2⟩ := h2.len
  go_wp2_with fail
  refine (hB w2 rb gb base a n cap pos1 (m + 1) (d + 1) (nest + 1) h2 (by omega) ⟨by omega, by omega, by omega, by omega, by omega⟩).mono ?_
  rintro e w3 ⟨e3, pos3, m3, rfl, b1, b2, b3, b4, b5, h3, f3⟩
  clear q2
  go_wp2_with fail
  refine (sbalance h3 e3 (d + 1) ⟨by omega, by omega⟩ ⟨by omega, by omega⟩ (by omega)).mono ?_
  rintro e w4 ⟨rfl, h4, f4⟩
  obtain ⟨m4, c1, c2, h4⟩ : ∃ m4 : Nat, m3 ≤ m4 ∧ (m4 : Int) ≤ m + 1 + 8 * ((pos3 : Int) - pos1) ∧ St w4 rb gb base a n cap pos3 m4 := ⟨_, by omega, by omega, h4⟩
  go_wp2_with fail
  refine (semit h4 (by omega) 5 0 (i64s _ (by omega) (by omega)) (i64s _ (by omega) (by omega))).mono ?_
  rintro e w5 ⟨rfl, h5, f5⟩
  go_wp2_with fail
  refine (semit h5 (by omega) 10 0 (i64s _ (by omega) (by omega)) (i64s _ (by omega) (by omega))).mono ?_
  rintro e w6 ⟨rfl, h6, f6⟩
  go_wp2_with fail
  refine (semit h6 (by omega) 0 1 (i64s _ (by omega) (by omega)) (i64s _ (by omega) (by omega))).mono ?_
  rintro e w7 ⟨rfl, h7, f7⟩
  go_wp2_with fail
  refine (semit h7 (by omega) 3 0 (i64s _ (by omega) (by omega)) (i64s _ (by omega) (by omega))).mono ?_
  rintro e w8 ⟨rfl, h8, f8⟩
  go_wp2_with fail
  refine (semit h8 (by omega) 9 _ (i64s _ (by omega) (by omega)) (i64s _ (by omega) (by omega))).mono ?_
  rintro e w9 ⟨rfl, h9, f9⟩
  obtain ⟨a9, cp9, q9⟩ := h9.len
  go_wp2_with fail
  refine (spatch h9 (by omega) (m4 + 1) (by omega) _ (i64s _ (by omega) (by omega))).mono ?_
  rintro e w10 ⟨rfl, h10, f10⟩
  clear q9
  go_wp2_with fail
  refine (semit h10 (by omega) 7 0 (i64s _ (by omega) (by omega)) (i64s _ (by omega) (by omega))).mono ?_
  rintro e w11 ⟨rfl, h11, f11⟩
  go_wp2
  go_ret
  exact ⟨d, pos3, _, rfl, by omega, by omega, by omega, by omega, by omega, h11, f1.trans (f2.trans (f3.trans (f4.trans (f5.trans (f6.trans (f7.trans (f8.trans (f9.trans (f10.trans f11)))))))))⟩

set_option maxHeartbeats 1000000 in
theorem genLoop_of {f : Nat} (hB : BlockOK f) (w : World) (rb gb base : Nat) (a : Option Addr) (n cap pos m : Nat) (d nest : Int) (h : St w rb gb base a n cap pos m) (hf : n - pos ≤ f) (hn : nest ≤ 9) (hp : GPre 8 n pos m d nest) :
    Calls Yabv.prog 64 #[.pointer (some ⟨rb, 0, none⟩), .pointer (some ⟨gb, 0, none⟩), .int .i64 d, .int .i64 nest] w (GPost 8 w rb gb base a n cap pos m d) := by
  obtain ⟨p0, p1, p2, p3, p4⟩ := hp
  have hle := h.rd.le
  obtain ⟨a0, cp0, q0⟩ := h.len
  go_enter Yabv.func64, Yabv.ntmps64
  go_wp2_with fail
  refine (hB w rb gb base a n cap pos m d (nest + 1) h (by omega) ⟨by omega, by omega, by omega, by omega, by omega⟩).mono ?_
  rintro e w3 ⟨e3, pos3, m3, rfl, b1, b2, b3, b4, b5, h3, f3⟩
  clear q0
  go_wp2_with fail
  refine (sbalance h3 e3 d ⟨by omega, by omega⟩ ⟨by omega, by omega⟩ (by omega)).mono ?_
  rintro e w4 ⟨rfl, h4, f4⟩
  obtain ⟨m4, c1, c2, h4⟩ : ∃ m4 : Nat, m3 ≤ m4 ∧ (m4 : Int) ≤ m + 8 * ((pos3 : Int) - pos) ∧ St w4 rb gb base a n cap pos3 m4 := ⟨_, by omega, by omega, h4⟩
  go_wp2_with fail
  refine (snext h4).mono ?_
  rintro e w5 ⟨c, pos5, rfl, hc0, hc1, hp1, hp2, _, h5, f5⟩
  have fin : ∀ (w6 w7 : World), St w7 rb gb base a n cap pos5 (m4 + 1 + 1) → Fr base rb gb w5 w6 → Fr base rb gb w6 w7 → GPost 8 w rb gb base a n cap pos m d (.returned (.int .i64 d)) w7 := fun w6 w7 h7 f6 f7 =>
    ⟨d, pos5, m4 + 1 + 1, rfl, by omega, by omega, by omega, by omega, by omega, h7, f3.trans (f4.trans (f5.trans (f6.trans f7)))⟩
  have HF := hide fin
  clear fin
  by_cases k0 : c % 3 = 0
  · by_cases hd : 1 ≤ d
    · go_wp2_with fail
      refine (semit h5 (by omega) 5 0 (i64s _ (by omega) (by omega)) (i64s _ (by omega) (by omega))).mono ?_
      rintro e w6 ⟨rfl, h6, f6⟩
      go_wp2_with fail
      refine (semit h6 (by omega) 10 _ (i64s _ (by omega) (by omega)) (i64s _ (by omega) (by omega))).mono ?_
      rintro e w7 ⟨rfl, h7, f7⟩
      go_wp2
      go_ret
      exact unhide HF _ _ h7 f6 f7
    · go_wp2_with fail
      refine (semit h5 (by omega) 0 _ (i64s _ (by omega) (by omega)) (i64s _ (by omega) (by omega))).mono ?_
      rintro e w6 ⟨rfl, h6, f6⟩
      go_wp2_with fail
      refine (semit h6 (by omega) 10 _ (i64s _ (by omega) (by omega)) (i64s _ (by omega) (by omega))).mono ?_
      rintro e w7 ⟨rfl, h7, f7⟩
      go_wp2
      go_ret
      exact unhide HF _ _ h7 f6 f7
  by_cases k1 : c % 3 = 1
  · go_wp2_with fail
    refine (semit h5 (by omega) 1 _ (i64s _ (by omega) (by omega)) (i64s _ (by omega) (by omega))).mono ?_
    rintro e w6 ⟨rfl, h6, f6⟩
    go_wp2_with fail
    refine (semit h6 (by omega) 10 _ (i64s _ (by omega) (by omega)) (i64s _ (by omega) (by omega))).mono ?_
    rintro e w7 ⟨rfl, h7, f7⟩
    go_wp2
    go_ret
    exact unhide HF _ _ h7 f6 f7
  · have k2 : c % 3 = 2 := by omega
    go_wp2_with fail
    refine (semit h5 (by omega) 0 _ (i64s _ (by omega) (by omega)) (i64s _ (by omega) (by omega))).mono ?_
    rintro e w6 ⟨rfl, h6, f6⟩
    go_wp2_with fail
    refine (semit h6 (by omega) 10 _ (i64s _ (by omega) (by omega)) (i64s _ (by omega) (by omega))).mono ?_
    rintro e w7 ⟨rfl, h7, f7⟩
    go_wp2
    go_ret
    exact unhide HF _ _ h7 f6 f7
end Go.Proofs.Yahabw
