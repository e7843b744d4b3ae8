import Derived.Test.YahabwGen4
set_option linter.unusedVariables false
set_option linter.unusedSimpArgs false
namespace Go.Proofs.Yahabw
open Go.RowKit

theorem gfin {w w' w'' : World} {rb gb base n cap pos pos' m m' : Nat} {a : Option Addr} {d d' : Int} (h : St w'' rb gb base a n cap pos' m') (f1 : Fr base rb gb w w') (f2 : Fr base rb gb w' w'') (h1 : pos ≤ pos') (h2 : pos' ≤ n) (hm : m' = m + 1) (hd1 : d' - d ≤ 1) (hd2 : d - d' ≤ 1) :
    GPost 8 w rb gb base a n cap pos m d (.returned (.int .i64 d')) w'' :=
  ⟨d', pos', m', rfl, h1, h2, by omega, by omega, by omega, h, f1.trans f2⟩

set_option maxRecDepth 100000 in
set_option maxHeartbeats 1000000 in
theorem genOne_0 (w : World) (rb gb base : Nat) (a : Option Addr) (n cap pos m : Nat) (d nest : Int) (h : St w rb gb base a n cap pos m) (hp : GPre 8 n pos m d nest) :
    Calls Yabv.prog 42 #[.pointer (some ⟨rb, 0, none⟩), .pointer (some ⟨gb, 0, none⟩), .int .i64 d, .int .i64 nest, .int .i64 0] w (GPost 8 w rb gb base a n cap pos m d) := by
  obtain ⟨p0, p1, p2, p3, p4⟩ := hp
  have hle := h.rd.le
  go_enter Yabv.func42, Yabv.ntmps42
  go_wp2_with fail
  refine (svalue h).mono ?_
  rintro e w1 ⟨v, pos1, rfl, hv, hp1, hp2, h1, f1⟩
  go_wp2_with fail
  refine (semit h1 (by omega) 0 v (i64s _ (by omega) (by omega)) hv).mono ?_
  rintro e w9 ⟨rfl, h9, f9⟩
  go_wp2
  go_ret
  exact gfin h9 f1 f9 (by omega) (by omega) rfl (by omega) (by omega)

set_option maxRecDepth 100000 in
set_option maxHeartbeats 1000000 in
theorem genOne_1 (w : World) (rb gb base : Nat) (a : Option Addr) (n cap pos m : Nat) (d nest : Int) (h : St w rb gb base a n cap pos m) (hp : GPre 8 n pos m d nest) :
    Calls Yabv.prog 42 #[.pointer (some ⟨rb, 0, none⟩), .pointer (some ⟨gb, 0, none⟩), .int .i64 d, .int .i64 nest, .int .i64 1] w (GPost 8 w rb gb base a n cap pos m d) := by
  obtain ⟨p0, p1, p2, p3, p4⟩ := hp
  have hle := h.rd.le
  go_enter Yabv.func42, Yabv.ntmps42
  go_wp2_with fail
  refine (svalue h).mono ?_
  rintro e w1 ⟨v, pos1, rfl, hv, hp1, hp2, h1, f1⟩
  go_wp2_with fail
  refine (semit h1 (by omega) 0 v (i64s _ (by omega) (by omega)) hv).mono ?_
  rintro e w9 ⟨rfl, h9, f9⟩
  go_wp2
  go_ret
  exact gfin h9 f1 f9 (by omega) (by omega) rfl (by omega) (by omega)

set_option maxRecDepth 100000 in
set_option maxHeartbeats 1000000 in
theorem genOne_2 (w : World) (rb gb base : Nat) (a : Option Addr) (n cap pos m : Nat) (d nest : Int) (h : St w rb gb base a n cap pos m) (hp : GPre 8 n pos m d nest) :
    Calls Yabv.prog 42 #[.pointer (some ⟨rb, 0, none⟩), .pointer (some ⟨gb, 0, none⟩), .int .i64 d, .int .i64 nest, .int .i64 2] w (GPost 8 w rb gb base a n cap pos m d) := by
  obtain ⟨p0, p1, p2, p3, p4⟩ := hp
  have hle := h.rd.le
  go_enter Yabv.func42, Yabv.ntmps42
  go_wp2_with fail
  refine (svalue h).mono ?_
  rintro e w1 ⟨v, pos1, rfl, hv, hp1, hp2, h1, f1⟩
  go_wp2_with fail
  refine (semit h1 (by omega) 0 v (i64s _ (by omega) (by omega)) hv).mono ?_
  rintro e w9 ⟨rfl, h9, f9⟩
  go_wp2
  go_ret
  exact gfin h9 f1 f9 (by omega) (by omega) rfl (by omega) (by omega)

set_option maxRecDepth 100000 in
set_option maxHeartbeats 1000000 in
theorem genOne_3 (w : World) (rb gb base : Nat) (a : Option Addr) (n cap pos m : Nat) (d nest : Int) (h : St w rb gb base a n cap pos m) (hp : GPre 8 n pos m d nest) :
    Calls Yabv.prog 42 #[.pointer (some ⟨rb, 0, none⟩), .pointer (some ⟨gb, 0, none⟩), .int .i64 d, .int .i64 nest, .int .i64 3] w (GPost 8 w rb gb base a n cap pos m d) := by
  obtain ⟨p0, p1, p2, p3, p4⟩ := hp
  have hle := h.rd.le
  go_enter Yabv.func42, Yabv.ntmps42
  go_wp2_with fail
  refine (snext h).mono ?_
  rintro e w1 ⟨c, pos1, rfl, hc0, hc1, hp1, hp2, _, h1, f1⟩
  go_wp2_with fail
  refine (semit h1 (by omega) _ _ (i64s _ (by omega) (by omega)) (i64s _ (by omega) (by omega))).mono ?_
  rintro e w9 ⟨rfl, h9, f9⟩
  go_wp2
  go_ret
  exact gfin h9 (f1) f9 (by omega) (by omega) rfl (by omega) (by omega)

set_option maxRecDepth 100000 in
set_option maxHeartbeats 1000000 in
theorem genOne_4 (w : World) (rb gb base : Nat) (a : Option Addr) (n cap pos m : Nat) (d nest : Int) (h : St w rb gb base a n cap pos m) (hp : GPre 8 n pos m d nest) :
    Calls Yabv.prog 42 #[.pointer (some ⟨rb, 0, none⟩), .pointer (some ⟨gb, 0, none⟩), .int .i64 d, .int .i64 nest, .int .i64 4] w (GPost 8 w rb gb base a n cap pos m d) := by
  obtain ⟨p0, p1, p2, p3, p4⟩ := hp
  have hle := h.rd.le
  by_cases hd : 2 ≤ d
  · go_enter Yabv.func42, Yabv.ntmps42
    go_wp2_with fail
    refine (semit h (by omega) _ _ (i64s _ (by omega) (by omega)) (i64s _ (by omega) (by omega))).mono ?_
    rintro e w9 ⟨rfl, h9, f9⟩
    go_wp2
    go_ret
    exact gfin h9 (Fr.refl _ _ _ _) f9 (by omega) (by omega) rfl (by omega) (by omega)
  · go_enter Yabv.func42, Yabv.ntmps42
    go_wp2_with fail
    refine (semit h (by omega) _ _ (i64s _ (by omega) (by omega)) (i64s _ (by omega) (by omega))).mono ?_
    rintro e w9 ⟨rfl, h9, f9⟩
    go_wp2
    go_ret
    exact gfin h9 (Fr.refl _ _ _ _) f9 (by omega) (by omega) rfl (by omega) (by omega)

set_option maxRecDepth 100000 in
set_option maxHeartbeats 1000000 in
theorem genOne_5 (w : World) (rb gb base : Nat) (a : Option Addr) (n cap pos m : Nat) (d nest : Int) (h : St w rb gb base a n cap pos m) (hp : GPre 8 n pos m d nest) :
    Calls Yabv.prog 42 #[.pointer (some ⟨rb, 0, none⟩), .pointer (some ⟨gb, 0, none⟩), .int .i64 d, .int .i64 nest, .int .i64 5] w (GPost 8 w rb gb base a n cap pos m d) := by
  obtain ⟨p0, p1, p2, p3, p4⟩ := hp
  have hle := h.rd.le
  by_cases hd : 2 ≤ d
  · go_enter Yabv.func42, Yabv.ntmps42
    go_wp2_with fail
    refine (semit h (by omega) _ _ (i64s _ (by omega) (by omega)) (i64s _ (by omega) (by omega))).mono ?_
    rintro e w9 ⟨rfl, h9, f9⟩
    go_wp2
    go_ret
    exact gfin h9 (Fr.refl _ _ _ _) f9 (by omega) (by omega) rfl (by omega) (by omega)
  · go_enter Yabv.func42, Yabv.ntmps42
    go_wp2_with fail
    refine (semit h (by omega) _ _ (i64s _ (by omega) (by omega)) (i64s _ (by omega) (by omega))).mono ?_
    rintro e w9 ⟨rfl, h9, f9⟩
    go_wp2
    go_ret
    exact gfin h9 (Fr.refl _ _ _ _) f9 (by omega) (by omega) rfl (by omega) (by omega)

set_option maxRecDepth 100000 in
set_option maxHeartbeats 1000000 in
theorem genOne_6 (w : World) (rb gb base : Nat) (a : Option Addr) (n cap pos m : Nat) (d nest : Int) (h : St w rb gb base a n cap pos m) (hp : GPre 8 n pos m d nest) :
    Calls Yabv.prog 42 #[.pointer (some ⟨rb, 0, none⟩), .pointer (some ⟨gb, 0, none⟩), .int .i64 d, .int .i64 nest, .int .i64 6] w (GPost 8 w rb gb base a n cap pos m d) := by
  obtain ⟨p0, p1, p2, p3, p4⟩ := hp
  have hle := h.rd.le
  by_cases hd : 2 ≤ d
  · go_enter Yabv.func42, Yabv.ntmps42
    go_wp2_with fail
    refine (semit h (by omega) _ _ (i64s _ (by omega) (by omega)) (i64s _ (by omega) (by omega))).mono ?_
    rintro e w9 ⟨rfl, h9, f9⟩
    go_wp2
    go_ret
    exact gfin h9 (Fr.refl _ _ _ _) f9 (by omega) (by omega) rfl (by omega) (by omega)
  · go_enter Yabv.func42, Yabv.ntmps42
    go_wp2_with fail
    refine (semit h (by omega) _ _ (i64s _ (by omega) (by omega)) (i64s _ (by omega) (by omega))).mono ?_
    rintro e w9 ⟨rfl, h9, f9⟩
    go_wp2
    go_ret
    exact gfin h9 (Fr.refl _ _ _ _) f9 (by omega) (by omega) rfl (by omega) (by omega)

set_option maxRecDepth 100000 in
set_option maxHeartbeats 1000000 in
theorem genOne_7 (w : World) (rb gb base : Nat) (a : Option Addr) (n cap pos m : Nat) (d nest : Int) (h : St w rb gb base a n cap pos m) (hp : GPre 8 n pos m d nest) :
    Calls Yabv.prog 42 #[.pointer (some ⟨rb, 0, none⟩), .pointer (some ⟨gb, 0, none⟩), .int .i64 d, .int .i64 nest, .int .i64 7] w (GPost 8 w rb gb base a n cap pos m d) := by
  obtain ⟨p0, p1, p2, p3, p4⟩ := hp
  have hle := h.rd.le
  by_cases hd : 1 ≤ d
  · go_enter Yabv.func42, Yabv.ntmps42
    go_wp2_with fail
    refine (semit h (by omega) _ _ (i64s _ (by omega) (by omega)) (i64s _ (by omega) (by omega))).mono ?_
    rintro e w9 ⟨rfl, h9, f9⟩
    go_wp2
    go_ret
    exact gfin h9 (Fr.refl _ _ _ _) f9 (by omega) (by omega) rfl (by omega) (by omega)
  · go_enter Yabv.func42, Yabv.ntmps42
    go_wp2_with fail
    refine (semit h (by omega) _ _ (i64s _ (by omega) (by omega)) (i64s _ (by omega) (by omega))).mono ?_
    rintro e w9 ⟨rfl, h9, f9⟩
    go_wp2
    go_ret
    exact gfin h9 (Fr.refl _ _ _ _) f9 (by omega) (by omega) rfl (by omega) (by omega)

set_option maxRecDepth 100000 in
set_option maxHeartbeats 1000000 in
theorem genOne_8 (w : World) (rb gb base : Nat) (a : Option Addr) (n cap pos m : Nat) (d nest : Int) (h : St w rb gb base a n cap pos m) (hp : GPre 8 n pos m d nest) :
    Calls Yabv.prog 42 #[.pointer (some ⟨rb, 0, none⟩), .pointer (some ⟨gb, 0, none⟩), .int .i64 d, .int .i64 nest, .int .i64 8] w (GPost 8 w rb gb base a n cap pos m d) := by
  obtain ⟨p0, p1, p2, p3, p4⟩ := hp
  have hle := h.rd.le
  by_cases hd : 2 ≤ d
  · go_enter Yabv.func42, Yabv.ntmps42
    go_wp2_with fail
    refine (semit h (by omega) _ _ (i64s _ (by omega) (by omega)) (i64s _ (by omega) (by omega))).mono ?_
    rintro e w9 ⟨rfl, h9, f9⟩
    go_wp2
    go_ret
    exact gfin h9 (Fr.refl _ _ _ _) f9 (by omega) (by omega) rfl (by omega) (by omega)
  · go_enter Yabv.func42, Yabv.ntmps42
    go_wp2_with fail
    refine (semit h (by omega) _ _ (i64s _ (by omega) (by omega)) (i64s _ (by omega) (by omega))).mono ?_
    rintro e w9 ⟨rfl, h9, f9⟩
    go_wp2
    go_ret
    exact gfin h9 (Fr.refl _ _ _ _) f9 (by omega) (by omega) rfl (by omega) (by omega)

set_option maxRecDepth 100000 in
set_option maxHeartbeats 1000000 in
theorem genOne_9 (w : World) (rb gb base : Nat) (a : Option Addr) (n cap pos m : Nat) (d nest : Int) (h : St w rb gb base a n cap pos m) (hp : GPre 8 n pos m d nest) :
    Calls Yabv.prog 42 #[.pointer (some ⟨rb, 0, none⟩), .pointer (some ⟨gb, 0, none⟩), .int .i64 d, .int .i64 nest, .int .i64 9] w (GPost 8 w rb gb base a n cap pos m d) := by
  obtain ⟨p0, p1, p2, p3, p4⟩ := hp
  have hle := h.rd.le
  by_cases hd : 1 ≤ d
  · go_enter Yabv.func42, Yabv.ntmps42
    go_wp2_with fail
    refine (semit h (by omega) _ _ (i64s _ (by omega) (by omega)) (i64s _ (by omega) (by omega))).mono ?_
    rintro e w9 ⟨rfl, h9, f9⟩
    go_wp2
    go_ret
    exact gfin h9 (Fr.refl _ _ _ _) f9 (by omega) (by omega) rfl (by omega) (by omega)
  · go_enter Yabv.func42, Yabv.ntmps42
    go_wp2_with fail
    refine (semit h (by omega) _ _ (i64s _ (by omega) (by omega)) (i64s _ (by omega) (by omega))).mono ?_
    rintro e w9 ⟨rfl, h9, f9⟩
    go_wp2
    go_ret
    exact gfin h9 (Fr.refl _ _ _ _) f9 (by omega) (by omega) rfl (by omega) (by omega)

set_option maxRecDepth 100000 in
set_option maxHeartbeats 1000000 in
theorem genOne_10 (w : World) (rb gb base : Nat) (a : Option Addr) (n cap pos m : Nat) (d nest : Int) (h : St w rb gb base a n cap pos m) (hp : GPre 8 n pos m d nest) :
    Calls Yabv.prog 42 #[.pointer (some ⟨rb, 0, none⟩), .pointer (some ⟨gb, 0, none⟩), .int .i64 d, .int .i64 nest, .int .i64 10] w (GPost 8 w rb gb base a n cap pos m d) := by
  obtain ⟨p0, p1, p2, p3, p4⟩ := hp
  have hle := h.rd.le
  by_cases hd : 2 ≤ d
  · go_enter Yabv.func42, Yabv.ntmps42
    go_wp2_with fail
    refine (semit h (by omega) _ _ (i64s _ (by omega) (by omega)) (i64s _ (by omega) (by omega))).mono ?_
    rintro e w9 ⟨rfl, h9, f9⟩
    go_wp2
    go_ret
    exact gfin h9 (Fr.refl _ _ _ _) f9 (by omega) (by omega) rfl (by omega) (by omega)
  · go_enter Yabv.func42, Yabv.ntmps42
    go_wp2_with fail
    refine (semit h (by omega) _ _ (i64s _ (by omega) (by omega)) (i64s _ (by omega) (by omega))).mono ?_
    rintro e w9 ⟨rfl, h9, f9⟩
    go_wp2
    go_ret
    exact gfin h9 (Fr.refl _ _ _ _) f9 (by omega) (by omega) rfl (by omega) (by omega)

set_option maxRecDepth 100000 in
set_option maxHeartbeats 1000000 in
theorem genOne_11 {f : Nat} (hB : BlockOK f) (w : World) (rb gb base : Nat) (a : Option Addr) (n cap pos m : Nat) (d nest : Int) (h : St w rb gb base a n cap pos m) (hf : n - pos ≤ f) (hp : GPre 8 n pos m d nest) :
    Calls Yabv.prog 42 #[.pointer (some ⟨rb, 0, none⟩), .pointer (some ⟨gb, 0, none⟩), .int .i64 d, .int .i64 nest, .int .i64 11] w (GPost 8 w rb gb base a n cap pos m d) := by
  obtain ⟨p0, p1, p2, p3, p4⟩ := hp
  have hle := h.rd.le
  by_cases hd : 1 ≤ d
  · by_cases hn : nest < 10
    · go_enter Yabv.func42, Yabv.ntmps42
      go_wp2_with fail
      refine (genIf_of hB w rb gb base a n cap pos m d nest h hf (by omega) ⟨p0, p1, p2, p3, p4⟩).mono ?_
      rintro e w9 ⟨d', pos', m', rfl, hq⟩
      go_wp2
      go_ret
      exact ⟨d', pos', m', rfl, hq⟩
    · go_enter Yabv.func42, Yabv.ntmps42
      go_wp2_with fail
      refine (semit h (by omega) _ _ (i64s _ (by omega) (by omega)) (i64s _ (by omega) (by omega))).mono ?_
      rintro e w9 ⟨rfl, h9, f9⟩
      go_wp2
      go_ret
      exact gfin h9 (Fr.refl _ _ _ _) f9 (by omega) (by omega) rfl (by omega) (by omega)
  · have hdd : decide (1 ≤ d) = false := by simpa using hd
    go_enter Yabv.func42, Yabv.ntmps42
    go_wp2_with fail
    refine (semit h (by omega) _ _ (i64s _ (by omega) (by omega)) (i64s _ (by omega) (by omega))).mono ?_
    rintro e w9 ⟨rfl, h9, f9⟩
    go_wp2
    go_ret
    exact gfin h9 (Fr.refl _ _ _ _) f9 (by omega) (by omega) rfl (by omega) (by omega)

set_option maxRecDepth 100000 in
set_option maxHeartbeats 1000000 in
theorem genOne_12 {f : Nat} (hB : BlockOK f) (w : World) (rb gb base : Nat) (a : Option Addr) (n cap pos m : Nat) (d nest : Int) (h : St w rb gb base a n cap pos m) (hf : n - pos ≤ f) (hp : GPre 8 n pos m d nest) :
    Calls Yabv.prog 42 #[.pointer (some ⟨rb, 0, none⟩), .pointer (some ⟨gb, 0, none⟩), .int .i64 d, .int .i64 nest, .int .i64 12] w (GPost 8 w rb gb base a n cap pos m d) := by
  obtain ⟨p0, p1, p2, p3, p4⟩ := hp
  have hle := h.rd.le
  by_cases hn : nest < 10
  · go_enter Yabv.func42, Yabv.ntmps42
    go_wp2_with fail
    refine (genLoop_of hB w rb gb base a n cap pos m d nest h hf (by omega) ⟨p0, p1, p2, p3, p4⟩).mono ?_
    rintro e w9 ⟨d', pos', m', rfl, hq⟩
    go_wp2
    go_ret
    exact ⟨d', pos', m', rfl, hq⟩
  · go_enter Yabv.func42, Yabv.ntmps42
    go_wp2_with fail
    refine (semit h (by omega) _ _ (i64s _ (by omega) (by omega)) (i64s _ (by omega) (by omega))).mono ?_
    rintro e w9 ⟨rfl, h9, f9⟩
    go_wp2
    go_ret
    exact gfin h9 (Fr.refl _ _ _ _) f9 (by omega) (by omega) rfl (by omega) (by omega)

set_option maxRecDepth 100000 in
set_option maxHeartbeats 1000000 in
theorem genOne_13 {f : Nat} (hB : BlockOK f) (w : World) (rb gb base : Nat) (a : Option Addr) (n cap pos m : Nat) (d nest : Int) (h : St w rb gb base a n cap pos m) (hf : n - pos ≤ f) (hp : GPre 8 n pos m d nest) :
    Calls Yabv.prog 42 #[.pointer (some ⟨rb, 0, none⟩), .pointer (some ⟨gb, 0, none⟩), .int .i64 d, .int .i64 nest, .int .i64 13] w (GPost 8 w rb gb base a n cap pos m d) := by
  obtain ⟨p0, p1, p2, p3, p4⟩ := hp
  have hle := h.rd.le
  by_cases hn : nest < 10
  · go_enter Yabv.func42, Yabv.ntmps42
    go_wp2_with fail
    refine (genCount_of hB w rb gb base a n cap pos m d nest h hf (by omega) ⟨p0, p1, p2, p3, p4⟩).mono ?_
    rintro e w9 ⟨d', pos', m', rfl, hq⟩
    go_wp2
    go_ret
    exact ⟨d', pos', m', rfl, hq⟩
  · go_enter Yabv.func42, Yabv.ntmps42
    go_wp2_with fail
    refine (semit h (by omega) _ _ (i64s _ (by omega) (by omega)) (i64s _ (by omega) (by omega))).mono ?_
    rintro e w9 ⟨rfl, h9, f9⟩
    go_wp2
    go_ret
    exact gfin h9 (Fr.refl _ _ _ _) f9 (by omega) (by omega) rfl (by omega) (by omega)

set_option maxRecDepth 100000 in
set_option maxHeartbeats 1000000 in
theorem genOne_14 (w : World) (rb gb base : Nat) (a : Option Addr) (n cap pos m : Nat) (d nest : Int) (h : St w rb gb base a n cap pos m) (hp : GPre 8 n pos m d nest) :
    Calls Yabv.prog 42 #[.pointer (some ⟨rb, 0, none⟩), .pointer (some ⟨gb, 0, none⟩), .int .i64 d, .int .i64 nest, .int .i64 14] w (GPost 8 w rb gb base a n cap pos m d) := by
  obtain ⟨p0, p1, p2, p3, p4⟩ := hp
  have hle := h.rd.le
  go_enter Yabv.func42, Yabv.ntmps42
  go_wp2_with fail
  refine (snext h).mono ?_
  rintro e w1 ⟨c, pos1, rfl, hc0, hc1, hp1, hp2, _, h1, f1⟩
  by_cases hc : c % 4 = 0
  · go_wp2_with fail
    refine (semit h1 (by omega) _ _ (i64s _ (by omega) (by omega)) (i64s _ (by omega) (by omega))).mono ?_
    rintro e w9 ⟨rfl, h9, f9⟩
    go_wp2
    go_ret
    exact gfin h9 (f1) f9 (by omega) (by omega) rfl (by omega) (by omega)
  · go_wp2_with fail
    refine (semit h1 (by omega) _ _ (i64s _ (by omega) (by omega)) (i64s _ (by omega) (by omega))).mono ?_
    rintro e w9 ⟨rfl, h9, f9⟩
    go_wp2
    go_ret
    exact gfin h9 (f1) f9 (by omega) (by omega) rfl (by omega) (by omega)

theorem genOne_of {f : Nat} (hB : BlockOK f) (w : World) (rb gb base : Nat) (a : Option Addr) (n cap pos m : Nat) (d nest k : Int) (h : St w rb gb base a n cap pos m) (hf : n - pos ≤ f) (hk0 : 0 ≤ k) (hk1 : k ≤ 14) (hp : GPre 8 n pos m d nest) :
    Calls Yabv.prog 42 #[.pointer (some ⟨rb, 0, none⟩), .pointer (some ⟨gb, 0, none⟩), .int .i64 d, .int .i64 nest, .int .i64 k] w (GPost 8 w rb gb base a n cap pos m d) := by
  have : k = 0 ∨ k = 1 ∨ k = 2 ∨ k = 3 ∨ k = 4 ∨ k = 5 ∨ k = 6 ∨ k = 7 ∨ k = 8 ∨ k = 9 ∨ k = 10 ∨ k = 11 ∨ k = 12 ∨ k = 13 ∨ k = 14 := by omega
  rcases this with rfl | rfl | rfl | rfl | rfl | rfl | rfl | rfl | rfl | rfl | rfl | rfl | rfl | rfl | rfl
  · exact genOne_0 w rb gb base a n cap pos m d nest h hp
  · exact genOne_1 w rb gb base a n cap pos m d nest h hp
  · exact genOne_2 w rb gb base a n cap pos m d nest h hp
  · exact genOne_3 w rb gb base a n cap pos m d nest h hp
  · exact genOne_4 w rb gb base a n cap pos m d nest h hp
  · exact genOne_5 w rb gb base a n cap pos m d nest h hp
  · exact genOne_6 w rb gb base a n cap pos m d nest h hp
  · exact genOne_7 w rb gb base a n cap pos m d nest h hp
  · exact genOne_8 w rb gb base a n cap pos m d nest h hp
  · exact genOne_9 w rb gb base a n cap pos m d nest h hp
  · exact genOne_10 w rb gb base a n cap pos m d nest h hp
  · exact genOne_11 hB w rb gb base a n cap pos m d nest h hf hp
  · exact genOne_12 hB w rb gb base a n cap pos m d nest h hf hp
  · exact genOne_13 hB w rb gb base a n cap pos m d nest h hf hp
  · exact genOne_14 w rb gb base a n cap pos m d nest h hp
end Go.Proofs.Yahabw
