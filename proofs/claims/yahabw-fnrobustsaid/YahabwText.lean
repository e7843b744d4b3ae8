import Derived.Test.YahabwDec
set_option linter.unusedVariables false
set_option linter.unusedSimpArgs false
namespace Go.Proofs.Yahabw
open Go.RowKit

theorem dig_len : ∀ (f u : Nat), (dig f u).length ≤ f
  | 0, _ => by simp [dig]
  | f + 1, u => by
    rw [dig]; split
    · simp
    · have := dig_len f (u / 10); simp; omega
theorem decF_len (v : Int) : (decF v).length ≤ 21 := by
  have := dig_len 20 v.natAbs
  unfold decF; split
  · simp
  · split <;> simp <;> omega

theorem str_append (a b : List Int) : strOfNums a ++ strOfNums b = strOfNums (a ++ b) := by
  unfold strOfNums; rw [ByteArray.mk_append_mk]; simp

def regF (x : Int) : List Int := 114 :: decF x

theorem itoa_str (v : Int) (h : I64 v) (w : World) :
    Calls Yabv.prog 28 #[.int .i64 v] w fun e w' => ∃ s : ByteArray, e = .returned (.string s) ∧ s.size ≤ 21 ∧ Hid (s = strOfNums (decF v)) ∧ Below w.heap.size w w' :=
  (itoa_any v h.1 h.2 w).mono fun e w' ⟨he, hb⟩ => ⟨_, he, by rw [strOfNums_size]; exact decF_len v, rfl, hb⟩
theorem dec_str (v : Int) (h : I64 v) (w : World) :
    Calls Yabv.prog 60 #[.int .i64 v] w fun e w' => ∃ s : ByteArray, e = .returned (.string s) ∧ s.size ≤ 21 ∧ Hid (s = strOfNums (decF v)) ∧ Below w.heap.size w w' :=
  (dec_any v h.1 h.2 w).mono fun e w' ⟨he, hb⟩ => ⟨_, he, by rw [strOfNums_size]; exact decF_len v, rfl, hb⟩

theorem reg_fin {s : ByteArray} {x : Int} (h : s = strOfNums (decF x)) : ({ data := #[114] } : ByteArray) ++ s = strOfNums (regF x) := by
  rw [h, show ({ data := #[114] } : ByteArray) = strOfNums [114] from rfl, str_append]; rfl

theorem regI_str (v : Int) (h : I64 v) (w : World) :
    Calls Yabv.prog 27 #[.int .i64 v] w fun e w' => ∃ s : ByteArray, e = .returned (.string s) ∧ s.size ≤ 22 ∧ Hid (s = strOfNums (regF v)) ∧ Below w.heap.size w w' := by
  go_enter Yabv.func27, Yabv.ntmps27
  go_wp2_with fail
  refine (itoa_str v h _).mono ?_
  rintro e w1 ⟨s, rfl, hs, HS, hb⟩
  go_wp2
  go_ret
  exact ⟨_, rfl, by rw [reg_fin (unhide HS), strOfNums_size]; have := decF_len v; simp [regF]; omega, reg_fin (unhide HS), hb⟩
theorem regS_str (v : Int) (h : I64 v) (w : World) :
    Calls Yabv.prog 68 #[.int .i64 v] w fun e w' => ∃ s : ByteArray, e = .returned (.string s) ∧ s.size ≤ 22 ∧ Hid (s = strOfNums (regF v)) ∧ Below w.heap.size w w' := by
  go_enter Yabv.func68, Yabv.ntmps68
  go_wp2_with fail
  refine (dec_str v h _).mono ?_
  rintro e w1 ⟨s, rfl, hs, HS, hb⟩
  go_wp2
  go_ret
  exact ⟨_, rfl, by rw [reg_fin (unhide HS), strOfNums_size]; have := decF_len v; simp [regF]; omega, reg_fin (unhide HS), hb⟩

def textF (o : R5) : List Int :=
  if o.op = 0 then regF o.r ++ [32, 61, 32] ++ decF o.k
  else if o.op = 1 then regF o.r ++ [32, 61, 32, 97, 114, 103, 32] ++ decF o.k
  else if o.op = 2 then regF o.r ++ [32, 61, 32] ++ regF o.a ++ [32, 43, 32] ++ regF o.b
  else if o.op = 3 then regF o.r ++ [32, 61, 32] ++ regF o.a ++ [32, 45, 32] ++ regF o.b
  else if o.op = 4 then regF o.r ++ [32, 61, 32] ++ regF o.a ++ [32, 42, 32] ++ regF o.b
  else if o.op = 5 then regF o.r ++ [32, 61, 32] ++ regF o.a
  else if o.op = 6 then [115, 119, 97, 112, 32] ++ regF o.a ++ [32] ++ regF o.b
  else if o.op = 7 then [110, 111, 112]
  else if o.op = 8 then [106, 109, 112, 32] ++ decF o.k
  else if o.op = 9 then [106, 122, 32] ++ regF o.a ++ [32] ++ decF o.k
  else if o.op = 10 then [104, 97, 108, 116, 32] ++ decF o.a
  else [98, 97, 100, 32] ++ decF o.op

theorem textF_len (o : R5) : (textF o).length ≤ 100 := by
  have := decF_len o.r; have := decF_len o.a; have := decF_len o.b; have := decF_len o.k; have := decF_len o.op
  unfold textF
  have ite_ok : ∀ (c : Prop) [Decidable c] (x y : List Int), x.length ≤ 100 → y.length ≤ 100 → (if c then x else y).length ≤ 100 := by
    intro c _ x y hx hy; by_cases h : c
    · rw [if_pos h]; exact hx
    · rw [if_neg h]; exact hy
  repeat' (refine ite_ok _ _ _ ?_ ?_)
  all_goals simp [regF]
  all_goals omega

def Ok5 (o : R5) : Prop := I64 o.op ∧ I64 o.r ∧ I64 o.a ∧ I64 o.b ∧ I64 o.k

/-- What a region that reads a register operation's box and calls what only makes memory holds fast. -/
def BoxS (b : Nat) (o : R5) (W w' : World) : Prop :=
  w'.cell? ⟨b, 0, none⟩ = some (.int .i64 o.op) ∧ w'.cell? ⟨b, 1, none⟩ = some (.int .i64 o.r) ∧ w'.cell? ⟨b, 2, none⟩ = some (.int .i64 o.a) ∧ w'.cell? ⟨b, 3, none⟩ = some (.int .i64 o.b) ∧ w'.cell? ⟨b, 4, none⟩ = some (.int .i64 o.k) ∧ b < w'.heap.size ∧ Below W.heap.size W w'

theorem cat_run (a b : ByteArray) (h : a.size + b.size ≤ 1000000) (W : World) : (Op.stringOp .add a b).run Yabv.prog W = .ok (.string (a ++ b)) W := run_string_add_sum W a b (by omega)

theorem box_keep {b : Nat} {o : R5} {W w1 w2 : World} (hb : Below w1.heap.size w1 w2)
    (h : w1.cell? ⟨b, 0, none⟩ = some (.int .i64 o.op) ∧ w1.cell? ⟨b, 1, none⟩ = some (.int .i64 o.r) ∧ w1.cell? ⟨b, 2, none⟩ = some (.int .i64 o.a) ∧ w1.cell? ⟨b, 3, none⟩ = some (.int .i64 o.b) ∧ w1.cell? ⟨b, 4, none⟩ = some (.int .i64 o.k) ∧ b < w1.heap.size ∧ Below W.heap.size W w1) :
    w2.cell? ⟨b, 0, none⟩ = some (.int .i64 o.op) ∧ w2.cell? ⟨b, 1, none⟩ = some (.int .i64 o.r) ∧ w2.cell? ⟨b, 2, none⟩ = some (.int .i64 o.a) ∧ w2.cell? ⟨b, 3, none⟩ = some (.int .i64 o.b) ∧ w2.cell? ⟨b, 4, none⟩ = some (.int .i64 o.k) ∧ b < w2.heap.size ∧ Below W.heap.size W w2 := by
  obtain ⟨h0, h1, h2, h3, h4, h5, h6⟩ := h
  have := hb.size
  exact ⟨keepc hb h0 h5, keepc hb h1 h5, keepc hb h2 h5, keepc hb h3 h5, keepc hb h4 h5, by omega, h6.trans (hb.mono h6.size)⟩

theorem fin_0 {s1 s2 : ByteArray} (r a b k : Int) (hs1 : s1 = strOfNums (regF r)) (hs2 : s2 = strOfNums (decF k)) : (((s1 ++ { data := #[32, 61, 32] }) ++ s2) : ByteArray) = strOfNums (textF ⟨0, r, a, b, k⟩) := by
  rw [hs1, hs2, show ({ data := #[32, 61, 32] } : ByteArray) = strOfNums [32, 61, 32] from rfl, str_append, str_append]
  rfl

theorem fin_1 {s1 s2 : ByteArray} (r a b k : Int) (hs1 : s1 = strOfNums (regF r)) (hs2 : s2 = strOfNums (decF k)) : (((s1 ++ { data := #[32, 61, 32, 97, 114, 103, 32] }) ++ s2) : ByteArray) = strOfNums (textF ⟨1, r, a, b, k⟩) := by
  rw [hs1, hs2, show ({ data := #[32, 61, 32, 97, 114, 103, 32] } : ByteArray) = strOfNums [32, 61, 32, 97, 114, 103, 32] from rfl, str_append, str_append]
  rfl

theorem fin_2 {s1 s2 s3 : ByteArray} (r a b k : Int) (hs1 : s1 = strOfNums (regF r)) (hs2 : s2 = strOfNums (regF a)) (hs3 : s3 = strOfNums (regF b)) : (((((s1 ++ { data := #[32, 61, 32] }) ++ s2) ++ { data := #[32, 43, 32] }) ++ s3) : ByteArray) = strOfNums (textF ⟨2, r, a, b, k⟩) := by
  rw [hs1, hs2, hs3, show ({ data := #[32, 61, 32] } : ByteArray) = strOfNums [32, 61, 32] from rfl, show ({ data := #[32, 43, 32] } : ByteArray) = strOfNums [32, 43, 32] from rfl, str_append, str_append, str_append, str_append]
  rfl

theorem fin_3 {s1 s2 s3 : ByteArray} (r a b k : Int) (hs1 : s1 = strOfNums (regF r)) (hs2 : s2 = strOfNums (regF a)) (hs3 : s3 = strOfNums (regF b)) : (((((s1 ++ { data := #[32, 61, 32] }) ++ s2) ++ { data := #[32, 45, 32] }) ++ s3) : ByteArray) = strOfNums (textF ⟨3, r, a, b, k⟩) := by
  rw [hs1, hs2, hs3, show ({ data := #[32, 61, 32] } : ByteArray) = strOfNums [32, 61, 32] from rfl, show ({ data := #[32, 45, 32] } : ByteArray) = strOfNums [32, 45, 32] from rfl, str_append, str_append, str_append, str_append]
  rfl

theorem fin_4 {s1 s2 s3 : ByteArray} (r a b k : Int) (hs1 : s1 = strOfNums (regF r)) (hs2 : s2 = strOfNums (regF a)) (hs3 : s3 = strOfNums (regF b)) : (((((s1 ++ { data := #[32, 61, 32] }) ++ s2) ++ { data := #[32, 42, 32] }) ++ s3) : ByteArray) = strOfNums (textF ⟨4, r, a, b, k⟩) := by
  rw [hs1, hs2, hs3, show ({ data := #[32, 61, 32] } : ByteArray) = strOfNums [32, 61, 32] from rfl, show ({ data := #[32, 42, 32] } : ByteArray) = strOfNums [32, 42, 32] from rfl, str_append, str_append, str_append, str_append]
  rfl

theorem fin_5 {s1 s2 : ByteArray} (r a b k : Int) (hs1 : s1 = strOfNums (regF r)) (hs2 : s2 = strOfNums (regF a)) : (((s1 ++ { data := #[32, 61, 32] }) ++ s2) : ByteArray) = strOfNums (textF ⟨5, r, a, b, k⟩) := by
  rw [hs1, hs2, show ({ data := #[32, 61, 32] } : ByteArray) = strOfNums [32, 61, 32] from rfl, str_append, str_append]
  rfl

theorem fin_6 {s1 s2 : ByteArray} (r a b k : Int) (hs1 : s1 = strOfNums (regF a)) (hs2 : s2 = strOfNums (regF b)) : (((({ data := #[115, 119, 97, 112, 32] } ++ s1) ++ { data := #[32] }) ++ s2) : ByteArray) = strOfNums (textF ⟨6, r, a, b, k⟩) := by
  rw [hs1, hs2, show ({ data := #[115, 119, 97, 112, 32] } : ByteArray) = strOfNums [115, 119, 97, 112, 32] from rfl, show ({ data := #[32] } : ByteArray) = strOfNums [32] from rfl, str_append, str_append, str_append]
  rfl

theorem fin_7 (r a b k : Int)  : ({ data := #[110, 111, 112] } : ByteArray) = strOfNums (textF ⟨7, r, a, b, k⟩) := by
  rw [show ({ data := #[110, 111, 112] } : ByteArray) = strOfNums [110, 111, 112] from rfl]
  rfl

theorem fin_8 {s1 : ByteArray} (r a b k : Int) (hs1 : s1 = strOfNums (decF k)) : (({ data := #[106, 109, 112, 32] } ++ s1) : ByteArray) = strOfNums (textF ⟨8, r, a, b, k⟩) := by
  rw [hs1, show ({ data := #[106, 109, 112, 32] } : ByteArray) = strOfNums [106, 109, 112, 32] from rfl, str_append]
  rfl

theorem fin_9 {s1 s2 : ByteArray} (r a b k : Int) (hs1 : s1 = strOfNums (regF a)) (hs2 : s2 = strOfNums (decF k)) : (((({ data := #[106, 122, 32] } ++ s1) ++ { data := #[32] }) ++ s2) : ByteArray) = strOfNums (textF ⟨9, r, a, b, k⟩) := by
  rw [hs1, hs2, show ({ data := #[106, 122, 32] } : ByteArray) = strOfNums [106, 122, 32] from rfl, show ({ data := #[32] } : ByteArray) = strOfNums [32] from rfl, str_append, str_append, str_append]
  rfl

theorem fin_10 {s1 : ByteArray} (r a b k : Int) (hs1 : s1 = strOfNums (decF a)) : (({ data := #[104, 97, 108, 116, 32] } ++ s1) : ByteArray) = strOfNums (textF ⟨10, r, a, b, k⟩) := by
  rw [hs1, show ({ data := #[104, 97, 108, 116, 32] } : ByteArray) = strOfNums [104, 97, 108, 116, 32] from rfl, str_append]
  rfl

theorem fin_11 {s1 : ByteArray} (o r a b k : Int) (ho : o < 0 ∨ 10 < o) (hs1 : s1 = strOfNums (decF o)) : (({ data := #[98, 97, 100, 32] } ++ s1) : ByteArray) = strOfNums (textF ⟨o, r, a, b, k⟩) := by
  rw [hs1, show ({ data := #[98, 97, 100, 32] } : ByteArray) = strOfNums [98, 97, 100, 32] from rfl, str_append]
  unfold textF
  rw [if_neg (by simp; omega), if_neg (by simp; omega), if_neg (by simp; omega), if_neg (by simp; omega), if_neg (by simp; omega), if_neg (by simp; omega), if_neg (by simp; omega), if_neg (by simp; omega), if_neg (by simp; omega), if_neg (by simp; omega), if_neg (by simp; omega)]

end Go.Proofs.Yahabw
