import Derived.Test.YahabwScal
set_option linter.unusedVariables false
set_option linter.unusedSimpArgs false
namespace Go.Proofs.Yahabw

/-- The successors of position i at depth d; none: a fault. -/
def succF (n : Nat) (o : Int × Int) (i : Nat) (d : Int) : Option (List (Nat × Int)) :=
  if needsF o.1 < 0 ∨ d < needsF o.1 then none
  else if o.1 = 11 then some []
  else if o.1 = 9 then (if o.2 < 0 ∨ (n : Int) < o.2 then none else some [(o.2.toNat, d)])
  else if o.1 = 10 then (if o.2 < 0 ∨ (n : Int) < o.2 then none else some [(i + 1, d - 1), (o.2.toNat, d - 1)])
  else some [(i + 1, d + deltaF o.1)]

theorem need_delta (c : Int) (h : 0 ≤ needsF c) : 0 ≤ needsF c + deltaF c := by
  revert h
  unfold needsF deltaF
  split
  · split <;> intro <;> (try split) <;> omega
  · split
    · split
      · omega
      · split <;> omega
    · split
      · split
        · omega
        · split <;> omega
      · omega
theorem delta_le (c : Int) : deltaF c ≤ 1 ∧ -1 ≤ deltaF c := by
  unfold deltaF; split
  · omega
  · split <;> omega

theorem succF_in {n : Nat} {o : Int × Int} {i : Nat} {d : Int} {l : List (Nat × Int)} (h : succF n o i d = some l) (hi : i < n) : l.length ≤ 2 ∧ ∀ s ∈ l, s.1 ≤ n ∧ 0 ≤ s.2 ∧ s.2 ≤ d + 1 := by
  unfold succF at h
  by_cases h1 : needsF o.1 < 0 ∨ d < needsF o.1
  · rw [if_pos h1] at h; simp at h
  rw [if_neg h1] at h
  have hd := need_delta o.1 (by omega)
  have hd2 := delta_le o.1
  by_cases h2 : o.1 = 11
  · rw [if_pos h2] at h; simp at h; subst h; simp
  rw [if_neg h2] at h
  by_cases h3 : o.1 = 9
  · rw [if_pos h3] at h
    have hn : needsF o.1 = 0 := by rw [h3]; rfl
    by_cases h4 : o.2 < 0 ∨ (n : Int) < o.2
    · rw [if_pos h4] at h; simp at h
    rw [if_neg h4] at h; simp at h; subst h
    simp; omega
  rw [if_neg h3] at h
  by_cases h5 : o.1 = 10
  · rw [if_pos h5] at h
    have hn : needsF o.1 = 1 := by rw [h5]; rfl
    by_cases h4 : o.2 < 0 ∨ (n : Int) < o.2
    · rw [if_pos h4] at h; simp at h
    rw [if_neg h4] at h; simp at h; subst h
    simp; omega
  rw [if_neg h5] at h; simp at h; subst h
  simp; omega

/-- Position i is come to at depth d. -/
def Reach (p : List (Int × Int)) (i : Nat) (d : Int) : Prop :=
  ∀ R : Nat → Int → Prop, R 0 0 → (∀ i d, (h : i < p.length) → R i d → ∀ l, succF p.length p[i] i d = some l → ∀ s ∈ l, R s.1 s.2) → R i d

theorem Reach.zero (p : List (Int × Int)) : Reach p 0 0 := fun _ h _ => h
theorem Reach.step {p : List (Int × Int)} {i : Nat} {d : Int} (hr : Reach p i d) (h : i < p.length) {l : List (Nat × Int)} (hl : succF p.length p[i] i d = some l) {s : Nat × Int} (hs : s ∈ l) : Reach p s.1 s.2 :=
  fun R h0 hc => hc i d h (hr R h0 hc) l hl s hs

/-- A well-formed program. -/
structure WF (p : List (Int × Int)) : Prop where
  small : p.length ≤ 65536
  good : ∀ i d, Reach p i d → (h : i < p.length) → succF p.length p[i] i d ≠ none
  one : ∀ i d d', Reach p i d → Reach p i d' → d = d'

/-- The pair that MaxDepth answers. -/
def IsMD (p : List (Int × Int)) (m : Int) (ok : Bool) : Prop :=
  (ok = true ∧ WF p ∧ (∃ i, Reach p i m) ∧ ∀ i d, Reach p i d → d ≤ m) ∨ (ok = false ∧ m = 0 ∧ ¬ WF p)

theorem IsMD.unique {p : List (Int × Int)} {m m' : Int} {ok ok' : Bool} (h : IsMD p m ok) (h' : IsMD p m' ok') : m = m' ∧ ok = ok' := by
  rcases h with ⟨rfl, w, ⟨i, hi⟩, hm⟩ | ⟨rfl, rfl, w⟩ <;> rcases h' with ⟨rfl, w', ⟨i', hi'⟩, hm'⟩ | ⟨rfl, rfl, w'⟩
  · have := hm _ _ hi'; have := hm' _ _ hi; exact ⟨by omega, rfl⟩
  · exact absurd w w'
  · exact absurd w' w
  · exact ⟨rfl, rfl⟩

theorem IsMD.nonneg {p : List (Int × Int)} {m : Int} {ok : Bool} (h : IsMD p m ok) : 0 ≤ m := by
  rcases h with ⟨_, _, _, hm⟩ | ⟨_, rfl, _⟩
  · exact hm 0 0 (Reach.zero p)
  · omega

def neg (dep : List Int) : Nat := dep.countP (fun x => decide (x < 0))

theorem neg_set {dep : List Int} {s : Nat} {x : Int} (hs : s < dep.length) (h : dep[s] < 0) (hx : 0 ≤ x) : neg (dep.set s x) + 1 = neg dep := by
  have hp : 0 < neg dep := List.countP_pos_iff.2 ⟨dep[s], List.getElem_mem _, by simpa using h⟩
  unfold neg at *
  rw [List.countP_set hs]
  have h1 : decide (dep[s] < 0) = true := by simpa using h
  have h2 : decide (x < 0) = false := by simp; omega
  simp only [h1, h2, if_true]
  simp
  omega

/-- What dep says is so; and no more has been said than can be. -/
structure DBase (p : List (Int × Int)) (dep : List Int) : Prop where
  len : dep.length = p.length + 1
  zero : dep[0]? = some 0
  real : ∀ (i : Nat) (x : Int), dep[i]? = some x → x = -1 ∨ (0 ≤ x ∧ Reach p i x)
  bound : ∀ (i : Nat) (x : Int), dep[i]? = some x → x + neg dep ≤ p.length

/-- Position i's successors have their depths. -/
def Closed (p : List (Int × Int)) (dep : List Int) (i : Nat) (x : Int) : Prop :=
  ∀ h : i < p.length, ∃ l, succF p.length p[i] i x = some l ∧ ∀ s ∈ l, dep[s.1]? = some s.2

theorem DBase.assign {p : List (Int × Int)} {dep : List Int} (h : DBase p dep) {s : Nat} {x y : Int} {j : Nat} (hs : dep[s]? = some (-1)) (hx : 0 ≤ x) (hr : Reach p s x) (hy : dep[j]? = some y) (hxy : x ≤ y + 1) : DBase p (dep.set s x) ∧ neg (dep.set s x) + 1 = neg dep := by
  obtain ⟨hlt, hv⟩ := List.getElem?_eq_some_iff.1 hs
  have hn := neg_set hlt (by omega) hx
  have hs0 : s ≠ 0 := fun e => by subst e; rw [h.zero] at hs; simp at hs
  refine ⟨⟨by rw [List.length_set]; exact h.len, ?_, fun i z hz => ?_, fun i z hz => ?_⟩, hn⟩
  · rw [List.getElem?_set, if_neg hs0]; exact h.zero
  · rw [List.getElem?_set] at hz
    split at hz
    · rename_i e; subst e
      simp [hlt] at hz; subst hz; exact .inr ⟨hx, hr⟩
    · exact h.real i z hz
  · rw [List.getElem?_set] at hz
    split at hz
    · rename_i e; subst e
      simp [hlt] at hz; subst hz
      have := h.bound j y hy; omega
    · have := h.bound i z hz; omega

theorem keep_set {dep : List Int} {s t : Nat} {x y : Int} (hs : dep[s]? = some (-1)) (ht : dep[t]? = some y) (hy : 0 ≤ y) : (dep.set s x)[t]? = some y := by
  rw [List.getElem?_set]
  split
  · rename_i e; subst e; rw [hs] at ht; simp at ht; omega
  · exact ht

theorem Closed.set {p : List (Int × Int)} {dep : List Int} {i s : Nat} {x y : Int} (h : Closed p dep i x) (hs : dep[s]? = some (-1)) : Closed p (dep.set s y) i x := by
  intro hi
  obtain ⟨l, hl, hall⟩ := h hi
  have hin := succF_in hl hi
  exact ⟨l, hl, fun t ht => keep_set hs (hall t ht) (hin.2 t ht).2.1⟩

/-- All that is come to has its depth, where every position that has one is closed. -/
theorem reach_dep {p : List (Int × Int)} {dep : List Int} (h : DBase p dep) (hc : ∀ (i : Nat) (x : Int), dep[i]? = some x → 0 ≤ x → Closed p dep i x) (i : Nat) (d : Int) (hr : Reach p i d) : dep[i]? = some d ∧ 0 ≤ d := by
  refine hr (fun i d => dep[i]? = some d ∧ 0 ≤ d) ⟨h.zero, by omega⟩ ?_
  intro i d hi ⟨hd, h0⟩ l hl s hs
  obtain ⟨l', hl', hall⟩ := hc i d hd h0 hi
  rw [hl] at hl'
  simp at hl'
  subst hl'
  exact ⟨hall s hs, ((succF_in hl hi).2 s hs).2.1⟩

theorem wf_dep {p : List (Int × Int)} {dep : List Int} (hn : p.length ≤ 65536) (h : DBase p dep) (hc : ∀ (i : Nat) (x : Int), dep[i]? = some x → 0 ≤ x → Closed p dep i x) : WF p := by
  refine ⟨hn, fun i d hr hi hnone => ?_, fun i d d' hr hr' => ?_⟩
  · obtain ⟨h1, h2⟩ := reach_dep h hc i d hr
    obtain ⟨l, hl, _⟩ := hc i d h1 h2 hi
    rw [hl] at hnone; simp at hnone
  · have h1 := (reach_dep h hc i d hr).1
    have h2 := (reach_dep h hc i d' hr').1
    rw [h1] at h2; simpa using h2

theorem isMD_dep {p : List (Int × Int)} {dep : List Int} (hn : p.length ≤ 65536) (h : DBase p dep) (hc : ∀ (i : Nat) (x : Int), dep[i]? = some x → 0 ≤ x → Closed p dep i x) {m : Int} (hm : ∀ (i : Nat) (x : Int), dep[i]? = some x → x ≤ m) (ha : m = 0 ∨ ∃ i : Nat, dep[i]? = some m ∧ 0 ≤ m) : IsMD p m true := by
  refine .inl ⟨rfl, wf_dep hn h hc, ?_, fun i d hr => hm i d (reach_dep h hc i d hr).1⟩
  rcases ha with rfl | ⟨i, hi, h0⟩
  · exact ⟨0, Reach.zero p⟩
  · rcases h.real i m hi with h' | h'
    · omega
    · exact ⟨i, h'.2⟩

theorem notWF_big {p : List (Int × Int)} (h : 65536 < p.length) : ¬ WF p := fun w => by have := w.small; omega
theorem notWF_succ {p : List (Int × Int)} {dep : List Int} (hb : DBase p dep) {i : Nat} {x : Int} (hd : dep[i]? = some x) (h0 : 0 ≤ x) (hi : i < p.length) (h : succF p.length p[i] i x = none) : ¬ WF p := fun w => by
  rcases hb.real i x hd with h' | h'
  · omega
  · exact w.good i x h'.2 hi h
theorem notWF_two {p : List (Int × Int)} {dep : List Int} (hb : DBase p dep) {i s : Nat} {x y : Int} {l : List (Nat × Int)} {sd : Int} (hd : dep[i]? = some x) (h0 : 0 ≤ x) (hi : i < p.length) (hl : succF p.length p[i] i x = some l) (hs : (s, sd) ∈ l) (hy : dep[s]? = some y) (hy1 : y ≠ -1) (hne : y ≠ sd) : ¬ WF p := fun w => by
  rcases hb.real i x hd with h' | h'
  · omega
  · have h1 := h'.2.step hi hl hs
    rcases hb.real s y hy with h2 | h2
    · exact hy1 h2
    · exact hne (w.one s y sd h2.2 h1)
end Go.Proofs.Yahabw
