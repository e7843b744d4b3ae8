import Derived.Test.YahabwDepth
set_option linter.unusedVariables false
set_option linter.unusedSimpArgs false
namespace Go.Proofs.Yahabw

/-- The work list's state at a round's head. -/
structure DOut (p : List (Int × Int)) (dep : List Int) (ws : List Nat) (m : Int) : Prop where
  base : DBase p dep
  clo : ∀ (i : Nat) (x : Int), dep[i]? = some x → 0 ≤ x → i ∉ ws → Closed p dep i x ∧ x ≤ m
  wk : ∀ i ∈ ws, ∃ x, dep[i]? = some x ∧ 0 ≤ x
  m0 : 0 ≤ m
  att : m = 0 ∨ ∃ i : Nat, dep[i]? = some m ∧ 0 ≤ m
  cnt : ws.length + neg dep ≤ p.length + 1

/-- .. and in the midst of it: position i has been taken; k of its successors are through. -/
structure DMid (p : List (Int × Int)) (dep : List Int) (ws : List Nat) (m : Int) (i : Nat) (d : Int) (l : List (Nat × Int)) (k : Nat) : Prop where
  base : DBase p dep
  clo : ∀ (j : Nat) (x : Int), dep[j]? = some x → 0 ≤ x → j ∉ ws → (j ≠ i → Closed p dep j x) ∧ x ≤ m
  wk : ∀ i ∈ ws, ∃ x, dep[i]? = some x ∧ 0 ≤ x
  m0 : 0 ≤ m
  att : m = 0 ∨ ∃ i : Nat, dep[i]? = some m ∧ 0 ≤ m
  cnt : ws.length + neg dep ≤ p.length
  cur : dep[i]? = some d ∧ 0 ≤ d
  done : ∀ j (h : j < l.length), j < k → dep[(l[j]).1]? = some (l[j]).2

theorem DOut.start (p : List (Int × Int)) : DOut p (0 :: List.replicate p.length (-1)) [0] 0 := by
  have hn : neg (0 :: List.replicate p.length (-1)) = p.length := by
    simp [neg, List.countP_cons, List.countP_replicate]
  refine ⟨⟨by simp, by simp, fun i x hx => ?_, fun i x hx => ?_⟩, fun i x hx h0 hi => ?_, fun i hi => ?_, by omega, .inl rfl, by rw [hn]; simp; omega⟩
  · cases i with
    | zero => simp at hx; subst hx; exact .inr ⟨by omega, Reach.zero p⟩
    | succ i => simp [List.getElem?_replicate] at hx; exact .inl hx.2.symm
  · rw [hn]
    cases i with
    | zero => simp at hx; omega
    | succ i => simp [List.getElem?_replicate] at hx; omega
  · cases i with
    | zero => simp at hi
    | succ i => simp [List.getElem?_replicate] at hx; omega
  · simp at hi; subst hi; exact ⟨0, by simp, by omega⟩

theorem DOut.le {p : List (Int × Int)} {dep : List Int} {ws : List Nat} {m : Int} (h : DOut p dep ws m) : m ≤ p.length := by
  rcases h.att with h' | ⟨i, h1, h2⟩
  · omega
  · have := h.base.bound i m h1; omega
theorem DMid.le {p : List (Int × Int)} {dep : List Int} {ws : List Nat} {m d : Int} {i k : Nat} {l : List (Nat × Int)} (h : DMid p dep ws m i d l k) : m ≤ p.length := by
  rcases h.att with h' | ⟨i, h1, h2⟩
  · omega
  · have := h.base.bound i m h1; omega

/-- One is taken. -/
theorem DOut.take {p : List (Int × Int)} {dep : List Int} {ws : List Nat} {m m' : Int} {i : Nat} (h : DOut p dep (ws ++ [i]) m) {d : Int} (hd : dep[i]? = some d) (h0 : 0 ≤ d) (hm : m' = if m < d then d else m) (l : List (Nat × Int)) : DMid p dep ws m' i d l 0 := by
  have hm1 : m ≤ m' := by rw [hm]; split <;> omega
  have hm2 : d ≤ m' := by rw [hm]; split <;> omega
  refine ⟨h.base, fun j x hx hx0 hj => ?_, fun j hj => h.wk j (by simp [hj]), by have := h.m0; omega, ?_, by have := h.cnt; simp at this; omega, ⟨hd, h0⟩, fun j _ hj => absurd hj (by omega)⟩
  · by_cases hji : j = i
    · subst hji
      rw [hd] at hx; simp at hx; subst hx
      exact ⟨fun hne => absurd rfl hne, hm2⟩
    · have := h.clo j x hx hx0 (by simp [hj, hji])
      exact ⟨fun _ => this.1, by omega⟩
  · rw [hm]; split
    · exact .inr ⟨i, hd, h0⟩
    · exact h.att

theorem DMid.next_keep {p : List (Int × Int)} {dep : List Int} {ws : List Nat} {m d : Int} {i k : Nat} {l : List (Nat × Int)} (h : DMid p dep ws m i d l k) (hk : k < l.length) (hs : dep[(l[k]).1]? = some (l[k]).2) : DMid p dep ws m i d l (k + 1) :=
  ⟨h.base, h.clo, h.wk, h.m0, h.att, h.cnt, h.cur, fun j hj hjk => by
    by_cases e : j = k
    · subst e; exact hs
    · exact h.done j hj (by omega)⟩

theorem DMid.next_set {p : List (Int × Int)} {dep : List Int} {ws : List Nat} {m d : Int} {i k : Nat} {l : List (Nat × Int)} (h : DMid p dep ws m i d l k) (hi : i < p.length) (hl : succF p.length p[i] i d = some l) (hk : k < l.length) (hs : dep[(l[k]).1]? = some (-1)) :
    DMid p (dep.set (l[k]).1 (l[k]).2) (ws ++ [(l[k]).1]) m i d l (k + 1) ∧ neg (dep.set (l[k]).1 (l[k]).2) + 1 = neg dep := by
  have hin := (succF_in hl hi).2
  have hk' := hin (l[k]) (List.getElem_mem hk)
  have hr : Reach p (l[k]).1 (l[k]).2 := by
    rcases h.base.real i d h.cur.1 with h' | h'
    · have := h.cur.2; omega
    · exact h'.2.step hi hl (List.getElem_mem hk)
  obtain ⟨hb, hn⟩ := h.base.assign hs hk'.2.1 hr h.cur.1 hk'.2.2
  obtain ⟨hlt, hv⟩ := List.getElem?_eq_some_iff.1 hs
  refine ⟨⟨hb, fun j x hx hx0 hj => ?_, fun j hj => ?_, h.m0, ?_, by have := h.cnt; simp; omega, ⟨keep_set hs h.cur.1 h.cur.2, h.cur.2⟩, fun j hj hjk => ?_⟩, hn⟩
  · have hne : j ≠ (l[k]).1 := fun e => hj (by simp [e])
    rw [List.getElem?_set, if_neg (fun e => hne e.symm)] at hx
    have := h.clo j x hx hx0 (fun e => hj (by simp [e]))
    exact ⟨fun hji => (this.1 hji).set hs, this.2⟩
  · rcases List.mem_append.1 hj with h' | h'
    · obtain ⟨x, hx, h0⟩ := h.wk j h'
      exact ⟨x, keep_set hs hx h0, h0⟩
    · simp at h'; subst h'
      exact ⟨(l[k]).2, by simp [hlt], hk'.2.1⟩
  · rcases h.att with h' | ⟨j, hj, h0⟩
    · exact .inl h'
    · exact .inr ⟨j, keep_set hs hj h0, h0⟩
  · by_cases e : j = k
    · subst e; simp [hlt]
    · exact keep_set hs (h.done j hj (by omega)) (hin (l[j]) (List.getElem_mem hj)).2.1

theorem DMid.fin {p : List (Int × Int)} {dep : List Int} {ws : List Nat} {m d : Int} {i k : Nat} {l : List (Nat × Int)} (h : DMid p dep ws m i d l k) (hl : ∀ hi : i < p.length, succF p.length p[i] i d = some l) (hk : l.length ≤ k) : DOut p dep ws m := by
  refine ⟨h.base, fun j x hx h0 hj => ?_, h.wk, h.m0, h.att, by have := h.cnt; omega⟩
  obtain ⟨h1, h2⟩ := h.clo j x hx h0 hj
  refine ⟨?_, h2⟩
  by_cases e : j = i
  · subst e
    have hc := h.cur.1
    rw [hx] at hc; simp at hc; subst hc
    intro hi
    refine ⟨l, hl hi, fun s hs => ?_⟩
    obtain ⟨q, hq, rfl⟩ := List.mem_iff_getElem.1 hs
    exact h.done q hq (by omega)
  · exact h1 e

theorem DMid.fail {p : List (Int × Int)} {dep : List Int} {ws : List Nat} {m d y : Int} {i k : Nat} {l : List (Nat × Int)} (h : DMid p dep ws m i d l k) (hi : i < p.length) (hl : succF p.length p[i] i d = some l) (hk : k < l.length) (hy : dep[(l[k]).1]? = some y) (h1 : y ≠ -1) (h2 : y ≠ (l[k]).2) : IsMD p 0 false :=
  .inr ⟨rfl, rfl, notWF_two h.base h.cur.1 h.cur.2 hi hl (List.getElem_mem hk) hy h1 h2⟩
theorem DMid.failS {p : List (Int × Int)} {dep : List Int} {ws : List Nat} {m d : Int} {i k : Nat} {l : List (Nat × Int)} (h : DMid p dep ws m i d l k) (hi : i < p.length) (hl : succF p.length p[i] i d = none) : IsMD p 0 false :=
  .inr ⟨rfl, rfl, notWF_succ h.base h.cur.1 h.cur.2 hi hl⟩

theorem DOut.isMD {p : List (Int × Int)} {dep : List Int} {m : Int} (h : DOut p dep [] m) (hn : p.length ≤ 65536) : IsMD p m true := by
  refine isMD_dep hn h.base (fun i x hx h0 => (h.clo i x hx h0 (by simp)).1) (fun i x hx => ?_) h.att
  rcases h.base.real i x hx with h' | h'
  · have := h.m0; omega
  · exact (h.clo i x hx h'.1 (by simp)).2

theorem DBase.range {p : List (Int × Int)} {dep : List Int} (h : DBase p dep) (hn : p.length ≤ 65536) : ∀ x ∈ dep, -1 ≤ x ∧ x ≤ 65536 := by
  intro x hx
  obtain ⟨i, hi, rfl⟩ := List.mem_iff_getElem.1 hx
  have h1 := h.bound i dep[i] (List.getElem?_eq_getElem hi)
  rcases h.real i dep[i] (List.getElem?_eq_getElem hi) with h2 | h2 <;> omega

theorem succF_halt (n i : Nat) (x d : Int) (hd : 0 ≤ d) : succF n (11, x) i d = some [] := by
  have : needsF 11 = 0 := rfl
  unfold succF; rw [if_neg (by simp only; omega), if_pos rfl]
theorem succF_jmp (n i : Nat) (x d : Int) (hd : 0 ≤ d) (h0 : 0 ≤ x) (h1 : x ≤ n) : succF n (9, x) i d = some [(x.toNat, d)] := by
  have : needsF 9 = 0 := rfl
  unfold succF; rw [if_neg (by simp only; omega), if_neg (by simp), if_pos rfl, if_neg (by simp only; omega)]
theorem succF_jmp_bad (n i : Nat) (x d : Int) (h : x < 0 ∨ (n : Int) < x) : succF n (9, x) i d = none := by
  unfold succF
  by_cases hh : needsF 9 < 0 ∨ d < needsF 9
  · rw [if_pos hh]
  · rw [if_neg hh, if_neg (by simp), if_pos rfl, if_pos h]
theorem succF_jz (n i : Nat) (x d : Int) (hd : 1 ≤ d) (h0 : 0 ≤ x) (h1 : x ≤ n) : succF n (10, x) i d = some [(i + 1, d - 1), (x.toNat, d - 1)] := by
  have : needsF 10 = 1 := rfl
  unfold succF; rw [if_neg (by simp only; omega), if_neg (by simp), if_neg (by simp), if_pos rfl, if_neg (by simp only; omega)]
theorem succF_jz_bad (n i : Nat) (x d : Int) (h : x < 0 ∨ (n : Int) < x) : succF n (10, x) i d = none := by
  unfold succF
  by_cases hh : needsF 10 < 0 ∨ d < needsF 10
  · rw [if_pos hh]
  · rw [if_neg hh, if_neg (by simp), if_neg (by simp), if_pos rfl, if_pos h]
theorem succF_other (n i : Nat) (c x d : Int) (h9 : c ≠ 9) (h10 : c ≠ 10) (h11 : c ≠ 11) (h0 : 0 ≤ needsF c) (hd : needsF c ≤ d) : succF n (c, x) i d = some [(i + 1, d + deltaF c)] := by
  unfold succF; rw [if_neg (by simp only; omega), if_neg h11, if_neg h9, if_neg h10]
theorem succF_need (n i : Nat) (c x d : Int) (h : needsF c < 0 ∨ d < needsF c) : succF n (c, x) i d = none := by
  unfold succF; rw [if_pos h]
end Go.Proofs.Yahabw
