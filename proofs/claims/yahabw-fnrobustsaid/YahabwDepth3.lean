import Derived.Test.YahabwDepth2
set_option linter.unusedVariables false
set_option linter.unusedSimpArgs false
namespace Go.Proofs.Yahabw

/-- A sweep's state: N0: how many had no depth when it began; ch: has it changed anything? -/
structure SIn (p : List (Int × Int)) (dep : List Int) (N0 : Nat) (ch : Bool) (i : Nat) : Prop where
  base : DBase p dep
  le : neg dep ≤ N0
  clo : ch = false → ∀ (j : Nat) (x : Int), j < i → dep[j]? = some x → 0 ≤ x → Closed p dep j x
  chg : ch = true → neg dep + 1 ≤ N0

structure SMid (p : List (Int × Int)) (dep : List Int) (N0 : Nat) (ch : Bool) (i : Nat) (d : Int) (l : List (Nat × Int)) (k : Nat) : Prop where
  sin : SIn p dep N0 ch i
  cur : dep[i]? = some d ∧ 0 ≤ d
  done : ch = false → ∀ j (h : j < l.length), j < k → dep[(l[j]).1]? = some (l[j]).2

theorem DBase.start (p : List (Int × Int)) : DBase p (0 :: List.replicate p.length (-1)) := (DOut.start p).base
theorem neg_start (n : Nat) : neg (0 :: List.replicate n (-1)) = n := by simp [neg, List.countP_cons, List.countP_replicate]

theorem SIn.begin {p : List (Int × Int)} {dep : List Int} (h : DBase p dep) : SIn p dep (neg dep) false 0 := ⟨h, Nat.le_refl _, fun _ j x hj => absurd hj (by omega), fun h => by simp at h⟩

theorem SIn.skip {p : List (Int × Int)} {dep : List Int} {N0 i : Nat} {ch : Bool} (h : SIn p dep N0 ch i) {x : Int} (hx : dep[i]? = some x) (h0 : x < 0) : SIn p dep N0 ch (i + 1) :=
  ⟨h.base, h.le, fun hc j y hj hy hy0 => by
    by_cases e : j = i
    · subst e; rw [hx] at hy; simp at hy; omega
    · exact h.clo hc j y (by omega) hy hy0, h.chg⟩

theorem SIn.take {p : List (Int × Int)} {dep : List Int} {N0 i : Nat} {ch : Bool} (h : SIn p dep N0 ch i) {d : Int} (hd : dep[i]? = some d) (h0 : 0 ≤ d) (l : List (Nat × Int)) : SMid p dep N0 ch i d l 0 :=
  ⟨h, ⟨hd, h0⟩, fun _ j _ hj => absurd hj (by omega)⟩

theorem SMid.next_keep {p : List (Int × Int)} {dep : List Int} {N0 i k : Nat} {ch : Bool} {d : Int} {l : List (Nat × Int)} (h : SMid p dep N0 ch i d l k) (hk : k < l.length) (hs : dep[(l[k]).1]? = some (l[k]).2) : SMid p dep N0 ch i d l (k + 1) :=
  ⟨h.sin, h.cur, fun hc j hj hjk => by
    by_cases e : j = k
    · subst e; exact hs
    · exact h.done hc j hj (by omega)⟩

theorem SMid.next_set {p : List (Int × Int)} {dep : List Int} {N0 i k : Nat} {ch : Bool} {d : Int} {l : List (Nat × Int)} (h : SMid p dep N0 ch i d l k) (hi : i < p.length) (hl : succF p.length p[i] i d = some l) (hk : k < l.length) (hs : dep[(l[k]).1]? = some (-1)) :
    SMid p (dep.set (l[k]).1 (l[k]).2) N0 true i d l (k + 1) := by
  have hin := (succF_in hl hi).2
  have hk' := hin (l[k]) (List.getElem_mem hk)
  have hr : Reach p (l[k]).1 (l[k]).2 := by
    rcases h.sin.base.real i d h.cur.1 with h' | h'
    · have := h.cur.2; omega
    · exact h'.2.step hi hl (List.getElem_mem hk)
  obtain ⟨hb, hn⟩ := h.sin.base.assign hs hk'.2.1 hr h.cur.1 hk'.2.2
  have := h.sin.le
  exact ⟨⟨hb, by omega, fun hc => by simp at hc, fun _ => by omega⟩, ⟨keep_set hs h.cur.1 h.cur.2, h.cur.2⟩, fun hc => by simp at hc⟩

theorem SMid.fin {p : List (Int × Int)} {dep : List Int} {N0 i k : Nat} {ch : Bool} {d : Int} {l : List (Nat × Int)} (h : SMid p dep N0 ch i d l k) (hl : ∀ hi : i < p.length, succF p.length p[i] i d = some l) (hk : l.length ≤ k) : SIn p dep N0 ch (i + 1) := by
  refine ⟨h.sin.base, h.sin.le, fun hc j x hj hx h0 => ?_, h.sin.chg⟩
  by_cases e : j = i
  · subst e
    have hcu := h.cur.1
    rw [hx] at hcu; simp at hcu; subst hcu
    intro hi
    refine ⟨l, hl hi, fun s hs => ?_⟩
    obtain ⟨q, hq, rfl⟩ := List.mem_iff_getElem.1 hs
    exact h.done hc q hq (by omega)
  · exact h.sin.clo hc j x (by omega) hx h0

theorem SMid.fail {p : List (Int × Int)} {dep : List Int} {N0 i k : Nat} {ch : Bool} {d y : Int} {l : List (Nat × Int)} (h : SMid p dep N0 ch i d l k) (hi : i < p.length) (hl : succF p.length p[i] i d = some l) (hk : k < l.length) (hy : dep[(l[k]).1]? = some y) (h1 : 0 ≤ y) (h2 : y ≠ (l[k]).2) : ¬ WF p :=
  notWF_two h.sin.base h.cur.1 h.cur.2 hi hl (List.getElem_mem hk) hy (by omega) h2

/-- A table of depths that is whole. -/
structure DGood (p : List (Int × Int)) (dep : List Int) : Prop where
  small : p.length ≤ 65536
  base : DBase p dep
  clo : ∀ (i : Nat) (x : Int), dep[i]? = some x → 0 ≤ x → Closed p dep i x

theorem SIn.good {p : List (Int × Int)} {dep : List Int} {N0 : Nat} (h : SIn p dep N0 false p.length) (hn : p.length ≤ 65536) : DGood p dep := by
  refine ⟨hn, h.base, fun i x hx h0 => ?_⟩
  by_cases e : i < p.length
  · exact h.clo rfl i x e hx h0
  · intro hi; exact absurd hi e
end Go.Proofs.Yahabw
