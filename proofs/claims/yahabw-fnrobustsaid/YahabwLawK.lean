import Derived.Test.YahabwBase
set_option linter.unusedVariables false
set_option linter.unusedSimpArgs false
namespace Go.Proofs.Yahabw
open Go.RowKit

theorem keep6 {W w' : World} {B b c o0 o1 o2 o3 o4 o5 : Nat} {x0 x1 x2 x3 x4 x5 : Value} (hb : Below B W w')
    (q : W.cell? ⟨b, o0, none⟩ = some x0 ∧ W.cell? ⟨b, o1, none⟩ = some x1 ∧ W.cell? ⟨b, o2, none⟩ = some x2 ∧ W.cell? ⟨c, o3, none⟩ = some x3 ∧ W.cell? ⟨c, o4, none⟩ = some x4 ∧ W.cell? ⟨c, o5, none⟩ = some x5) (h0 : b < B) (h1 : c < B) :
    w'.cell? ⟨b, o0, none⟩ = some x0 ∧ w'.cell? ⟨b, o1, none⟩ = some x1 ∧ w'.cell? ⟨b, o2, none⟩ = some x2 ∧ w'.cell? ⟨c, o3, none⟩ = some x3 ∧ w'.cell? ⟨c, o4, none⟩ = some x4 ∧ w'.cell? ⟨c, o5, none⟩ = some x5 :=
  ⟨keepc hb q.1 h0, keepc hb q.2.1 h0, keepc hb q.2.2.1 h0, keepc hb q.2.2.2.1 h1, keepc hb q.2.2.2.2.1 h1, keepc hb q.2.2.2.2.2 h1⟩

theorem keepg {w w' : World} {b : Nat} {o : Obj} {r : Option Nat} (hg : w.grownBy w' r) (h : w.heap[b]? = some o) (hne : some b ≠ r) : w'.heap[b]? = some o := (hg.block b (blk_lt h) hne).trans h

theorem own_apart {v u : Value} {P Q : Nat → Prop} (h1 : ∀ j, v.ownBlock = some j → P j) (h2 : ∀ j, u.ownBlock = some j → Q j) (h : ∀ i j, P i → Q j → i ≠ j) : v.ownBlock = none ∨ v.ownBlock ≠ u.ownBlock := by
  rcases hv : v.ownBlock with _ | i
  · exact .inl rfl
  · right
    intro e
    exact h i i (h1 i hv) (h2 i e.symm) rfl
end Go.Proofs.Yahabw
