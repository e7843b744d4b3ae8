import Derived.Test.YahabwStepS1
import Derived.Test.YahabwStepS2
import Derived.Test.YahabwStepS3
set_option linter.unusedVariables false
set_option linter.unusedSimpArgs false
namespace Go.Proofs.Yahabw
open Go.RowKit

theorem stepS_any (a a2 av : Option Addr) (cap cap2 cv base pc k : Nat) (p : List (Int × Int)) (args st : List Int) (w : World) (hp : w.ownsRow 0 60 2 (.slice a p.length cap) p.length (cellsS p))
    (ha : w.ownsRow 0 2 1 (.slice a2 args.length cap2) args.length (args.map (Value.int .i64))) (hv : w.ownsRow base 2 1 (.slice av st.length cv) st.length (st.map (Value.int .i64))) (hnz : NZ av st.length cv)
    (hlen : p.length ≤ 1000000000) (hlen2 : args.length ≤ 1000000000) (hst : st.length ≤ 20000) (hk : k < 20000) (hbase : base ≤ w.heap.size) (c x : Int) (hpc : p[pc]? = some (c, x)) (h11 : c ≠ 11) :
    Calls Yabv.prog 48 #[.slice a p.length cap, .slice a2 args.length cap2, .agg #[.int .i64 pc, .slice av st.length cv, .int .i64 k]] w (StepPost p.length args c x pc k st base (.slice av st.length cv) w) := by
  obtain ⟨hip, hpe⟩ := List.getElem?_eq_some_iff.1 hpc
  obtain ⟨gp, rfl⟩ := own_some hp (by omega)
  have hgp : gp < w.heap.size := (hp.lt gp rfl).2
  obtain ⟨c0, c1⟩ := ownS_cell hp pc hip
  rw [hpe] at c0 c1
  simp only at c0 c1
  by_cases hbad : needsF c < 0 ∨ (st.length : Int) < needsF c
  · exact stepS_fault a2 gp _ cap cap2 cv base pc k c av st args x w hip c0 c1 hgp ha hv hlen hlen2 hst hk hbase hbad
  have hnd : ¬ needsF c < 0 := fun h => hbad (.inl h)
  have hdn : ¬ (st.length : Int) < needsF c := fun h => hbad (.inr h)
  have one : needsF c = 1 → ∃ r y g, st = r ++ [y] ∧ av = some ⟨g, 0, none⟩ := fun h => by
    obtain ⟨r, y, rfl⟩ := top1 (st := st) (by omega)
    obtain ⟨g, hg⟩ := own_some hv (by simp)
    exact ⟨r, y, g, rfl, hg⟩
  have two : needsF c = 2 → ∃ r y z g, st = r ++ [y, z] ∧ av = some ⟨g, 0, none⟩ := fun h => by
    obtain ⟨r, y, z, rfl⟩ := top2 (st := st) (by omega)
    obtain ⟨g, hg⟩ := own_some hv (by simp)
    exact ⟨r, y, z, g, rfl, hg⟩
  rcases needs_cases hnd h11 with rfl | rfl | rfl | rfl | rfl | rfl | rfl | rfl | rfl | rfl | rfl
  · rcases hnz with ⟨rfl, hn, rfl⟩ | ⟨⟨g, rfl⟩, hcv⟩
    · obtain rfl : st = [] := List.eq_nil_of_length_eq_zero hn
      exact stepS_c0n a2 gp _ cap cap2 base pc k args x w hip c0 c1 hgp ha hv hlen hlen2 hst hk hbase
    · exact stepS_c0s a2 gp _ cap cap2 cv base pc k g st args x w hip c0 c1 hgp ha hv hlen hlen2 hst hk hbase hcv
  · rcases hnz with ⟨rfl, hn, rfl⟩ | ⟨⟨g, rfl⟩, hcv⟩
    · obtain rfl : st = [] := List.eq_nil_of_length_eq_zero hn
      exact stepS_c1n a2 gp _ cap cap2 base pc k args x w hip c0 c1 hgp ha hv hlen hlen2 hst hk hbase
    · exact stepS_c1s a2 gp _ cap cap2 cv base pc k g st args x w hip c0 c1 hgp ha hv hlen hlen2 hst hk hbase hcv
  · obtain ⟨r, y, z, g, rfl, rfl⟩ := two (by simp [needsF])
    have hl : (r ++ [y, z]).length = r.length + 2 := by simp
    rw [hl] at hv hst ⊢
    exact stepS_c2 a2 gp _ cap cap2 cv base pc k g y z r args x w hip c0 c1 hgp ha hv hlen hlen2 hst hk hbase
  · obtain ⟨r, y, z, g, rfl, rfl⟩ := two (by simp [needsF])
    have hl : (r ++ [y, z]).length = r.length + 2 := by simp
    rw [hl] at hv hst ⊢
    exact stepS_c3 a2 gp _ cap cap2 cv base pc k g y z r args x w hip c0 c1 hgp ha hv hlen hlen2 hst hk hbase
  · obtain ⟨r, y, z, g, rfl, rfl⟩ := two (by simp [needsF])
    have hl : (r ++ [y, z]).length = r.length + 2 := by simp
    rw [hl] at hv hst ⊢
    exact stepS_c4 a2 gp _ cap cap2 cv base pc k g y z r args x w hip c0 c1 hgp ha hv hlen hlen2 hst hk hbase
  · obtain ⟨r, y, g, rfl, rfl⟩ := one (by simp [needsF])
    have hl : (r ++ [y]).length = r.length + 1 := by simp
    rw [hl] at hv hst ⊢
    exact stepS_c5 a2 gp _ cap cap2 cv base pc k g y r args x w hip c0 c1 hgp ha hv hlen hlen2 hst hk hbase
  · obtain ⟨r, y, z, g, rfl, rfl⟩ := two (by simp [needsF])
    have hl : (r ++ [y, z]).length = r.length + 2 := by simp
    rw [hl] at hv hst ⊢
    exact stepS_c6 a2 gp _ cap cap2 cv base pc k g y z r args x w hip c0 c1 hgp ha hv hlen hlen2 hst hk hbase
  · obtain ⟨r, y, g, rfl, rfl⟩ := one (by simp [needsF])
    have hl : (r ++ [y]).length = r.length + 1 := by simp
    rw [hl] at hv hst ⊢
    exact stepS_c7 a2 gp _ cap cap2 cv base pc k g y r args x w hip c0 c1 hgp ha hv hlen hlen2 hst hk hbase
  · obtain ⟨r, y, z, g, rfl, rfl⟩ := two (by simp [needsF])
    have hl : (r ++ [y, z]).length = r.length + 2 := by simp
    rw [hl] at hv hst ⊢
    exact stepS_c8 a2 gp _ cap cap2 cv base pc k g y z r args x w hip c0 c1 hgp ha hv hlen hlen2 hst hk hbase
  · rcases hnz with ⟨rfl, hn, rfl⟩ | ⟨⟨g, rfl⟩, hcv⟩
    · obtain rfl : st = [] := List.eq_nil_of_length_eq_zero hn
      exact stepS_c9n a2 gp _ cap cap2 base pc k args x w hip c0 c1 hgp ha hv hlen hlen2 hst hk hbase
    · exact stepS_c9s a2 gp _ cap cap2 cv base pc k g st args x w hip c0 c1 hgp ha hv hlen hlen2 hst hk hbase hcv
  · obtain ⟨r, y, g, rfl, rfl⟩ := one (by simp [needsF])
    have hl : (r ++ [y]).length = r.length + 1 := by simp
    rw [hl] at hv hst ⊢
    exact stepS_c10 a2 gp _ cap cap2 cv base pc k g y r args x w hip c0 c1 hgp ha hv hlen hlen2 hst hk hbase
end Go.Proofs.Yahabw
