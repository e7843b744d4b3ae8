import Derived.Test.YahabwMachR2
namespace Go.Proofs.Yahabw
open Go.RowKit

theorem own_take {w : World} {base e n cap g : Nat} {z : List Int} (h : w.ownsRow base e 1 (.slice (some ⟨g, 0, none⟩) n cap) n (z.map (Value.int .i64))) (m : Nat) (hm : m ≤ n) : w.ownsRow base e 1 (.slice (some ⟨g, 0, none⟩) m cap) m ((z.take m).map (Value.int .i64)) := by
  have h1 := h.1
  simp at h1
  rcases h.2 with ⟨h', _⟩ | ⟨g2, cap2, cur, h', hb, hg, hnc, hcm, hcs, htake⟩
  · simp at h'
  · simp only [Value.slice.injEq, Option.some.injEq, Addr.mk.injEq, and_true, true_and] at h'
    obtain ⟨rfl, rfl⟩ := h'
    refine ⟨by simp; omega, .inr ⟨g, cap, cur, rfl, hb, hg, by omega, hcm, hcs, ?_⟩⟩
    rw [List.map_take, ← htake, List.take_take]
    congr 1
    omega

theorem inN_0 {x : Int} {N : Nat} (h : inN x N = true) : 0 ≤ x := by simp [inN] at h; exact h.1
theorem inN_1 {x : Int} {N : Nat} (h : inN x N = true) : x < (N : Int) := by simp [inN] at h; exact h.2
theorem getD_cell {w : World} {base e n cap g : Nat} {z : List Int} (h : w.ownsRow base e 1 (.slice (some ⟨g, 0, none⟩) n cap) n (z.map (Value.int .i64))) {k : Nat} (hk : k < z.length) :
    w.cell? ⟨g, k, none⟩ = some (.int .i64 (z.getD k 0)) := by
  rw [ownI_cell h k hk]
  simp [hk]
section
variable (args z : List Int) (r a b x : Int) (pc : Nat)
theorem nxtR_0 : nxtR ⟨0, r, a, b, x⟩ pc z = pc + 1 := by simp [nxtR]
theorem nxtR_1 : nxtR ⟨1, r, a, b, x⟩ pc z = pc + 1 := by simp [nxtR]
theorem nxtR_2 : nxtR ⟨2, r, a, b, x⟩ pc z = pc + 1 := by simp [nxtR]
theorem nxtR_3 : nxtR ⟨3, r, a, b, x⟩ pc z = pc + 1 := by simp [nxtR]
theorem nxtR_4 : nxtR ⟨4, r, a, b, x⟩ pc z = pc + 1 := by simp [nxtR]
theorem nxtR_5 : nxtR ⟨5, r, a, b, x⟩ pc z = pc + 1 := by simp [nxtR]
theorem nxtR_6 : nxtR ⟨6, r, a, b, x⟩ pc z = pc + 1 := by simp [nxtR]
theorem nxtR_7 : nxtR ⟨7, r, a, b, x⟩ pc z = pc + 1 := by simp [nxtR]
theorem nxtR_8 : nxtR ⟨8, r, a, b, x⟩ pc z = x.toNat := by simp [nxtR]
theorem nxtR_9 : nxtR ⟨9, r, a, b, x⟩ pc z = if z.getD a.toNat 0 = 0 then x.toNat else pc + 1 := by simp [nxtR]
theorem regR_0 : regR args ⟨0, r, a, b, x⟩ z = z.set r.toNat x := by simp [regR]
theorem regR_1 : regR args ⟨1, r, a, b, x⟩ z = z.set r.toNat (argF args x) := by simp [regR]
theorem regR_2 : regR args ⟨2, r, a, b, x⟩ z = z.set r.toNat (wrap64 (z.getD a.toNat 0 + z.getD b.toNat 0)) := by simp [regR]
theorem regR_3 : regR args ⟨3, r, a, b, x⟩ z = z.set r.toNat (wrap64 (z.getD a.toNat 0 - z.getD b.toNat 0)) := by simp [regR]
theorem regR_4 : regR args ⟨4, r, a, b, x⟩ z = z.set r.toNat (wrap64 (z.getD a.toNat 0 * z.getD b.toNat 0)) := by simp [regR]
theorem regR_5 : regR args ⟨5, r, a, b, x⟩ z = z.set r.toNat (z.getD a.toNat 0) := by simp [regR]
theorem regR_6 : regR args ⟨6, r, a, b, x⟩ z = (z.set a.toNat (z.getD b.toNat 0)).set b.toNat (z.getD a.toNat 0) := by simp [regR]
theorem regR_7 : regR args ⟨7, r, a, b, x⟩ z = z := by simp [regR]
theorem regR_8 : regR args ⟨8, r, a, b, x⟩ z = z := by simp [regR]
theorem regR_9 : regR args ⟨9, r, a, b, x⟩ z = z := by simp [regR]
end
end Go.Proofs.Yahabw
