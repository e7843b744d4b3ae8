import Derived.Test.YahabwLawF
set_option linter.unusedVariables false
set_option linter.unusedSimpArgs false
namespace Go.Proofs.Yahabw
open Go.RowKit

theorem add_none (b o i : Nat) : (Addr.mk b o none).add i = ⟨b, o + i, none⟩ := by
  unfold Addr.add
  by_cases h : i = 0
  · subst h; rfl
  · rw [if_neg h]

theorem bytes_of_row {w : World} {a : Option Addr} {len cap : Nat} {zs : List Int} (hl : len ≤ 1048576)
    (h : (a = none ∧ len = 0 ∧ cap = 0 ∧ zs = []) ∨ ∃ x, a = some x ∧ len ≤ cap ∧ cap ≤ maxLen ∧ zs.length = cap ∧ (∀ i, i < zs.length → w.cell? (x.add i) = some (.int .u8 (zs.getD i 0))) ∧ ∀ n ∈ zs, (Lit.int .u8 n).wf = true) : Bytes w a len := by
  refine ⟨hl, fun hn => ?_⟩
  rcases h with ⟨_, h, _⟩ | ⟨x, rfl, hlc, _, hz, hc, hwf⟩
  · omega
  · have h0 := hc 0 (by omega)
    obtain ⟨b, o, s⟩ := x
    have hs : s = none := by
      cases s with
      | none => rfl
      | some t =>
        rw [show (Addr.mk b o (some t)).add 0 = ⟨b, o, some t⟩ from rfl] at h0
        unfold World.cell? at h0
        split at h0
        · simp at h0
        · simp at h0
    subst hs
    refine ⟨b, o, rfl, fun i hi => ⟨zs.getD i 0, ?_, ?_⟩⟩
    · rw [← add_none]; exact hc i (by omega)
    · have hlt : i < zs.length := by omega
      have hm : zs.getD i 0 ∈ zs := by
        have e : zs.getD i 0 = zs[i] := by simp [hlt]
        rw [e]; exact List.getElem_mem hlt
      have hw := hwf _ hm
      generalize zs.getD i 0 = z at hw
      simp only [Lit.wf, Bool.and_eq_true, decide_eq_true_eq] at hw
      have e0 : IntKind.u8.min = 0 := rfl
      have e1 : IntKind.u8.max = 255 := rfl
      rw [e0, e1] at hw
      exact hw
end Go.Proofs.Yahabw
