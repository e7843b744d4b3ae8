import Derived.Test.YahabwDepth2
import Derived.Deep.DeepCutAuto
import Derived.Deep.CutBlock
set_option linter.unusedVariables false
set_option linter.unusedSimpArgs false
namespace Go.Proofs.Yahabw
open Go.RowKit

def ints (z : List Int) : List Value := z.map (Value.int .i64)
def nats (z : List Nat) : List Value := z.map (fun k : Nat => Value.int .i64 (k : Int))

theorem fill_neg (n k : Nat) (h : k < n) : (List.replicate k (-1 : Int) ++ List.replicate (n - k) 0).set k (-1) = List.replicate (k + 1) (-1) ++ List.replicate (n - (k + 1)) 0 := by
  apply List.ext_getElem?
  intro j
  simp only [List.getElem?_set, List.getElem?_append, List.length_append, List.length_replicate, List.getElem?_replicate]
  by_cases h1 : k = j
  · subst h1
    have h5 : k < k + (n - k) := by omega
    simp [h5]
  · rw [if_neg h1]
    by_cases h2 : j < k
    · have h3 : j < k + 1 := by omega
      simp [h2, h3]
    · have h3 : ¬ j < k + 1 := by omega
      simp only [if_neg h2, if_neg h3]
      have e : j - k < n - k ↔ j - (k + 1) < n - (k + 1) := by omega
      simp only [e]

theorem ownN_cell {w : World} {base e n cap g : Nat} {z : List Nat} (h : w.ownsRow base e 1 (.slice (some ⟨g, 0, none⟩) n cap) n (nats z)) (k : Nat) (hk : k < z.length) : w.cell? ⟨g, k, none⟩ = some (.int .i64 (z[k] : Int)) := by
  have h1 := h.1
  simp [nats] at h1
  rw [h.cellAt k (by omega)]
  simp [nats, hk]

theorem ownI_cell? {w : World} {base e n cap g : Nat} {z : List Int} (h : w.ownsRow base e 1 (.slice (some ⟨g, 0, none⟩) n cap) n (ints z)) {k : Nat} {x : Int} (hk : z[k]? = some x) : w.cell? ⟨g, k, none⟩ = some (.int .i64 x) := by
  obtain ⟨hlt, rfl⟩ := List.getElem?_eq_some_iff.1 hk
  exact ownI_cell h k hlt

/-- The successors as they lie in the two small arrays. -/
def SuccAt (p : List (Int × Int)) (i : Nat) (d : Int) (b : Nat) (l : List (Nat × Int)) (w : World) : Prop :=
  (∀ hi : i < p.length, succF p.length p[i] i d = some l) ∧ ∃ A1 A2 : Array Value, w.heap[b + 1]? = some (.cells A1 87 (0, 0)) ∧ w.heap[b + 1 + 1]? = some (.cells A2 87 (0, 0)) ∧
    ∀ j (h : j < l.length), A1[j]? = some (.int .i64 ((l[j]).1 : Int)) ∧ A2[j]? = some (.int .i64 (l[j]).2)

theorem succAt_one {p : List (Int × Int)} {i b s : Nat} {d sd sv : Int} {W : World} {x0 x1 y0 y1 : Value} (hs : ∀ hi : i < p.length, succF p.length p[i] i d = some [(s, sd)]) (hsv : sv = s)
    (B1 : W.heap[b + 1]? = some (.cells #[x0, x1] 87 (0, 0))) (B2 : W.heap[b + 1 + 1]? = some (.cells #[y0, y1] 87 (0, 0))) :
    SuccAt p i d b [(s, sd)] ((W.setCell ⟨b + 1, 0, none⟩ (.int .i64 sv)).setCell ⟨b + 1 + 1, 0, none⟩ (.int .i64 sd)) := by
  have C1 : ((W.setCell ⟨b + 1, 0, none⟩ (.int .i64 sv)).setCell ⟨b + 1 + 1, 0, none⟩ (.int .i64 sd)).heap[b + 1]? = some (.cells #[.int .i64 sv, x1] 87 (0, 0)) := by
    rw [heap_setCell_other _ _ _ _ (by simp), heap_setCell_same W (b + 1) 0 _ 87 _ B1]; simp
  have C2 : ((W.setCell ⟨b + 1, 0, none⟩ (.int .i64 sv)).setCell ⟨b + 1 + 1, 0, none⟩ (.int .i64 sd)).heap[b + 1 + 1]? = some (.cells #[.int .i64 sd, y1] 87 (0, 0)) := by
    rw [heap_setCell_same _ (b + 1 + 1) 0 _ 87 _ (by rw [heap_setCell_other _ _ _ _ (by simp)]; exact B2)]; simp
  refine ⟨hs, _, _, C1, C2, fun j h => ?_⟩
  match j, h with
  | 0, _ => simp [hsv]

theorem succAt_two {p : List (Int × Int)} {i b s t : Nat} {d sd td sv tv : Int} {W : World} {x0 x1 y0 y1 : Value} (hs : ∀ hi : i < p.length, succF p.length p[i] i d = some [(s, sd), (t, td)]) (hsv : sv = s) (htv : tv = t)
    (B1 : W.heap[b + 1]? = some (.cells #[x0, x1] 87 (0, 0))) (B2 : W.heap[b + 1 + 1]? = some (.cells #[y0, y1] 87 (0, 0))) :
    SuccAt p i d b [(s, sd), (t, td)] ((((W.setCell ⟨b + 1, 0, none⟩ (.int .i64 sv)).setCell ⟨b + 1 + 1, 0, none⟩ (.int .i64 sd)).setCell ⟨b + 1, 1, none⟩ (.int .i64 tv)).setCell ⟨b + 1 + 1, 1, none⟩ (.int .i64 td)) := by
  have C1 : ((W.setCell ⟨b + 1, 0, none⟩ (.int .i64 sv)).setCell ⟨b + 1 + 1, 0, none⟩ (.int .i64 sd)).heap[b + 1]? = some (.cells #[.int .i64 sv, x1] 87 (0, 0)) := by
    rw [heap_setCell_other _ _ _ _ (by simp), heap_setCell_same W (b + 1) 0 _ 87 _ B1]; simp
  have C2 : ((W.setCell ⟨b + 1, 0, none⟩ (.int .i64 sv)).setCell ⟨b + 1 + 1, 0, none⟩ (.int .i64 sd)).heap[b + 1 + 1]? = some (.cells #[.int .i64 sd, y1] 87 (0, 0)) := by
    rw [heap_setCell_same _ (b + 1 + 1) 0 _ 87 _ (by rw [heap_setCell_other _ _ _ _ (by simp)]; exact B2)]; simp
  refine ⟨hs, #[.int .i64 sv, .int .i64 tv], #[.int .i64 sd, .int .i64 td], ?_, ?_, fun j h => ?_⟩
  · rw [heap_setCell_other _ _ _ _ (by simp), heap_setCell_same _ (b + 1) 1 _ 87 _ C1]; simp
  · rw [heap_setCell_same _ (b + 1 + 1) 1 _ 87 _ (by rw [heap_setCell_other _ _ _ _ (by simp)]; exact C2)]; simp
  · match j, h with
    | 0, _ => simp [hsv]
    | 1, _ => simp [htv]

/-- What 'depths' hands back. -/
def DepPost (p : List (Int × Int)) (w : World) (e : Ending) (w' : World) : Prop :=
  (∃ (a : Option Addr) (c : Nat) (dep : List Int) (m : Int), e = .returned (.tuple #[.slice a (p.length + 1) c, .int .i64 m, .bool true]) ∧ IsMD p m true ∧ w'.ownsRow w.heap.size 3 1 (.slice a (p.length + 1) c) (p.length + 1) (ints dep) ∧ dep.length = p.length + 1 ∧ (∀ x ∈ dep, -1 ≤ x ∧ x ≤ 65536) ∧ p.length ≤ 65536 ∧ m ≤ 65536 ∧ Below w.heap.size w w') ∨
  (e = .returned (.tuple #[.slice none 0 0, .int .i64 0, .bool false]) ∧ IsMD p 0 false ∧ Below w.heap.size w w')

set_option maxRecDepth 100000 in
set_option maxHeartbeats 4000000 in
theorem implDep_any (a : Option Addr) (cap : Nat) (p : List (Int × Int)) (w : World) (hp : w.ownsRow 0 60 2 (.slice a p.length cap) p.length (cellsS p)) (hlen : p.length ≤ 1000000000) :
    Calls Yabv.prog 22 #[.slice a p.length cap] w (DepPost p w) := by
  obtain ⟨i0, hi, hz0, hz1, hz2⟩ := info_parts Yabv.info3
  by_cases hbig : 65536 < p.length
  · go_enter Yabv.func22, Yabv.ntmps22
    go_wp2
    go_ret3
    exact .inr ⟨rfl, .inr ⟨rfl, rfl, notWF_big hbig⟩, Below.refl _ _⟩
  have hn : p.length ≤ 65536 := by omega
  have hbb : decide ((65536 : Int) < (p.length : Int)) = false := by simp; omega
  go_enter Yabv.func22, Yabv.ntmps22
  go_wp2_with (at_make; refine wpList_make_full _ rfl _ _ 61 rfl w.heap.size 3 i0 _ 1 Yabv.underlying61 hi hz0 hz1 _ _ _ _ (p.length + 1) rfl rfl (by omega) (by omega) (by rw [hz2]; omega) (by unfold maxLen; omega) (Nat.le_refl _) ?_)
  intro w1 hown hgrow
  rw [made_I] at hown
  have hb1 := below_of_grown hgrow
  clear hgrow
  go_wp2
  go_loopw [7] (fun i wr => ∃ k : Nat, k ≤ p.length + 1 ∧ i = .int .i64 k ∧ Below w.heap.size w wr ∧
      wr.ownsRow w.heap.size 3 1 (.slice (some ⟨w.heap.size, 0, none⟩) (p.length + 1) (p.length + 1)) (p.length + 1) (ints (List.replicate k (-1) ++ List.replicate (p.length + 1 - k) 0)))
    (fun i _ => p.length + 1 - (intOf i).toNat)
  case atStart => exact ⟨0, Nat.zero_le _, rfl, hb1, by simpa [ints] using hown⟩
  case round =>
    obtain ⟨k, hk, rfl, hbw, how⟩ := hrel
    by_cases hlt : k < p.length + 1
    · have hL : (List.replicate k (-1 : Int) ++ List.replicate (p.length + 1 - k) 0).length = p.length + 1 := by simp; omega
      have l1 : (k : Int) < (p.length : Int) + 1 := by omega
      have f0 := how.frozenAt k
      obtain ⟨u0, e0⟩ := own_old how k (by rw [ints, List.length_map, hL]; omega)
      have R := ownI_store how k (-1)
      rw [fill_neg (p.length + 1) k hlt] at R
      have HR := hide R
      clear R hL
      go_wp2
      go_roundw
      case rel => exact ⟨k + 1, by omega, by go_num, (hbw.setCell (Nat.le_refl _) _), (unhide HR)⟩
      case measure => simp [intOf]; omega
    · obtain rfl : k = p.length + 1 := by omega
      have f0 := how.frozenAt 0
      obtain ⟨u0, e0⟩ := own_old how 0 (by simp [ints])
      have R : (wr.setCell ⟨w.heap.size, 0, none⟩ (.int .i64 0)).ownsRow w.heap.size 3 1 (.slice (some ⟨w.heap.size, 0, none⟩) (p.length + 1) (p.length + 1)) (p.length + 1) (ints (0 :: List.replicate p.length (-1))) := by
        have := ownI_store how 0 0
        simpa [List.replicate_succ, ints] using this
      have hb2 : Below w.heap.size w (wr.setCell ⟨w.heap.size, 0, none⟩ (.int .i64 0)) := hbw.setCell (Nat.le_refl _) _
      clear how hbw
      have hsz := (R.lt _ rfl).2
      go_wp2_with (at_make; refine wpList_make_own _ rfl _ _ 61 rfl (w.heap.size + 1) 3 i0 _ 1 Yabv.underlying61 hi hz0 hz1 _ _ _ (p.length + 1) (by rfl) (by rfl) (by omega) (by rw [hz2]; omega) (by unfold maxLen; omega) hsz ?_)
      intro w2 hw2 hg2
      have R2 := R.kept hg2 (.inr (by simp [Value.ownBlock]))
      have hb3 : Below w.heap.size w w2 := hb2.grown hg2 hb2.size (by simp)
      have hsz2 : w.heap.size < w2.heap.size := (R2.lt _ rfl).2
      clear hg2 R hb2 hsz
      have hrow : ∀ j, (Value.slice (some ⟨wr.heap.size, 0, none⟩) 0 (p.length + 1)).ownBlock = some j → w.heap.size + 1 ≤ j := fun j hj => (hw2.lt j hj).1
      go_wp2_with (at_builtin; refine wpList_append_own _ rfl (.tmp 39) (.tmp 40) 61 rfl (w.heap.size + 1) 3 i0 _ 1 8 Yabv.underlying61 hi hz0 hz1 hz2 rfl (by decide) _ _ _ rfl (hw2.alloc _) ⟨w2.heap.size, 0, none⟩ 1 1 [.int .i64 0] rfl rfl (cells_new w2 [.int .i64 0] 3) (by intro u hu; simp at hu; subst hu; rfl) (by unfold maxLen; omega) (by omega) (by simp; omega) ?_)
      intro v3 w3 hw3 hg3 _
      have R3 := (R2.alloc (.cells #[.int .i64 0] 3)).kept hg3 (.inr (fun e => by have : w.heap.size + 1 ≤ w.heap.size := hrow _ e.symm; omega))
      have hb4 : Below w.heap.size w w3 := (hb3.alloc hb3.size _).grown hg3 (by simp; omega) (fun j hj => by have := hrow j hj; omega)
      clear hg3 hrow hw2 R2 hb3
      go_wp2_with fail
      go_loopg [8, 9] (2 * neg (0 :: List.replicate p.length (-1)) + 1) (fun g v mv wr => ∃ (dep : List Int) (ws : List Nat) (m : Int), mv = .int .i64 m ∧ g = 2 * neg dep + ws.length ∧ DOut p dep ws m ∧
        wr.ownsRow w.heap.size 3 1 (.slice (some ⟨w.heap.size, 0, none⟩) (p.length + 1) (p.length + 1)) (p.length + 1) (ints dep) ∧ wr.ownsRow (w.heap.size + 1) 3 1 v ws.length (nats ws) ∧ Below w.heap.size w wr)
      case atStart => exact ⟨_, [0], 0, rfl, rfl, DOut.start p, R3, by simpa [nats] using hw3, hb4⟩
      case round =>
        clear R3 hw3 hb4 hsz2
        obtain ⟨dep, ws, m, rfl, hg, hO, hD, hW, hbw⟩ := hrel
        have HG := hide hg
        clear hg
        rename_i wr9
        rcases List.eq_nil_or_concat ws with rfl | ⟨ws', i, rfl⟩
        · obtain ⟨av, cv, hv⟩ := own_form hW
          rw [hv] at hW ⊢
          have hle := hO.le
          go_wp2
          go_ret3
          exact .inl ⟨_, _, dep, m, rfl, hO.isMD hn, hD, hO.base.len, hO.base.range hn, hn, by omega, hbw⟩
        · rw [List.concat_eq_append] at hO hW
          have HG2 : Hid (gk = 2 * neg dep + ws'.length + 1) := by have := unhide HG; simp at this; show _ = _; omega
          clear HG
          obtain ⟨av, cv, hv⟩ := own_form hW
          have hwl : (ws' ++ [i]).length = ws'.length + 1 := by simp
          rw [hwl] at hv hW
          rw [hv] at hW ⊢
          clear hwl
          obtain ⟨gw, rfl⟩ := own_some hW (by omega)
          have hgw : w.heap.size + 1 ≤ gw ∧ gw < wr.heap.size := hW.lt gw rfl
          obtain ⟨hgw1, hgw2⟩ := hgw
          have cw : wr.cell? ⟨gw, ws'.length, none⟩ = some (.int .i64 (i : Int)) := by
            have := ownN_cell hW ws'.length (by simp)
            simpa using this
          have hWp : wr.ownsRow (w.heap.size + 1) 3 1 (.slice (some ⟨gw, 0, none⟩) ws'.length cv) ws'.length (nats ws') := ownsRow_pop (last := [.int .i64 (i : Int)]) (by simp [nats]) (by simpa [nats] using hW)
          obtain ⟨d, hd, hd0⟩ := hO.wk i (by simp)
          have hil : i < p.length + 1 := by have := (List.getElem?_eq_some_iff.1 hd).1; rw [hO.base.len] at this; exact this
          have cd := ownI_cell? hD hd
          have hdn : d ≤ p.length := by have := hO.base.bound i d hd; omega
          have hml := hO.le
          have hm0 := hO.m0
          have hcnt := hO.cnt
          simp only [List.length_append, List.length_cons, List.length_nil] at hcnt
          have l1 : (i : Int) < (p.length : Int) + 1 := by omega
          obtain ⟨m', hm'⟩ : ∃ m', m' = if m < d then d else m := ⟨_, rfl⟩
          have hM := fun l => hO.take hd hd0 hm' l
          have hm1 : 0 ≤ m' := by rw [hm']; split <;> omega
          have hm2 : m' ≤ p.length := by rw [hm']; split <;> omega
          have HM := hide hM
          have HM' := hide hm'
          have hcv : ¬ cv = 0 := by have := own_cap hW; omega
          have hcv2 : ws'.length ≤ cv := by have := own_cap hW; omega
          have hcv3 : (ws'.length : Int) ≤ (cv : Int) := by omega
          clear hM hm' hO hW
          go_upto_if 62 with fail
          go_cut [9] from 42 to 156 (fun mv wc => mv = .int .i64 m' ∧ wr = wc)
          case first =>
            by_cases hmd : m < d
            · go_wp2
              go_meet
              case rel => exact ⟨by rw [unhide HM', if_pos hmd], rfl⟩
            · go_wp2
              go_meet
              case rel => exact ⟨by rw [unhide HM', if_neg (by omega)], rfl⟩
          case rest =>
            obtain ⟨rfl, rfl⟩ := hcut
            clear HM' cd cw hcv
            by_cases hin : i = p.length
            · subst hin
              go_wp2
              go_roundg (2 * neg dep + ws'.length)
              case measure => have := unhide HG2; omega
              case rel => exact ⟨dep, ws', m', rfl, rfl, (unhide HM []).fin (fun h => absurd h (by omega)) (by simp), hD, hWp, hbw⟩
            · have hip : i < p.length := by omega
              have hin2 : ((i : Int) == (p.length : Int)) = false := by rw [beq_eq_false_iff_ne]; omega
              obtain ⟨gp, rfl⟩ := own_some hp (by omega)
              obtain ⟨c0, c1⟩ := ownS_cell (own_below' hp hbw) i hip
              have l2 : (i : Int) < (p.length : Int) := by omega
              generalize hop : p[i] = op at *
              obtain ⟨c, x⟩ := op
              simp only at c0 c1
              have HP := hide hop
              clear hop
              go_wp2_with fail
              refine (needs_any c _).mono ?_
              rintro e w5 ⟨rfl, rfl⟩
              have hfail : succF p.length (c, x) i d = none → ∀ w9, Below w.heap.size w w9 → DepPost p w (.returned (.tuple #[.slice none 0 0, .int .i64 0, .bool false])) w9 := fun hs w9 hb9 =>
                .inr ⟨rfl, (unhide HM []).failS hip (by rw [unhide HP]; exact hs), hb9⟩
              have HF := hide hfail
              clear hfail
              have hbW : ∀ o : Obj, Below w.heap.size w (wr.alloc o) := fun o => hbw.alloc hbw.size o
              by_cases hnd : needsF c < 0
              · go_wp2
                go_ret3
                exact unhide HF (succF_need _ _ _ _ _ (.inl hnd)) _ (hbW _)
              have hndb : decide (needsF c < 0) = false := by simpa using hnd
              by_cases hdn2 : d < needsF c
              · go_wp2
                go_ret3
                exact unhide HF (succF_need _ _ _ _ _ (.inr hdn2)) _ (hbW _)
              have hdn2b : decide (d < needsF c) = false := by simpa using hdn2
              clear hnd hdn2
              have hdn3 : needsF c ≤ d := by simpa using hdn2b
              have hnd3 : 0 ≤ needsF c := by simpa using hndb
              go_upto_block 4 with fail
              generalize hWW : World.alloc (World.alloc (World.alloc wr _) _) _ = W
              have hbW3 : Below wr.heap.size wr W := by rw [← hWW]; exact (((Below.refl _ _).alloc (Nat.le_refl _) _).alloc (by simp) _).alloc (by simp; omega) _
              have B0 : W.heap[wr.heap.size]? = some (.cells #[.int .i64 c, .int .i64 x] 60 (0, 0)) := by
                rw [← hWW, Below.heap_alloc _ _ _ (by simp; omega), Below.heap_alloc _ _ _ (by simp)]; exact heap_alloc_new wr _
              have B1 : W.heap[wr.heap.size + 1]? = some (.cells #[.int .i64 0, .int .i64 0] 87 (0, 0)) := by
                rw [← hWW, Below.heap_alloc _ _ _ (by simp)]; simpa using heap_alloc_new (wr.alloc _) _
              have B2 : W.heap[wr.heap.size + 1 + 1]? = some (.cells #[.int .i64 0, .int .i64 0] 87 (0, 0)) := by
                rw [← hWW]; simpa using heap_alloc_new ((wr.alloc _).alloc _) _
              clear hWW c0 c1 hbW
              go_cut [16] from 42 to 156 (fun nsv wd => ∃ l : List (Nat × Int), nsv = .int .i64 (l.length : Int) ∧ SuccAt p i d wr.heap.size l wd ∧ l.length ≤ 2 ∧ Below wr.heap.size wr wd)
              case first =>
                clear HM HG2 hD hWp hgw1 hgw2 hcnt hm1 hm2 hml hm0 hk hlt f0 e0 hb1 hown hcv2 hcv3
                have q0 : W.cell? ⟨wr.heap.size, 0, none⟩ = some (.int .i64 c) := blk_cell B0 0 rfl
                have q1 : W.cell? ⟨wr.heap.size, 1, none⟩ = some (.int .i64 x) := blk_cell B0 1 rfl
                have r0 : W.cell? ⟨wr.heap.size + 1, 0, none⟩ = some (.int .i64 0) := blk_cell B1 0 rfl
                have r1 : W.cell? ⟨wr.heap.size + 1, 1, none⟩ = some (.int .i64 0) := blk_cell B1 1 rfl
                have s0 : W.cell? ⟨wr.heap.size + 1 + 1, 0, none⟩ = some (.int .i64 0) := blk_cell B2 0 rfl
                have s1 : W.cell? ⟨wr.heap.size + 1 + 1, 1, none⟩ = some (.int .i64 0) := blk_cell B2 1 rfl
                have f0 : W.frozen? ⟨wr.heap.size + 1, 0, none⟩ = false := blk_free B1 0
                have f1 : W.frozen? ⟨wr.heap.size + 1, 1, none⟩ = false := blk_free B1 1
                have g0 : W.frozen? ⟨wr.heap.size + 1 + 1, 0, none⟩ = false := blk_free B2 0
                have g1 : W.frozen? ⟨wr.heap.size + 1 + 1, 1, none⟩ = false := blk_free B2 1
                have hsucc : ∀ l, succF p.length (c, x) i d = some l → ∀ hi : i < p.length, succF p.length p[i] i d = some l := fun l hl _ => by rw [unhide HP]; exact hl
                have HS := hide hsucc
                clear hsucc
                have hbFin := fun (w9 : World) (h : Below wr.heap.size wr w9) => hbw.trans (h.mono hbw.size)
                have hb2c : ∀ v1 v2, Below wr.heap.size wr ((W.setCell ⟨wr.heap.size + 1, 0, none⟩ v1).setCell ⟨wr.heap.size + 1 + 1, 0, none⟩ v2) := fun v1 v2 => (hbW3.setCell (by show _ ≤ wr.heap.size + 1; omega) _).setCell (by show _ ≤ wr.heap.size + 1 + 1; omega) _
                have hb4c : ∀ v1 v2 v3 v4, Below wr.heap.size wr ((((W.setCell ⟨wr.heap.size + 1, 0, none⟩ v1).setCell ⟨wr.heap.size + 1 + 1, 0, none⟩ v2).setCell ⟨wr.heap.size + 1, 1, none⟩ v3).setCell ⟨wr.heap.size + 1 + 1, 1, none⟩ v4) := fun v1 v2 v3 v4 => ((hb2c v1 v2).setCell (by show _ ≤ wr.heap.size + 1; omega) _).setCell (by show _ ≤ wr.heap.size + 1 + 1; omega) _
                have HBF := hide hbFin
                have HB2C := hide hb2c
                have HB4C := hide hb4c
                have HWB := hide hbW3
                clear hbFin hb2c hb4c hbW3
                by_cases k11 : c = 11
                · subst k11
                  go_wp2
                  go_meet
                  case rel => exact ⟨[], rfl, ⟨unhide HS _ (succF_halt _ _ _ _ hd0), _, _, B1, B2, fun j h => by simp at h⟩, by simp, unhide HWB⟩
                by_cases k9 : c = 9
                · subst k9
                  clear k11
                  by_cases hx0 : x < 0
                  · go_wp2
                    go_ret3
                    exact unhide HF (succF_jmp_bad _ _ _ _ (.inl hx0)) _ (unhide HBF _ (unhide HWB))
                  have hx0b : decide (x < 0) = false := by simpa using hx0
                  by_cases hx1 : (p.length : Int) < x
                  · go_wp2
                    go_ret3
                    exact unhide HF (succF_jmp_bad _ _ _ _ (.inr hx1)) _ (unhide HBF _ (unhide HWB))
                  have hx1b : decide ((p.length : Int) < x) = false := by simpa using hx1
                  go_wp2
                  go_meet
                  case rel => exact ⟨[(x.toNat, d)], rfl, succAt_one (unhide HS _ (succF_jmp _ _ _ _ hd0 (by omega) (by omega))) (by omega) B1 B2, by simp, unhide HB2C _ _⟩
                by_cases k10 : c = 10
                · subst k10
                  clear k9 k11
                  by_cases hx0 : x < 0
                  · go_wp2
                    go_ret3
                    exact unhide HF (succF_jz_bad _ _ _ _ (.inl hx0)) _ (unhide HBF _ (unhide HWB))
                  have hx0b : decide (x < 0) = false := by simpa using hx0
                  by_cases hx1 : (p.length : Int) < x
                  · go_wp2
                    go_ret3
                    exact unhide HF (succF_jz_bad _ _ _ _ (.inr hx1)) _ (unhide HBF _ (unhide HWB))
                  have hx1b : decide ((p.length : Int) < x) = false := by simpa using hx1
                  have hd1 : 1 ≤ d := hdn3
                  go_wp2
                  go_meet
                  case rel => exact ⟨[(i + 1, d - 1), (x.toNat, d - 1)], rfl, succAt_two (unhide HS _ (succF_jz _ _ _ _ hd1 (by omega) (by omega))) (by omega) (by omega) B1 B2, by simp, unhide HB4C _ _ _ _⟩
                · have k11b : (c == 11) = false := by rw [beq_eq_false_iff_ne]; exact k11
                  have k10b : (c == 10) = false := by rw [beq_eq_false_iff_ne]; exact k10
                  have k9b : (c == 9) = false := by rw [beq_eq_false_iff_ne]; exact k9
                  have hdl := delta_le c
                  obtain ⟨hdl1, hdl2⟩ := hdl
                  go_wp2_with fail
                  refine (delta_any c _).mono ?_
                  rintro e w9 ⟨rfl, rfl⟩
                  go_wp2
                  go_meet
                  case rel => exact ⟨[(i + 1, d + deltaF c)], rfl, succAt_one (unhide HS _ (succF_other _ _ _ _ _ k9 k10 k11 hnd3 hdn3)) (by omega) B1 B2, by simp, unhide HB2C _ _⟩
              case rest =>
                obtain ⟨l, rfl, ⟨hSucc, A1, A2, hA1, hA2, hA⟩, hl2, hbd⟩ := hcut
                have hlS := hSucc hip
                have hin := succF_in hlS hip
                have HA := hide hA
                have HIN := hide hin.2
                have HLS := hide hlS
                have HSU := hide hSucc
                have hDd := own_below' hD hbd
                have hWd := own_below' hWp hbd
                have hbwd : Below w.heap.size w wc := hbw.trans (hbd.mono hbw.size)
                have hBs : w.heap.size < wr.heap.size := by have : w.heap.size < wr.heap.size := (hD.lt _ rfl).2; exact this
                clear hA hin hlS hSucc hD hWp hbw hbW3 B0 B1 B2 hdn3 hnd3 hndb hdn2b HP HF hbd hk hlt f0 e0 hb1 hown hcv2 hcv3
                generalize wr.heap.size = bx at *
                go_wp2_with fail
                go_loopw [8, 17] (fun v kv wx => ∃ (k : Nat) (dep2 : List Int) (ws2 : List Nat), k ≤ l.length ∧ kv = .int .i64 (k : Int) ∧ DMid p dep2 ws2 m' i d l k ∧ Hid (2 * neg dep2 + ws2.length ≤ 2 * neg dep + ws'.length) ∧
                    wx.ownsRow w.heap.size 3 1 (.slice (some ⟨w.heap.size, 0, none⟩) (p.length + 1) (p.length + 1)) (p.length + 1) (ints dep2) ∧ wx.ownsRow (w.heap.size + 1) 3 1 v ws2.length (nats ws2) ∧ Below w.heap.size w wx ∧
                    wx.heap[bx + 1]? = some (.cells A1 87 (0, 0)) ∧ wx.heap[bx + 1 + 1]? = some (.cells A2 87 (0, 0)))
                  (fun _ kv _ => l.length - (intOf kv).toNat)
                case atStart => exact ⟨0, dep, ws', by omega, rfl, unhide HM l, Nat.le_refl _, hDd, hWd, hbwd, hA1, hA2⟩
                case round =>
                  clear hDd hWd hbwd hA1 hA2
                  obtain ⟨k, dep2, ws2, hk, rfl, hMid, HC, hDx, hWx, hbx, hX1, hX2⟩ := hrel
                  have hml2 := hMid.le
                  have hszx := hbx.size
                  have hszD : w.heap.size < wr.heap.size := (hDx.lt _ rfl).2
                  have hcnt2 := hMid.cnt
                  have hlen2 := hMid.base.len
                  by_cases hkl : k < l.length
                  · obtain ⟨a1, a2⟩ := unhide HA k hkl
                    obtain ⟨b1, b2, b3⟩ := unhide HIN (l[k]) (List.getElem_mem hkl)
                    have hs2 : ∃ y, dep2[(l[k]).1]? = some y := ⟨_, List.getElem?_eq_getElem (by omega)⟩
                    obtain ⟨y, hy⟩ := hs2
                    have hstep1 := fun h : y = (l[k]).2 => hMid.next_keep hkl (by rw [hy, h])
                    have hstep2 := fun h : y = -1 => hMid.next_set hip (unhide HLS) hkl (by rw [hy, h])
                    have hfl := fun h1 h2 => hMid.fail hip (unhide HLS) hkl hy h1 h2
                    have H1 := hide hstep1
                    have H2 := hide hstep2
                    have H3 := hide hfl
                    clear hstep1 hstep2 hfl hMid
                    have cS : wr.cell? ⟨bx + 1, k, none⟩ = some (.int .i64 ((l[k]).1 : Int)) := blk_cell hX1 k a1
                    have cD : wr.cell? ⟨bx + 1 + 1, k, none⟩ = some (.int .i64 (l[k]).2) := blk_cell hX2 k a2
                    have cY : wr.cell? ⟨w.heap.size, (l[k]).1, none⟩ = some (.int .i64 y) := ownI_cell? hDx hy
                    have fY := hDx.frozenAt (l[k]).1
                    have HY := hide hy
                    clear a1 a2 hy
                    have HLEN := hide hlen2
                    clear hlen2
                    generalize hs : (l[k]).1 = sx at *
                    generalize hsd : (l[k]).2 = sdx at *
                    clear hs hsd
                    have k2 : (k : Int) < 2 := by omega
                    have sl : (sx : Int) < (p.length : Int) + 1 := by omega
                    have kl : (k : Int) < (l.length : Int) := by omega
                    by_cases hy1 : y = -1
                    · subst hy1
                      obtain ⟨hN, hneg⟩ := unhide H2 rfl
                      have HNEG := hide hneg
                      clear hneg
                      have hWs : (wr.setCell ⟨w.heap.size, sx, none⟩ (.int .i64 sdx)).ownsRow (w.heap.size + 1) 3 1 u8 ws2.length (nats ws2) := own_setCell hWx _ _ _ (fun e => by have := (hWx.lt _ e).1; omega)
                      have hDs : (wr.setCell ⟨w.heap.size, sx, none⟩ (.int .i64 sdx)).ownsRow w.heap.size 3 1 (.slice (some ⟨w.heap.size, 0, none⟩) (p.length + 1) (p.length + 1)) (p.length + 1) (ints (dep2.set sx sdx)) := ownI_store hDx sx sdx
                      have hne1 := own_ne hWx hX1 (by decide)
                      have hne2 := own_ne hWx hX2 (by decide)
                      have hbs : Below w.heap.size w (wr.setCell ⟨w.heap.size, sx, none⟩ (.int .i64 sdx)) := hbx.setCell (Nat.le_refl _) _
                      have hl1 := blk_lt hX1
                      have hl2' := blk_lt hX2
                      have hXs1 : (wr.setCell ⟨w.heap.size, sx, none⟩ (.int .i64 sdx)).heap[bx + 1]? = some (.cells A1 87 (0, 0)) := by rw [heap_setCell_other _ _ _ _ (by show bx + 1 ≠ w.heap.size; omega)]; exact hX1
                      have hXs2 : (wr.setCell ⟨w.heap.size, sx, none⟩ (.int .i64 sdx)).heap[bx + 1 + 1]? = some (.cells A2 87 (0, 0)) := by rw [heap_setCell_other _ _ _ _ (by show bx + 1 + 1 ≠ w.heap.size; omega)]; exact hX2
                      have hrow : ∀ j, u8.ownBlock = some j → w.heap.size + 1 ≤ j := fun j hj => (hWx.lt j hj).1
                      clear hWx hDx hX1 hX2 hbx
                      go_wp2_with (at_builtin; refine wpList_append_own _ rfl (.tmp 145) (.tmp 147) 61 rfl (w.heap.size + 1) 3 i0 _ 1 8 Yabv.underlying61 hi hz0 hz1 hz2 rfl (by decide) _ _ _ rfl (hWs.alloc _) ⟨wr.heap.size, 0, none⟩ 1 1 [.int .i64 (sx : Int)] rfl rfl (by have := cells_new (wr.setCell ⟨w.heap.size, sx, none⟩ (.int .i64 sdx)) [.int .i64 (sx : Int)] 3; simpa using this) (by intro u hu; simp at hu; subst hu; rfl) (by unfold maxLen; omega) (by omega) (by simp; omega) ?_)
                      intro v6 w6 hW6 hg6 _
                      have hD6 := (hDs.alloc (.cells #[.int .i64 (sx : Int)] 3)).kept hg6 (.inr (fun e => by have : w.heap.size + 1 ≤ w.heap.size := hrow _ e.symm; omega))
                      have hb6 : Below w.heap.size w w6 := (hbs.alloc hbs.size _).grown hg6 (by simp; omega) (fun j hj => by have := hrow j hj; omega)
                      have hX61 : w6.heap[bx + 1]? = some (.cells A1 87 (0, 0)) := by rw [hg6.block _ (by simp; omega) (fun e => hne1 e.symm), Below.heap_alloc _ _ _ (by simp; omega)]; exact hXs1
                      have hX62 : w6.heap[bx + 1 + 1]? = some (.cells A2 87 (0, 0)) := by rw [hg6.block _ (by simp; omega) (fun e => hne2 e.symm), Below.heap_alloc _ _ _ (by simp; omega)]; exact hXs2
                      clear hg6 hDs hWs hXs1 hXs2 hbs
                      have hW6' : w6.ownsRow (w.heap.size + 1) 3 1 v6 (ws2 ++ [sx]).length (nats (ws2 ++ [sx])) := by simpa [nats] using hW6
                      have HC6 : Hid (2 * neg (dep2.set sx sdx) + (ws2 ++ [sx]).length ≤ 2 * neg dep + ws'.length) := by
                        have h1 := unhide HC
                        have h2 := unhide HNEG
                        show _ ≤ _
                        rw [List.length_append]
                        simp only [List.length_cons, List.length_nil]
                        omega
                      clear hW6
                      go_wp2
                      go_roundw
                      case rel => first | exact ⟨k + 1, dep2.set sx sdx, ws2 ++ [sx], by omega, by go_num, hN, HC6, hD6, hW6', hb6, hX61, hX62⟩ | ((repeat apply Exists.intro); exact ⟨⟨k + 1, dep2.set sx sdx, ws2 ++ [sx], by omega, by go_num, hN, HC6, hD6, hW6', hb6, hX61, hX62⟩, rfl⟩)
                      case measure => simp [intOf]; omega
                    · have hy1b : (y == -1) = false := by rw [beq_eq_false_iff_ne]; exact hy1
                      by_cases hy2 : y = sdx
                      · subst hy2
                        have hN := unhide H1 rfl
                        go_wp2
                        go_quiet (fail)
                        go_wp2
                        go_roundw
                        case rel => first | exact ⟨k + 1, dep2, ws2, by omega, by go_num, hN, HC, hDx, hWx, below_drewN hbx _, hX1, hX2⟩ | ((repeat apply Exists.intro); exact ⟨⟨k + 1, dep2, ws2, by omega, by go_num, hN, HC, hDx, hWx, below_drewN hbx _, hX1, hX2⟩, rfl⟩)
                        case measure => simp [intOf]; omega
                      · have hy2b : (y != sdx) = true := by rw [bne_iff_ne]; exact hy2
                        go_wp2
                        go_quiet (fail)
                        go_wp2
                        go_ret3
                        exact .inr ⟨rfl, unhide H3 hy1 hy2, below_drewN hbx _⟩
                  · have hfin := hMid.fin (unhide HSU) (by omega)
                    clear hMid
                    go_wp2
                    go_roundg (2 * neg dep2 + ws2.length)
                    case measure => have := unhide HG2; have := unhide HC; omega
                    case rel => exact ⟨dep2, ws2, m', rfl, rfl, hfin, hDx, hWx, hbx⟩
end Go.Proofs.Yahabw
