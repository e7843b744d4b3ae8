import Derived.Test.YahabwDepth3
import Derived.Test.YahabwSucc
import Derived.Test.YahabwImplDep
set_option linter.unusedVariables false
set_option linter.unusedSimpArgs false
namespace Go.Proofs.Yahabw
open Go.RowKit

theorem succ_none (c x d : Int) (i n : Nat) (w : World) (hd0 : 0 ≤ d) (hd1 : d ≤ 1000000) (hi : i ≤ 1000000) (hn : n ≤ 1000000) (h : succF n (c, x) i d = none) :
    Calls Yabv.prog 66 #[.agg #[.int .i64 c, .int .i64 x], .int .i64 d, .int .i64 (i : Int), .int .i64 (n : Int)] w fun e w' => e = .returned (.tuple #[.slice none 0 0, .bool false]) ∧ Below w.heap.size w w' := by
  refine (succ_any c x d i n w hd0 hd1 hi hn).mono fun e w' hp => ?_
  rcases hp with ⟨_, he, hb⟩ | ⟨l, a, cap, hs, _⟩
  · exact ⟨he, hb⟩
  · rw [h] at hs; simp at hs
theorem succ_some (c x d : Int) (i n : Nat) (w : World) (hd0 : 0 ≤ d) (hd1 : d ≤ 1000000) (hi : i ≤ 1000000) (hn : n ≤ 1000000) (l : List (Nat × Int)) (h : succF n (c, x) i d = some l) :
    Calls Yabv.prog 66 #[.agg #[.int .i64 c, .int .i64 x], .int .i64 d, .int .i64 (i : Int), .int .i64 (n : Int)] w fun e w' => ∃ (a : Option Addr) (cap : Nat), e = .returned (.tuple #[.slice a l.length cap, .bool true]) ∧ w'.ownsRow w.heap.size 115 2 (.slice a l.length cap) l.length (cellsS (edges l)) ∧ Below w.heap.size w w' := by
  refine (succ_any c x d i n w hd0 hd1 hi hn).mono fun e w' hp => ?_
  rcases hp with ⟨hs, _⟩ | ⟨l', a, cap, hs, he, ho, hb⟩
  · rw [h] at hs; simp at hs
  · rw [h] at hs; simp at hs; subst hs; exact ⟨a, cap, he, ho, hb⟩

/-- What the model's 'Depths' hands back. -/
def SDepPost (p : List (Int × Int)) (w : World) (e : Ending) (w' : World) : Prop :=
  (∃ (a : Option Addr) (c : Nat) (dep : List Int), e = .returned (.tuple #[.slice a (p.length + 1) c, .bool true]) ∧ DGood p dep ∧ w'.ownsRow w.heap.size 3 1 (.slice a (p.length + 1) c) (p.length + 1) (ints dep) ∧ Below w.heap.size w w') ∨
  (e = .returned (.tuple #[.slice none 0 0, .bool false]) ∧ ¬ WF p ∧ Below w.heap.size w w')

theorem edge_cell {w : World} {base g cap : Nat} {l : List (Nat × Int)} (h : w.ownsRow base 115 2 (.slice (some ⟨g, 0, none⟩) l.length cap) l.length (cellsS (edges l))) (k : Nat) (hk : k < l.length) :
    w.cell? ⟨g, k * 2, none⟩ = some (.int .i64 ((l[k]).1 : Int)) ∧ w.cell? ⟨g, k * 2 + 1, none⟩ = some (.int .i64 (l[k]).2) := by
  have := ownS_cell h k (by simp [edges]; omega)
  simpa [edges] using this

set_option maxRecDepth 100000 in
set_option maxHeartbeats 4000000 in
theorem specDep_any (a : Option Addr) (cap : Nat) (p : List (Int × Int)) (w : World) (hp : w.ownsRow 0 60 2 (.slice a p.length cap) p.length (cellsS p)) (hlen : p.length ≤ 1000000000) :
    Calls Yabv.prog 44 #[.slice a p.length cap] w (SDepPost p w) := by
  obtain ⟨i0, hi, hz0, hz1, hz2⟩ := info_parts Yabv.info3
  by_cases hbig : 65536 < p.length
  · go_enter Yabv.func44, Yabv.ntmps44
    go_wp2
    go_ret2
    exact .inr ⟨rfl, notWF_big hbig, Below.refl _ _⟩
  have hn : p.length ≤ 65536 := by omega
  have hbb : decide ((65536 : Int) < (p.length : Int)) = false := by simp; omega
  go_enter Yabv.func44, Yabv.ntmps44
  go_wp2_with (at_make; refine wpList_make_full _ rfl _ _ 61 rfl w.heap.size 3 i0 _ 1 Yabv.underlying61 hi hz0 hz1 _ _ _ _ (p.length + 1) rfl rfl (by omega) (by omega) (by rw [hz2]; omega) (by unfold maxLen; omega) (Nat.le_refl _) ?_)
  intro w1 hown hgrow
  rw [made_I] at hown
  have hb1 := below_of_grown hgrow
  clear hgrow
  go_wp2
  go_loopw [6] (fun i wr => ∃ k : Nat, k ≤ p.length + 1 ∧ i = .int .i64 k ∧ Below w.heap.size w wr ∧
      wr.ownsRow w.heap.size 3 1 (.slice (some ⟨w.heap.size, 0, none⟩) (p.length + 1) (p.length + 1)) (p.length + 1) (ints (List.replicate k (-1) ++ List.replicate (p.length + 1 - k) 0)))
    (fun i _ => p.length + 1 - (intOf i).toNat)
  case atStart => exact ⟨0, Nat.zero_le _, rfl, hb1, by simpa [ints] using hown⟩
  case round =>
    obtain ⟨k, hk, rfl, hbw, how⟩ := hrel
    clear hb1 hown
    by_cases hlt : k < p.length + 1
    · have hL : (List.replicate k (-1 : Int) ++ List.replicate (p.length + 1 - k) 0).length = p.length + 1 := by simp; omega
      have l1 : (k : Int) < (p.length : Int) + 1 := by omega
      have f0 := how.frozenAt k
      obtain ⟨u0, e0⟩ := own_old how k (by rw [ints, List.length_map, hL]; omega)
      have R := ownI_store how k (-1)
      rw [fill_neg (p.length + 1) k hlt] at R
      have HR := hide R
      clear R hL
      go_wp2
      go_roundw
      case rel => exact ⟨k + 1, by omega, by go_num, (hbw.setCell (Nat.le_refl _) _), (unhide HR)⟩
      case measure => simp [intOf]; omega
    · obtain rfl : k = p.length + 1 := by omega
      clear hk hlt
      have f0 := how.frozenAt 0
      obtain ⟨u0, e0⟩ := own_old how 0 (by simp [ints])
      have R : (wr.setCell ⟨w.heap.size, 0, none⟩ (.int .i64 0)).ownsRow w.heap.size 3 1 (.slice (some ⟨w.heap.size, 0, none⟩) (p.length + 1) (p.length + 1)) (p.length + 1) (ints (0 :: List.replicate p.length (-1))) := by
        have := ownI_store how 0 0
        simpa [List.replicate_succ, ints] using this
      have hb2 : Below w.heap.size w (wr.setCell ⟨w.heap.size, 0, none⟩ (.int .i64 0)) := hbw.setCell (Nat.le_refl _) _
      clear how hbw
      have hns := neg_start p.length
      go_wp2_with fail
      go_loopg [7] (p.length + 1) (fun g pv wr => ∃ (ps : Nat) (dep : List Int), pv = .int .i64 (ps : Int) ∧ g = p.length + 1 - ps ∧ Hid (ps + neg dep ≤ p.length) ∧ DBase p dep ∧
        wr.ownsRow w.heap.size 3 1 (.slice (some ⟨w.heap.size, 0, none⟩) (p.length + 1) (p.length + 1)) (p.length + 1) (ints dep) ∧ Below w.heap.size w wr)
      case atStart => exact ⟨0, _, rfl, rfl, by show _ ≤ _; omega, DBase.start p, R, hb2⟩
      case round =>
        clear R hb2 hns f0 e0
        obtain ⟨ps, dep0, rfl, hg, HPS, hB0, hD0, hbw0⟩ := hrel
        have HG := hide hg
        clear hg
        have hps : ps ≤ p.length := by have := unhide HPS; omega
        have HN0 := hide (SIn.begin hB0)
        clear hB0
        obtain ⟨N0, hN0⟩ : ∃ N0, N0 = neg dep0 := ⟨_, rfl⟩
        rw [← hN0] at HPS HN0
        have lps : (ps : Int) ≤ (p.length : Int) + 1 := by omega
        clear hN0
        go_wp2_with fail
        go_loopw [8, 9] (fun cv iv wr => ∃ (ch : Bool) (i : Nat) (dep : List Int), cv = .bool ch ∧ iv = .int .i64 (i : Int) ∧ i ≤ p.length ∧ SIn p dep N0 ch i ∧
            wr.ownsRow w.heap.size 3 1 (.slice (some ⟨w.heap.size, 0, none⟩) (p.length + 1) (p.length + 1)) (p.length + 1) (ints dep) ∧ Below w.heap.size w wr)
          (fun _ iv _ => p.length - (intOf iv).toNat)
        case atStart => exact ⟨false, 0, dep0, rfl, rfl, Nat.zero_le _, unhide HN0, hD0, hbw0⟩
        case round =>
          clear hD0 hbw0 HN0
          obtain ⟨ch, i, dep, rfl, rfl, hil, hS, hD, hbw⟩ := hrel
          by_cases hip : i < p.length
          · obtain ⟨x, hx⟩ : ∃ x, dep[i]? = some x := ⟨_, List.getElem?_eq_getElem (by rw [hS.base.len]; omega)⟩
            have cx := ownI_cell? hD hx
            have hszD : w.heap.size < wr.heap.size := (hD.lt _ rfl).2
            have l1 : (i : Int) < (p.length : Int) + 1 := by omega
            have l2 : (i : Int) < (p.length : Int) := by omega
            by_cases hx0 : x < 0
            · have HS := hide (hS.skip hx hx0)
              clear hS
              go_wp2
              go_roundw
              case rel => first | exact ⟨ch, i + 1, dep, rfl, by go_num, by omega, unhide HS, hD, hbw⟩ | ((repeat apply Exists.intro); exact ⟨⟨ch, i + 1, dep, rfl, by go_num, by omega, unhide HS, hD, hbw⟩, rfl⟩)
              case measure => simp [intOf]; omega
            have hx0' : 0 ≤ x := by omega
            have hx0b : decide (x < 0) = false := by simpa using hx0
            have hxn : x ≤ p.length := by have := hS.base.bound i x hx; omega
            obtain ⟨gp, rfl⟩ := own_some hp (by omega)
            obtain ⟨c0, c1⟩ := ownS_cell (own_below' hp hbw) i hip
            have hgl := ((own_below' hp hbw).lt gp rfl).2
            have hgl' : gp < wr.heap.size := hgl
            clear hgl hx0
            have HT := hide (fun l => hS.take hx hx0' l)
            have HW : Hid (succF p.length p[i] i x = none → ¬ WF p) := fun h => notWF_succ hS.base hx hx0' hip h
            clear hS hx
            obtain ⟨sq, hsq⟩ : ∃ sq, succF p.length p[i] i x = sq := ⟨_, rfl⟩
            have HSQ := hide hsq
            cases sq with
            | none =>
              have HNW := hide (unhide HW hsq)
              clear hsq HW HT
              generalize hop : p[i] = op at *
              obtain ⟨c, y⟩ := op
              simp only at c0 c1
              clear hop
              go_wp2
              go_region_held3 (fun w' => w'.cell? ⟨gp, i * 2, none⟩ = some (.int .i64 c) ∧ w'.cell? ⟨gp, i * 2 + 1, none⟩ = some (.int .i64 y) ∧ w'.cell? ⟨w.heap.size, i, none⟩ = some (.int .i64 x)) (first | (simp [go_sem, *]; done) | assumption)
                (first | (go_at_call 66; refine (succ_none c y x i p.length _ hx0' (by omega) (by omega) (by omega) (unhide HSQ)).mono ?_; rintro e w' ⟨rfl, hbel⟩; have hS3 := And.intro (keepc hbel c0 hgl') (And.intro (keepc hbel c1 hgl') (keepc hbel cx hszD))))
              go_wp2
              go_ret2
              exact .inr ⟨rfl, unhide HNW, hbw.drew.trans (hbel.mono hbw.size)⟩
            | some l =>
              clear HW hsq
              have hin := succF_in (unhide HSQ) hip
              have HIN := hide hin.2
              have hl2 := hin.1
              have HLS := HSQ
              clear hin
              have HSQ2 : Hid (∀ hi : i < p.length, succF p.length p[i] i x = some l) := fun _ => unhide HSQ
              obtain ⟨c, y, hcy, HSQ3⟩ : ∃ c y, Hid (p[i] = (c, y)) ∧ Hid (succF p.length (c, y) i x = some l) := ⟨p[i].1, p[i].2, rfl, unhide HSQ⟩
              rw [unhide hcy] at c0 c1
              simp only at c0 c1
              clear HSQ
              go_wp2
              go_region_held3 (fun w' => w'.cell? ⟨gp, i * 2, none⟩ = some (.int .i64 c) ∧ w'.cell? ⟨gp, i * 2 + 1, none⟩ = some (.int .i64 y) ∧ w'.cell? ⟨w.heap.size, i, none⟩ = some (.int .i64 x)) (first | (simp [go_sem, *]; done) | assumption)
                (first | (go_at_call 66; refine (succ_some c y x i p.length _ hx0' (by omega) (by omega) (by omega) l (unhide HSQ3)).mono ?_; rintro e w' ⟨ae, ce, rfl, hE, hbel⟩; have hS3 := And.intro (keepc hbel c0 hgl') (And.intro (keepc hbel c1 hgl') (keepc hbel cx hszD))))
              have hE' : w'.ownsRow wr.heap.size 115 2 (.slice ae l.length ce) l.length (cellsS (edges l)) := hE
              have hb2 : Below wr.heap.size wr w' := (Below.refl _ _).drew.trans hbel
              have hD2 := own_below' hD hb2
              have hbw2 : Below w.heap.size w w' := hbw.trans (hb2.mono hbw.size)
              clear hE hbel hb2 hD hbw hS3 c0 c1 cx hcy HSQ3
              generalize wr.heap.size = bx at *
              go_wp2_with fail
              go_loopw [8, 65] (fun cv kv wx => ∃ (ch : Bool) (k : Nat) (dep : List Int), cv = .bool ch ∧ kv = .int .i64 (k : Int) ∧ k ≤ l.length ∧ SMid p dep N0 ch i x l k ∧
                  wx.ownsRow w.heap.size 3 1 (.slice (some ⟨w.heap.size, 0, none⟩) (p.length + 1) (p.length + 1)) (p.length + 1) (ints dep) ∧ wx.ownsRow bx 115 2 (.slice ae l.length ce) l.length (cellsS (edges l)) ∧ Below w.heap.size w wx)
                (fun _ kv _ => l.length - (intOf kv).toNat)
              case atStart => exact ⟨ch, 0, dep, rfl, rfl, Nat.zero_le _, unhide HT l, hD2, hE', hbw2⟩
              case round =>
                clear hD2 hE' hbw2 HT
                obtain ⟨ch2, k, dep2, rfl, rfl, hkl, hM, hD3, hE3, hb3⟩ := hrel
                by_cases hk : k < l.length
                · obtain ⟨b1, b2, b3⟩ := unhide HIN (l[k]) (List.getElem_mem hk)
                  have hlt2 : (l[k]).1 < dep2.length := by rw [hM.sin.base.len]; omega
                  obtain ⟨y2, hy⟩ : ∃ y, dep2[(l[k]).1]? = some y := ⟨_, List.getElem?_eq_getElem hlt2⟩
                  clear hlt2
                  have hreal := hM.sin.base.real _ _ hy
                  have H1 := hide (fun h : y2 = (l[k]).2 => hM.next_keep hk (by rw [hy, h]))
                  have H2 := hide (fun h : y2 = -1 => hM.next_set hip (unhide HLS) hk (by rw [hy, h]))
                  have H3 := hide (fun h1 h2 => hM.fail hip (unhide HLS) hk hy h1 h2)
                  clear hM
                  obtain ⟨ge, rfl⟩ := own_some hE3 (by omega)
                  have hge : bx ≤ ge ∧ ge < wr.heap.size := hE3.lt ge rfl
                  obtain ⟨hge1, hge2⟩ := hge
                  obtain ⟨cE0, cE1⟩ := edge_cell hE3 k hk
                  have cY := ownI_cell? hD3 hy
                  have fY := hD3.frozenAt (l[k]).1
                  have hszD3 : w.heap.size < wr.heap.size := (hD3.lt _ rfl).2
                  clear hy
                  generalize hs : (l[k]).1 = sx at *
                  generalize hsd : (l[k]).2 = sdx at *
                  clear hs hsd
                  have sl : (sx : Int) < (p.length : Int) + 1 := by omega
                  have kl : (k : Int) < (l.length : Int) := by omega
                  by_cases hy0 : y2 < 0
                  · have hy1 : y2 = -1 := by rcases hreal with h | h <;> omega
                    subst hy1
                    have HN := hide (unhide H2 rfl)
                    have HDs := hide (ownI_store hD3 sx sdx)
                    clear hreal
                    have HEs : Hid ((wr.setCell ⟨w.heap.size, sx, none⟩ (.int .i64 sdx)).ownsRow bx 115 2 (.slice (some ⟨ge, 0, none⟩) l.length ce) l.length (cellsS (edges l))) := own_setCell hE3 _ _ _ (by simp [Value.ownBlock]; omega)
                    go_wp2
                    go_roundw
                    case rel => first | exact ⟨true, k + 1, dep2.set sx sdx, rfl, by go_num, by omega, unhide HN, (unhide HDs).alloc _, (unhide HEs).alloc _, (hb3.setCell (Nat.le_refl _) _).alloc (by simp; omega) _⟩ | ((repeat apply Exists.intro); exact ⟨⟨true, k + 1, dep2.set sx sdx, rfl, by go_num, by omega, unhide HN, (unhide HDs).alloc _, (unhide HEs).alloc _, (hb3.setCell (Nat.le_refl _) _).alloc (by simp; omega) _⟩, rfl⟩)
                    case measure => simp [intOf]; omega
                  · have hy0b : decide (y2 < 0) = false := by simpa using hy0
                    have hy0' : 0 ≤ y2 := by omega
                    by_cases hy2 : y2 = sdx
                    · subst hy2
                      have HN := hide (unhide H1 rfl)
                      clear hreal hy0
                      go_wp2
                      go_quiet (fail)
                      go_wp2
                      go_roundw
                      case rel => first | exact ⟨ch2, k + 1, dep2, rfl, by go_num, by omega, unhide HN, hD3.alloc _, hE3.alloc _, below_drewN (hb3.alloc (by omega) _) _⟩ | ((repeat apply Exists.intro); exact ⟨⟨ch2, k + 1, dep2, rfl, by go_num, by omega, unhide HN, hD3.alloc _, hE3.alloc _, below_drewN (hb3.alloc (by omega) _) _⟩, rfl⟩)
                      case measure => simp [intOf]; omega
                    · have hy2b : (y2 != sdx) = true := by rw [bne_iff_ne]; exact hy2
                      clear hreal hy0
                      go_wp2
                      go_quiet (fail)
                      go_wp2
                      go_ret2
                      exact .inr ⟨rfl, unhide H3 hy0' hy2, below_drewN (hb3.alloc (by omega) _) _⟩
                · have HF := hide (hM.fin (unhide HSQ2) (by omega))
                  clear hM
                  go_wp2
                  go_roundw
                  case rel => first | exact ⟨ch2, i + 1, dep2, rfl, by go_num, by omega, unhide HF, hD3, hb3⟩ | ((repeat apply Exists.intro); exact ⟨⟨ch2, i + 1, dep2, rfl, by go_num, by omega, unhide HF, hD3, hb3⟩, rfl⟩)
                  case measure => simp [intOf]; omega
          · obtain rfl : i = p.length := by omega
            cases ch
            · go_wp2
              go_ret2
              exact .inl ⟨_, _, dep, rfl, hS.good hn, hD, hbw⟩
            · go_wp2
              go_roundg (p.length + 1 - (ps + 1))
              case measure => have := unhide HG; omega
              case rel => exact ⟨ps + 1, dep, by go_num, rfl, by have := unhide HPS; have := hS.chg rfl; show _ ≤ _; omega, hS.base, hD, hbw⟩
end Go.Proofs.Yahabw
