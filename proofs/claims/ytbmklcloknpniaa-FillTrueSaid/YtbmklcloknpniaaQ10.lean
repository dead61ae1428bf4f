/- Texts of the claim, joined: StateF, StateH. -/
import Derived.IntWalk
import Derived.Deep.RegionHeld3
import Derived.Test.YtbmklcloknpniaaQ06
import Derived.Test.YtbmklcloknpniaaQ08
import Derived.Test.YtbmklcloknpniaaQ03
import Derived.Test.YtbmklcloknpniaaQ09
namespace Wh
open Go Go.RowKit Go.Shelf Go.Proofs
attribute [local go_sem] run_indexAt_letter

set_option maxHeartbeats 1000000 in
/-- summed's closure: a line that lacks some. -/
theorem sLacks (x : Line) (W : World) : Calls Try.prog 50 #[vLine x] W fun e W' => e = .returned (.bool (decide (x.got < x.want))) ∧ Below W.heap.size W W' := by
  have hb0 : Below W.heap.size W (W.alloc (.cells #[.int .i64 (x).good, .int .i64 (x).want, .int .i64 (x).got, .int .i64 (x).back] 70)) := (Below.refl _ _).alloc (Nat.le_refl _) _
  unfold vLine
  go_enter Try.func50, Try.ntmps50
  go_wp2_with fail
  go_ret
  exact ⟨rfl, hb0⟩
theorem entersLacks : Enters Try.prog 50 := enters_of Try.func50 (by kernel_rfl) rfl

theorem line_sums (s : State) (o k : Nat) :
    (((s.order o).kind == 0) = true ∧ ((s.order o).kind == 2) = false ∧ ((s.line o k).got + (s.line o k).back + kept s.holds o k != 0) = true ∧ lineSummed s o k = false) ∨
    (((s.order o).kind == 0) = true ∧ ((s.order o).kind == 2) = false ∧ ((s.line o k).got + (s.line o k).back + kept s.holds o k != 0) = false ∧ lineSummed s o k = true) ∨
    (((s.order o).kind == 0) = false ∧ ((s.line o k).got + (s.line o k).back + kept s.holds o k != (s.line o k).want) = true ∧ lineSummed s o k = false) ∨
    (((s.order o).kind == 0) = false ∧ ((s.line o k).got + (s.line o k).back + kept s.holds o k != (s.line o k).want) = false ∧ ((s.order o).kind == 2) = true ∧ decide (0 < kept s.holds o k) = true ∧ lineSummed s o k = false) ∨
    (((s.order o).kind == 0) = false ∧ ((s.line o k).got + (s.line o k).back + kept s.holds o k != (s.line o k).want) = false ∧ ((s.order o).kind == 2) = true ∧ decide (0 < kept s.holds o k) = false ∧ lineSummed s o k = true) ∨
    (((s.order o).kind == 0) = false ∧ ((s.line o k).got + (s.line o k).back + kept s.holds o k != (s.line o k).want) = false ∧ ((s.order o).kind == 2) = false ∧ lineSummed s o k = true) := by
  unfold lineSummed
  by_cases h0 : (s.order o).kind = 0
  · by_cases h1 : (s.line o k).got + (s.line o k).back + kept s.holds o k = 0 <;> simp [h0, h1]
  · by_cases h1 : (s.line o k).got + (s.line o k).back + kept s.holds o k = (s.line o k).want <;> by_cases h2 : (s.order o).kind = 2 <;> by_cases h3 : 0 < kept s.holds o k <;> simp [h0, h1, h2, h3]
theorem keptE_ok {l : List Hold} (h : holdsOk l = true) (o ln : Int) : keptE l o ln = (kept l o ln, 0) := by unfold keptE; rw [h]; rfl

set_option maxHeartbeats 8000000 in
set_option maxRecDepth 100000 in
theorem sSummed (w : World) (v vs : Value) (p : Plan) (s : State) (hp : PlanV w w.heap.size v p) (hv : StateV w w.heap.size vs s) (hs : Sane p s) :
    Calls Try.prog 22 #[v, vs] w fun e w' => e = .returned (.bool (summed p s)) ∧ Below w.heap.size w w' := by
  have hcnt := hs.counts
  have h4 := hs.orders4
  have h72 := ok_len72 hs.holds
  have hsH := Lib.hid hs
  clear hs
  obtain ⟨Ab, cb, As, cs, rfl, hP', hBn, hSz, hlb, hls⟩ := openPl hp
  obtain ⟨A0, c0, A1, c1, A2, c2, A3, c3, A4, c4, A5, c5, A6, c6, rfl, hV, hN, hO, hH, hM, hI, hU, hX, hl0, hl1, hl2, hl3, hl4, hl5, hl6⟩ := openOne hv
  go_enter Try.func22, Try.ntmps22
  go_wp2_with fail
  obtain ⟨W0, hW0, hb0, hsz0, hsz1, hsE, hK⟩ := boxesTwo w p s Ab cb As cs A0 c0 A1 c1 A2 c2 A3 c3 A4 c4 A5 c5 A6 c6
  rw [hW0]
  clear hW0
  obtain ⟨⟨y0, y1⟩, x0, x1, x2, x3, x4, x5, x6, hbz0, hbz1⟩ := hK.out W0 (Below.refl W0.heap.size W0)
  go_loopw [19, 5, 6, 7, 8] (fun i _ _ _ _ wr => ∃ k : Nat, k ≤ p.sizes.length ∧ i = .int .i64 k ∧ (∀ j, j < k → goodSummed p s j = true) ∧ Below W0.heap.size W0 wr) (fun i _ _ _ _ _ => p.sizes.length - (intOf i).toNat)
  case atStart => exact ⟨0, Nat.zero_le _, rfl, fun j hj => by omega, Below.refl _ _⟩
  case round =>
    clear y0 y1 x0 x1 x2 x3 x4 x5 x6 hbz0 hbz1
    obtain ⟨k, hk, rfl, hall, hbw⟩ := hrel
    have hall' := Lib.hid hall
    clear hall
    have hB := hb0.trans (hbw.mono hb0.size)
    obtain ⟨⟨y0, y1⟩, x0, x1, x2, x3, x4, x5, x6, hbz0, hbz1⟩ := hK.out wr (hbw)
    by_cases hlt : k < p.sizes.length
    · have hI4 : k < s.inn.length := by rw [hsH.out.inn.1]; exact hlt
      have hI5 : k < s.out.length := by rw [hsH.out.out.1]; exact hlt
      have hI6 : k < s.fixed.length := by rw [hsH.out.fixed.1]; exact hlt
      obtain ⟨i1, i2⟩ := hsH.out.inn.2 hlt
      obtain ⟨u1, u2⟩ := hsH.out.out.2 hlt
      obtain ⟨f1, f2⟩ := hsH.out.fixed.2 hlt
      have e0 : shelfError p s.on 0 k = 0 := shelfError_zero.2 ⟨hsH.out.shelf, isBin_iff.2 (by omega), isGood_iff.2 (by omega)⟩
      have hSE := Lib.hid (sumE_ok e0)
      clear e0
      go_wp2_with fail
      refine (shelfSum _ _ _ p s.on k (hP'.out wr hB) (hN.out wr hB)).mono ?_
      rintro e W1 ⟨rfl, hb1⟩
      rw [hSE.out]
      clear y0 y1 x0 x1 x2 x3 x4 x5 x6 hbz0 hbz1
      have hbw1 := hbw.trans (hb1.mono hbw.size)
      have hB1 := hb0.trans (hbw1.mono hb0.size)
      obtain ⟨⟨y0, y1⟩, x0, x1, x2, x3, x4, x5, x6, hbz0, hbz1⟩ := hK.out W1 (hbw1)
      obtain ⟨o4, l4, r4⟩ := (hI.out W1 hB1).at_.int hI4
      obtain ⟨o5, l5, r5⟩ := (hU.out W1 hB1).at_.int hI5
      obtain ⟨o6, l6, r6⟩ := (hX.out W1 hB1).at_.int hI6
      have q1 := fun o d os => cells_wld (w := W1) (b := w.heap.size + 1) hbz0 o d os
      have q4 := fun o d os => cells_wld (w := W1) (b := ablk A4) l4 o d os
      have q5 := fun o d os => cells_wld (w := W1) (b := ablk A5) l5 o d os
      have q6 := fun o d os => cells_wld (w := W1) (b := ablk A6) l6 o d os
      have hw1 : IntKind.i64.wrap (intAt s.inn k - intAt s.out k) = intAt s.inn k - intAt s.out k := IntWalk.i64_in _ (by omega)
      have hw2 : IntKind.i64.wrap (intAt s.inn k - intAt s.out k + intAt s.fixed k) = intAt s.inn k - intAt s.out k + intAt s.fixed k := IntWalk.i64_in _ (by omega)
      have hw1' := Lib.hid hw1
      have hw2' := Lib.hid hw2
      clear hw1 hw2
      by_cases hsum : sumOf s.on k = intAt s.inn k - intAt s.out k + intAt s.fixed k
      · have hne : (sumOf s.on k != intAt s.inn k - intAt s.out k + intAt s.fixed k) = false := by simpa using hsum
        have hsum' := Lib.hid hsum
        have hw1 := hw1'.out
        have hw2 := hw2'.out
        clear hsum
        go_wp2_with fail
        refine wp_region_wld (by kernel_rfl) (by kernel_rfl) ?_
        repeat (go_big_quiet_step (fail))
        refine wpQuiet_nil ?_
        intro W2 hw'
        have hb2 := below_of_cls hw'
        clear hw'
        clear q1 q4 q5 q6 hw1 hw2 hne
        clear y0 y1 x0 x1 x2 x3 x4 x5 x6 hbz0 hbz1
        have hbw2 := hbw1.trans (hb2.mono hbw1.size)
        have hB2 := hb0.trans (hbw2.mono hb0.size)
        obtain ⟨⟨y0, y1⟩, x0, x1, x2, x3, x4, x5, x6, hbz0, hbz1⟩ := hK.out W2 (hbw2)
        go_wp2_with fail
        go_loopw [52, 8] (fun i _ wr => ∃ m : Nat, m ≤ p.bins.length ∧ i = .int .i64 m ∧ (∀ j, j < m → bound s j k ≤ cell s.on j k) ∧ Below W0.heap.size W0 wr) (fun i _ _ => p.bins.length - (intOf i).toNat)
        case atStart => exact ⟨0, Nat.zero_le _, rfl, fun j hj => by omega, hbw2⟩
        case round =>
          clear y0 y1 x0 x1 x2 x3 x4 x5 x6 hbz0 hbz1
          clear r4 r5 r6 hbw hb1 hB hbw1 hB1 hb2 hbw2 hB2
          obtain ⟨m, hm, rfl, hallm, hbw⟩ := hrel
          have hallm' := Lib.hid hallm
          clear hallm
          have hB := hb0.trans (hbw.mono hb0.size)
          obtain ⟨⟨y0, y1⟩, x0, x1, x2, x3, x4, x5, x6, hbz0, hbz1⟩ := hK.out wr (hbw)
          by_cases hml : m < p.bins.length
          · have hml' : m < s.on.length := by rw [hsH.out.onLen]; exact hml
            have hkr : k < (rowAt s.on m).length := by rw [hsH.out.rowLen hml]; exact hlt
            obtain ⟨Ar, cr, or0, lr0, rr0, hrow⟩ := (hN.out wr hB).row hml'
            obtain ⟨or1, lr1, rr1⟩ := hrow.at_.int hkr
            have q1 := fun o d os => cells_wld (w := wr) (b := w.heap.size + 1) hbz0 o d os
            have q2 := fun o d os => cells_wld (w := wr) (b := ablk A0) lr0 o d os
            have q3 := fun o d os => cells_wld (w := wr) (b := ablk Ar) lr1 o d os
            have hV2 := Lib.hid (fun d os => hV.out _ (hB.trans ((below_wld wr d os).mono hB.size)))
            have hcl : intAt (rowAt s.on m) k = cell s.on m k := rfl
            have hcl' := Lib.hid hcl
            clear hcl
            by_cases hbd : bound s m k ≤ cell s.on m k
            · have hd : decide (intAt (rowAt s.on m) k < bound s m k) = false := by rw [hcl'.out]; simpa using hbd
              have hbd' := Lib.hid hbd
              clear hbd
              go_wp2_with fail
              refine wp_region_wld (by kernel_rfl) (by kernel_rfl) ?_
              repeat (go_big_quiet_step ((go_at_call 31; refine calls_wld (sBound _ _ p s _ _ (hV2.out _ _) hsH.out))))
              refine wpQuiet_nil ?_
              intro W2 hw'
              have hb2 := below_of_cls hw'
              clear hw'
              clear q1 q2 q3
              go_wp2_with fail
              go_roundw
              case rel =>
                refine ⟨m + 1, by omega, by go_num, fun j hj => ?_, hbw.trans (hb2.mono hbw.size)⟩
                rcases Nat.lt_succ_iff_lt_or_eq.1 hj with h | rfl
                · exact hallm'.out j h
                · exact hbd'.out
              case measure => simp [intOf]; omega
            · have hd : decide (intAt (rowAt s.on m) k < bound s m k) = true := by rw [hcl'.out]; simpa using hbd
              have hfin := Lib.hid (summed_good hlt (goodSummed_bin hml (show cell s.on m k < bound s m k by omega)))
              clear hbd
              go_wp2_with fail
              refine wp_region_wld (by kernel_rfl) (by kernel_rfl) ?_
              repeat (go_big_quiet_step ((go_at_call 31; refine calls_wld (sBound _ _ p s _ _ (hV2.out _ _) hsH.out))))
              refine wpQuiet_nil ?_
              intro W2 hw'
              have hb2 := below_of_cls hw'
              clear hw'
              clear q1 q2 q3
              go_wp2_with fail
              go_ret
              exact ⟨ret_bool (by rw [hfin.out]), hB.trans (hb2.mono hB.size)⟩
          · obtain rfl : m = p.bins.length := by omega
            go_wp2_with fail
            go_roundw
            case rel =>
              refine ⟨k + 1, by omega, by go_num, fun j hj => ?_, hbw⟩
              rcases Nat.lt_succ_iff_lt_or_eq.1 hj with h | rfl
              · exact hall'.out j h
              · exact goodSummed_iff.2 ⟨hsum'.out, hallm'.out⟩
            case measure => simp [intOf]; omega
      · have hne : (sumOf s.on k != intAt s.inn k - intAt s.out k + intAt s.fixed k) = true := by simpa using hsum
        have hfin := Lib.hid (summed_good hlt (goodSummed_sum hsum))
        have hw1 := hw1'.out
        have hw2 := hw2'.out
        clear hsum
        go_wp2_with fail
        refine wp_region_wld (by kernel_rfl) (by kernel_rfl) ?_
        repeat (go_big_quiet_step (fail))
        refine wpQuiet_nil ?_
        intro W2 hw'
        have hb2 := below_of_cls hw'
        clear hw'
        clear q1 q4 q5 q6 hw1 hw2 hne
        go_wp2_with fail
        go_ret
        exact ⟨ret_bool (by rw [hfin.out]), hB1.trans (hb2.mono hB1.size)⟩
    · obtain rfl : k = p.sizes.length := by omega
      go_wp2_with fail
      go_loopw [73, 9, 10, 11, 12, 13, 14, 15] (fun i _ _ _ _ _ _ _ wr => ∃ k : Nat, k ≤ s.orders.length ∧ i = .int .i64 k ∧ (∀ j, j < k → orderSummed s j = true) ∧ Below W0.heap.size W0 wr) (fun i _ _ _ _ _ _ _ _ => s.orders.length - (intOf i).toNat)
      case atStart => exact ⟨0, Nat.zero_le _, rfl, fun j hj => by omega, hbw⟩
      case round =>
        clear y0 y1 x0 x1 x2 x3 x4 x5 x6 hbz0 hbz1
        clear hbw hB
        obtain ⟨k, hk, rfl, hallo, hbw⟩ := hrel
        have hallo' := Lib.hid hallo
        clear hallo
        have hB := hb0.trans (hbw.mono hb0.size)
        obtain ⟨⟨y0, y1⟩, x0, x1, x2, x3, x4, x5, x6, hbz0, hbz1⟩ := hK.out wr (hbw)
        by_cases hlt : k < s.orders.length
        · obtain ⟨A', c', hok1, hAb1, d0, d1, hsl⟩ := (hO.out wr hB).order hlt
          obtain ⟨l1, l3⟩ := hsH.out.lines3 hlt
          change 1 ≤ (orderAt s.orders k).lines.length at l1
          change (orderAt s.orders k).lines.length ≤ 3 at l3
          have hba : Below W0.heap.size W0 (wr.alloc (.cells #[.int .i64 (orderAt s.orders k).kind, .slice A' (orderAt s.orders k).lines.length c'] 58)) := hbw.alloc hbw.size _
          have hwa : Below wr.heap.size wr (wr.alloc (.cells #[.int .i64 (orderAt s.orders k).kind, .slice A' (orderAt s.orders k).lines.length c'] 58)) := (Below.refl _ _).alloc (Nat.le_refl _) _
          have hla : wr.heap.size < (wr.alloc (.cells #[.int .i64 (orderAt s.orders k).kind, .slice A' (orderAt s.orders k).lines.length c'] 58)).heap.size := by simp
          have hzo : (wr.alloc (.cells #[.int .i64 (orderAt s.orders k).kind, .slice A' (orderAt s.orders k).lines.length c'] 58)).cell? ⟨wr.heap.size, 0, none⟩ = some (.int .i64 (orderAt s.orders k).kind) ∧
              (wr.alloc (.cells #[.int .i64 (orderAt s.orders k).kind, .slice A' (orderAt s.orders k).lines.length c'] 58)).cell? ⟨wr.heap.size, 1, none⟩ = some (.slice A' (orderAt s.orders k).lines.length c') := by simp
          have hzo' := Lib.hid hzo
          clear hzo
          by_cases hk1 : (orderAt s.orders k).kind = 1
          · have hq : ((orderAt s.orders k).kind == 1) = true := by simpa using hk1
            have hk1' := Lib.hid hk1
            clear hk1
            go_wp2_with fail
            refine (containsFuncLine _ _ (orderAt s.orders k).lines 50 #[] (fun x => decide (x.got < x.want)) entersLacks (hsl.grow hwa) (fun j _ W hW => sLacks _ W)).mono ?_
            rintro e W2 ⟨rfl, hb2⟩
            have hag := allGot_any hsH.out hlt
            change ((orderAt s.orders k).lines.any fun x => decide (x.got < x.want)) = _ at hag
            rw [hag]
            clear hag
            cases hgot : allGot (s.order k)
            · have hng := Lib.hid (show ¬ ((s.order k).kind = 1 ∧ allGot (s.order k) = true) by rw [hgot]; simp)
              have hbk := hba.trans (hb2.mono hba.size)
              have hlk : wr.heap.size < W2.heap.size := Nat.lt_of_lt_of_le hla hb2.size
              have zo0 := (hb2.cell (p := ⟨wr.heap.size, 0, none⟩) hla).trans hzo'.out.1
              have zo1 := (hb2.cell (p := ⟨wr.heap.size, 1, none⟩) hla).trans hzo'.out.2
              have hLs := Lib.hid (hsl.grow (hwa.trans (hb2.mono hwa.size)))
              clear hgot hba hwa hla hzo' hsl d0 d1
              go_wp2_with fail
              clear hq hb2
              clear y0 y1 x0 x1 x2 x3 x4 x5 x6 hbz0 hbz1
              obtain ⟨wo, hwo⟩ : ∃ n : Nat, n = wr.heap.size := ⟨_, rfl⟩
              rw [← hwo] at hlk zo0 zo1
              rw [← hwo]
              clear hwo
              clear hbw hB
              go_loopw [90, 11, 12, 13, 14, 15] (fun i _ _ _ _ _ wr => ∃ m : Nat, m ≤ (orderAt s.orders k).lines.length ∧ i = .int .i64 m ∧ (∀ j, j < m → lineSummed s k j = true) ∧ Below W2.heap.size W2 wr) (fun i _ _ _ _ _ _ => (orderAt s.orders k).lines.length - (intOf i).toNat)
              case atStart => exact ⟨0, Nat.zero_le _, rfl, fun j hj => by omega, Below.refl _ _⟩
              case round =>
                obtain ⟨m, hm, rfl, hallm, hbl⟩ := hrel
                have hallm' := Lib.hid hallm
                clear hallm
                have hbw := hbk.trans (hbl.mono hbk.size)
                have hB := hb0.trans (hbw.mono hb0.size)
                obtain ⟨⟨y0, y1⟩, x0, x1, x2, x3, x4, x5, x6, hbz0, hbz1⟩ := hK.out wr (hbw)
                have w0 := (hbl.cell (p := ⟨wo, 0, none⟩) hlk).trans zo0
                have w1 := (hbl.cell (p := ⟨wo, 1, none⟩) hlk).trans zo1
                have hlw := Nat.lt_of_lt_of_le hlk hbl.size
                by_cases hml : m < (orderAt s.orders k).lines.length
                · obtain ⟨hok2, hAb2, e0, e1, e2, e3⟩ := (hLs.out.grow hbl).at_.line hml
                  have hl : lineAt (orderAt s.orders k).lines m = s.line k m := rfl
                  rw [hl] at e0 e1 e2 e3
                  clear hl
                  obtain ⟨_, ⟨b1, b2⟩, ⟨b3, b4⟩, b5, b6⟩ := hsH.out.line hlt hml
                  obtain ⟨b7, b8⟩ := kept_range hsH.out.holds k m
                  have hke1 := Lib.hid (show (keptE s.holds k m).1 = kept s.holds k m by rw [keptE_ok hsH.out.holds])
                  have hke2 := Lib.hid (show (keptE s.holds k m).2 = 0 by rw [keptE_ok hsH.out.holds])
                  have hbl1 : Below W2.heap.size W2 (wr.alloc (.cells #[.int .i64 (s.line k m).good, .int .i64 (s.line k m).want, .int .i64 (s.line k m).got, .int .i64 (s.line k m).back] 70)) := hbl.alloc hbl.size _
                  have hlw1 : wr.heap.size < (wr.alloc (.cells #[.int .i64 (s.line k m).good, .int .i64 (s.line k m).want, .int .i64 (s.line k m).got, .int .i64 (s.line k m).back] 70)).heap.size := by simp
                  have hzl : (wr.alloc (.cells #[.int .i64 (s.line k m).good, .int .i64 (s.line k m).want, .int .i64 (s.line k m).got, .int .i64 (s.line k m).back] 70)).cell? ⟨wr.heap.size, 1, none⟩ = some (.int .i64 (s.line k m).want) ∧ (wr.alloc (.cells #[.int .i64 (s.line k m).good, .int .i64 (s.line k m).want, .int .i64 (s.line k m).got, .int .i64 (s.line k m).back] 70)).cell? ⟨wr.heap.size, 2, none⟩ = some (.int .i64 (s.line k m).got) ∧ (wr.alloc (.cells #[.int .i64 (s.line k m).good, .int .i64 (s.line k m).want, .int .i64 (s.line k m).got, .int .i64 (s.line k m).back] 70)).cell? ⟨wr.heap.size, 3, none⟩ = some (.int .i64 (s.line k m).back) := by simp
                  have hzl' := Lib.hid hzl
                  have hbw1 := hbk.trans (hbl1.mono hbk.size)
                  have hB1 := hb0.trans (hbw1.mono hb0.size)
                  clear hzl
                  go_wp2_with fail
                  refine (hdKept _ _ s.holds k m (hH.out _ hB1)).mono ?_
                  rintro e W3 ⟨rfl, hb3⟩
                  rw [hke1.out, hke2.out]
                  have hbl3 := hbl1.trans (hb3.mono hbl1.size)
                  have hbw3 := hbk.trans (hbl3.mono hbk.size)
                  have z0 := (hbl3.cell (p := ⟨wo, 0, none⟩) hlk).trans zo0
                  have z1 := (hb3.cell (p := ⟨wr.heap.size, 1, none⟩) hlw1).trans hzl'.out.1
                  have z2 := (hb3.cell (p := ⟨wr.heap.size, 2, none⟩) hlw1).trans hzl'.out.2.1
                  have z3 := (hb3.cell (p := ⟨wr.heap.size, 3, none⟩) hlw1).trans hzl'.out.2.2
                  clear e0 e1 e2 e3 w0 w1
                  clear y0 y1 x0 x1 x2 x3 x4 x5 x6 hbz0 hbz1
                  have hparts := line_sums s k m
                  unfold State.order at hparts
                  rcases hparts with ⟨g1, g2, g3, hf⟩ | ⟨g1, g2, g3, hf⟩ | ⟨g1, g2, hf⟩ | ⟨g1, g2, g3, g4, hf⟩ | ⟨g1, g2, g3, g4, hf⟩ | ⟨g1, g2, g3, hf⟩
                  · have hfin := Lib.hid (summed_order (p := p) hlt (orderSummed_line hml hf))
                    clear hf
                    go_wp2_with fail
                    go_ret
                    exact ⟨ret_bool (by rw [hfin.out]), hb0.trans (hbw3.mono hb0.size)⟩
                  · have hf' := Lib.hid hf
                    clear hf
                    go_wp2_with fail
                    go_roundw
                    case rel =>
                      refine ⟨m + 1, by omega, by go_num, fun j hj => ?_, hbl3⟩
                      rcases Nat.lt_succ_iff_lt_or_eq.1 hj with h | rfl
                      · exact hallm'.out j h
                      · exact hf'.out
                    case measure => simp [intOf]; omega
                  · have hfin := Lib.hid (summed_order (p := p) hlt (orderSummed_line hml hf))
                    clear hf
                    go_wp2_with fail
                    go_ret
                    exact ⟨ret_bool (by rw [hfin.out]), hb0.trans (hbw3.mono hb0.size)⟩
                  · have hfin := Lib.hid (summed_order (p := p) hlt (orderSummed_line hml hf))
                    clear hf
                    go_wp2_with fail
                    go_ret
                    exact ⟨ret_bool (by rw [hfin.out]), hb0.trans (hbw3.mono hb0.size)⟩
                  · have hf' := Lib.hid hf
                    clear hf
                    go_wp2_with fail
                    go_roundw
                    case rel =>
                      refine ⟨m + 1, by omega, by go_num, fun j hj => ?_, hbl3⟩
                      rcases Nat.lt_succ_iff_lt_or_eq.1 hj with h | rfl
                      · exact hallm'.out j h
                      · exact hf'.out
                    case measure => simp [intOf]; omega
                  · have hf' := Lib.hid hf
                    clear hf
                    go_wp2_with fail
                    go_roundw
                    case rel =>
                      refine ⟨m + 1, by omega, by go_num, fun j hj => ?_, hbl3⟩
                      rcases Nat.lt_succ_iff_lt_or_eq.1 hj with h | rfl
                      · exact hallm'.out j h
                      · exact hf'.out
                    case measure => simp [intOf]; omega
                · obtain rfl : m = (orderAt s.orders k).lines.length := by omega
                  go_wp2_with fail
                  go_roundw
                  case rel =>
                    refine ⟨k + 1, by omega, by go_num, fun j hj => ?_, hbw⟩
                    rcases Nat.lt_succ_iff_lt_or_eq.1 hj with h | rfl
                    · exact hallo'.out j h
                    · exact orderSummed_iff.2 ⟨hng.out, hallm'.out⟩
                  case measure => simp [intOf]; omega
            · have hfin := Lib.hid (summed_order (p := p) hlt (orderSummed_got hk1'.out hgot))
              clear hgot
              go_wp2_with fail
              go_ret
              exact ⟨ret_bool (by rw [hfin.out]), hb0.trans ((hba.trans (hb2.mono hba.size)).mono hb0.size)⟩
          · have hq : ((orderAt s.orders k).kind == 1) = false := by simpa using hk1
            have hng := Lib.hid (show ¬ ((s.order k).kind = 1 ∧ allGot (s.order k) = true) from fun h => hk1 h.1)
            clear hk1
            go_wp2_with fail
            clear hq
            generalize hW2 : wr.alloc (.cells #[.int .i64 (orderAt s.orders k).kind, .slice A' (orderAt s.orders k).lines.length c'] 58) = W2 at hba hwa hla hzo' ⊢
            have hbk := hba
            have hlk := hla
            have zo0 := hzo'.out.1
            have zo1 := hzo'.out.2
            have hLs := Lib.hid (hsl.grow hwa)
            clear hba hwa hla hzo' hsl d0 d1 hW2
            clear y0 y1 x0 x1 x2 x3 x4 x5 x6 hbz0 hbz1
            obtain ⟨wo, hwo⟩ : ∃ n : Nat, n = wr.heap.size := ⟨_, rfl⟩
            rw [← hwo] at hlk zo0 zo1
            rw [← hwo]
            clear hwo
            clear hbw hB
            go_loopw [90, 11, 12, 13, 14, 15] (fun i _ _ _ _ _ wr => ∃ m : Nat, m ≤ (orderAt s.orders k).lines.length ∧ i = .int .i64 m ∧ (∀ j, j < m → lineSummed s k j = true) ∧ Below W2.heap.size W2 wr) (fun i _ _ _ _ _ _ => (orderAt s.orders k).lines.length - (intOf i).toNat)
            case atStart => exact ⟨0, Nat.zero_le _, rfl, fun j hj => by omega, Below.refl _ _⟩
            case round =>
              obtain ⟨m, hm, rfl, hallm, hbl⟩ := hrel
              have hallm' := Lib.hid hallm
              clear hallm
              have hbw := hbk.trans (hbl.mono hbk.size)
              have hB := hb0.trans (hbw.mono hb0.size)
              obtain ⟨⟨y0, y1⟩, x0, x1, x2, x3, x4, x5, x6, hbz0, hbz1⟩ := hK.out wr (hbw)
              have w0 := (hbl.cell (p := ⟨wo, 0, none⟩) hlk).trans zo0
              have w1 := (hbl.cell (p := ⟨wo, 1, none⟩) hlk).trans zo1
              have hlw := Nat.lt_of_lt_of_le hlk hbl.size
              by_cases hml : m < (orderAt s.orders k).lines.length
              · obtain ⟨hok2, hAb2, e0, e1, e2, e3⟩ := (hLs.out.grow hbl).at_.line hml
                have hl : lineAt (orderAt s.orders k).lines m = s.line k m := rfl
                rw [hl] at e0 e1 e2 e3
                clear hl
                obtain ⟨_, ⟨b1, b2⟩, ⟨b3, b4⟩, b5, b6⟩ := hsH.out.line hlt hml
                obtain ⟨b7, b8⟩ := kept_range hsH.out.holds k m
                have hke1 := Lib.hid (show (keptE s.holds k m).1 = kept s.holds k m by rw [keptE_ok hsH.out.holds])
                have hke2 := Lib.hid (show (keptE s.holds k m).2 = 0 by rw [keptE_ok hsH.out.holds])
                have hbl1 : Below W2.heap.size W2 (wr.alloc (.cells #[.int .i64 (s.line k m).good, .int .i64 (s.line k m).want, .int .i64 (s.line k m).got, .int .i64 (s.line k m).back] 70)) := hbl.alloc hbl.size _
                have hlw1 : wr.heap.size < (wr.alloc (.cells #[.int .i64 (s.line k m).good, .int .i64 (s.line k m).want, .int .i64 (s.line k m).got, .int .i64 (s.line k m).back] 70)).heap.size := by simp
                have hzl : (wr.alloc (.cells #[.int .i64 (s.line k m).good, .int .i64 (s.line k m).want, .int .i64 (s.line k m).got, .int .i64 (s.line k m).back] 70)).cell? ⟨wr.heap.size, 1, none⟩ = some (.int .i64 (s.line k m).want) ∧ (wr.alloc (.cells #[.int .i64 (s.line k m).good, .int .i64 (s.line k m).want, .int .i64 (s.line k m).got, .int .i64 (s.line k m).back] 70)).cell? ⟨wr.heap.size, 2, none⟩ = some (.int .i64 (s.line k m).got) ∧ (wr.alloc (.cells #[.int .i64 (s.line k m).good, .int .i64 (s.line k m).want, .int .i64 (s.line k m).got, .int .i64 (s.line k m).back] 70)).cell? ⟨wr.heap.size, 3, none⟩ = some (.int .i64 (s.line k m).back) := by simp
                have hzl' := Lib.hid hzl
                have hbw1 := hbk.trans (hbl1.mono hbk.size)
                have hB1 := hb0.trans (hbw1.mono hb0.size)
                clear hzl
                go_wp2_with fail
                refine (hdKept _ _ s.holds k m (hH.out _ hB1)).mono ?_
                rintro e W3 ⟨rfl, hb3⟩
                rw [hke1.out, hke2.out]
                have hbl3 := hbl1.trans (hb3.mono hbl1.size)
                have hbw3 := hbk.trans (hbl3.mono hbk.size)
                have z0 := (hbl3.cell (p := ⟨wo, 0, none⟩) hlk).trans zo0
                have z1 := (hb3.cell (p := ⟨wr.heap.size, 1, none⟩) hlw1).trans hzl'.out.1
                have z2 := (hb3.cell (p := ⟨wr.heap.size, 2, none⟩) hlw1).trans hzl'.out.2.1
                have z3 := (hb3.cell (p := ⟨wr.heap.size, 3, none⟩) hlw1).trans hzl'.out.2.2
                clear e0 e1 e2 e3 w0 w1
                clear y0 y1 x0 x1 x2 x3 x4 x5 x6 hbz0 hbz1
                have hparts := line_sums s k m
                unfold State.order at hparts
                rcases hparts with ⟨g1, g2, g3, hf⟩ | ⟨g1, g2, g3, hf⟩ | ⟨g1, g2, hf⟩ | ⟨g1, g2, g3, g4, hf⟩ | ⟨g1, g2, g3, g4, hf⟩ | ⟨g1, g2, g3, hf⟩
                · have hfin := Lib.hid (summed_order (p := p) hlt (orderSummed_line hml hf))
                  clear hf
                  go_wp2_with fail
                  go_ret
                  exact ⟨ret_bool (by rw [hfin.out]), hb0.trans (hbw3.mono hb0.size)⟩
                · have hf' := Lib.hid hf
                  clear hf
                  go_wp2_with fail
                  go_roundw
                  case rel =>
                    refine ⟨m + 1, by omega, by go_num, fun j hj => ?_, hbl3⟩
                    rcases Nat.lt_succ_iff_lt_or_eq.1 hj with h | rfl
                    · exact hallm'.out j h
                    · exact hf'.out
                  case measure => simp [intOf]; omega
                · have hfin := Lib.hid (summed_order (p := p) hlt (orderSummed_line hml hf))
                  clear hf
                  go_wp2_with fail
                  go_ret
                  exact ⟨ret_bool (by rw [hfin.out]), hb0.trans (hbw3.mono hb0.size)⟩
                · have hfin := Lib.hid (summed_order (p := p) hlt (orderSummed_line hml hf))
                  clear hf
                  go_wp2_with fail
                  go_ret
                  exact ⟨ret_bool (by rw [hfin.out]), hb0.trans (hbw3.mono hb0.size)⟩
                · have hf' := Lib.hid hf
                  clear hf
                  go_wp2_with fail
                  go_roundw
                  case rel =>
                    refine ⟨m + 1, by omega, by go_num, fun j hj => ?_, hbl3⟩
                    rcases Nat.lt_succ_iff_lt_or_eq.1 hj with h | rfl
                    · exact hallm'.out j h
                    · exact hf'.out
                  case measure => simp [intOf]; omega
                · have hf' := Lib.hid hf
                  clear hf
                  go_wp2_with fail
                  go_roundw
                  case rel =>
                    refine ⟨m + 1, by omega, by go_num, fun j hj => ?_, hbl3⟩
                    rcases Nat.lt_succ_iff_lt_or_eq.1 hj with h | rfl
                    · exact hallm'.out j h
                    · exact hf'.out
                  case measure => simp [intOf]; omega
              · obtain rfl : m = (orderAt s.orders k).lines.length := by omega
                go_wp2_with fail
                go_roundw
                case rel =>
                  refine ⟨k + 1, by omega, by go_num, fun j hj => ?_, hbw⟩
                  rcases Nat.lt_succ_iff_lt_or_eq.1 hj with h | rfl
                  · exact hallo'.out j h
                  · exact orderSummed_iff.2 ⟨hng.out, hallm'.out⟩
                case measure => simp [intOf]; omega
        · obtain rfl : k = s.orders.length := by omega
          have hfin := Lib.hid (summed_iff.2 ⟨hall'.out, hallo'.out⟩)
          go_wp2_with fail
          go_ret
          exact ⟨ret_bool (by rw [hfin.out]), hB⟩
end Wh
namespace Wh
open Go Go.RowKit Go.Shelf Go.Proofs
attribute [local go_sem] run_indexAt_letter

theorem many_no {s : State} (h : 4 < s.orders.length ∨ 8 < s.moves.length ∨ (s.orders.any fun o => !within o.lines.length 1 3) = true) : manyOk s = false := by
  cases hm : manyOk s
  · rfl
  · obtain ⟨h1, h2, h3⟩ := manyOk_iff.1 hm
    rcases h with h | h | h
    · omega
    · omega
    · rw [any_not, h3] at h
      cases h
theorem many_yes {s : State} (h1 : s.orders.length ≤ 4) (h2 : s.moves.length ≤ 8) (h3 : (s.orders.any fun o => !within o.lines.length 1 3) = false) : manyOk s = true := by
  refine manyOk_iff.2 ⟨h1, h2, ?_⟩
  rw [any_not] at h3
  simpa using h3
theorem many_lines {s : State} (h : manyOk s = true) : ∀ o, o < s.orders.length → (orderAt s.orders o).lines.length ≤ 1000 := fun o ho => by
  have := within_iff.1 (all_at dOrder (manyOk_iff.1 h).2.2 ho)
  unfold orderAt
  omega

set_option maxHeartbeats 4000000 in
theorem sCheck (w : World) (v vs : Value) (p : Plan) (s : State) (hp : PlanV w w.heap.size v p) (hv : StateV w w.heap.size vs s) :
    Calls Try.prog 8 #[v, vs] w fun e w' => e = .returned (.int .i64 (checkState p s)) ∧ Below w.heap.size w w' := by
  obtain ⟨Ab, cb, As, cs, rfl, hP', hBn, hSz, hlb, hls⟩ := openPl hp
  obtain ⟨A0, c0, A1, c1, A2, c2, A3, c3, A4, c4, A5, c5, A6, c6, rfl, hV, hN, hO, hH, hM, hI, hU, hX, hl0, hl1, hl2, hl3, hl4, hl5, hl6⟩ := openOne hv
  go_enter Try.func8, Try.ntmps8
  go_wp2_with fail
  obtain ⟨W0, hW0, hb0, hsz0, hsz1, hsE, hK⟩ := boxesTwo w p s Ab cb As cs A0 c0 A1 c1 A2 c2 A3 c3 A4 c4 A5 c5 A6 c6
  rw [hW0]
  clear hW0
  obtain ⟨⟨y0, y1⟩, x0, x1, x2, x3, x4, x5, x6, hbz0, hbz1⟩ := hK.out W0 (Below.refl W0.heap.size W0)
  go_wp2_with fail
  clear y0 y1 x0 x1 x2 x3 x4 x5 x6 hbz0 hbz1
  refine (shelfCheck _ _ _ p s.on (hP'.out _ hb0) (hN.out _ hb0)).mono ?_
  rintro e W1 ⟨rfl, hb1⟩
  have hB1 := hb0.trans (hb1.mono hb0.size)
  obtain ⟨⟨y0, y1⟩, x0, x1, x2, x3, x4, x5, x6, hbz0, hbz1⟩ := hK.out W1 (hb1)
  by_cases hsh : checkShelf p s.on = 0
  · have hsh' := Lib.hid hsh
    rw [hsh]
    clear hsh
    by_cases h4 : s.orders.length ≤ 4
    · by_cases h8 : s.moves.length ≤ 8
      · go_wp2_with fail
        clear y0 y1 x0 x1 x2 x3 x4 x5 x6 hbz0 hbz1
        refine (containsFuncOrder _ _ s.orders 20 #[] (fun o => !within o.lines.length 1 3) entersBadOrder (hO.out W1 hB1) (fun j _ W hW u hu => sBadOrder _ u W hu)).mono ?_
        rintro e W2 ⟨rfl, hb2⟩
        have hb12 := hb1.trans (hb2.mono hb1.size)
        have hB2 := hb0.trans (hb12.mono hb0.size)
        obtain ⟨⟨y0, y1⟩, x0, x1, x2, x3, x4, x5, x6, hbz0, hbz1⟩ := hK.out W2 (hb12)
        cases hany : (s.orders.any fun o => !within o.lines.length 1 3)
        · have hmy := Lib.hid (many_yes h4 h8 hany)
          clear hany
          go_wp2_with fail
          clear y0 y1 x0 x1 x2 x3 x4 x5 x6 hbz0 hbz1
          refine (sFormed _ _ _ p s (hP'.out W2 hB2) (hV.out W2 hB2) (checkShelf_zero.1 hsh'.out).1 h4 (many_lines hmy.out)).mono ?_
          rintro e W3 ⟨rfl, hb3⟩
          have hb13 := hb12.trans (hb3.mono hb12.size)
          have hB3 := hb0.trans (hb13.mono hb0.size)
          obtain ⟨⟨y0, y1⟩, x0, x1, x2, x3, x4, x5, x6, hbz0, hbz1⟩ := hK.out W3 (hb13)
          cases hf : formed p s
          · have hfin := Lib.hid (checkState_form hsh'.out hmy.out hf)
            clear hf
            go_wp2_with fail
            go_ret
            exact ⟨ret_int (by rw [hfin.out]), hB3⟩
          · have hsn := Lib.hid (Sane.mk hsh'.out hmy.out hf)
            clear hf
            go_wp2_with fail
            clear y0 y1 x0 x1 x2 x3 x4 x5 x6 hbz0 hbz1
            refine (sSummed _ _ _ p s (hP'.out W3 hB3) (hV.out W3 hB3) hsn.out).mono ?_
            rintro e W4 ⟨rfl, hb4⟩
            have hB4 := hB3.trans (hb4.mono hB3.size)
            cases hq : summed p s
            · have hfin := Lib.hid (checkState_sum hsn.out hq)
              clear hq
              go_wp2_with fail
              go_ret
              exact ⟨ret_int (by rw [hfin.out]), hB4⟩
            · have hfin := Lib.hid (checkState_ok hsn.out hq)
              clear hq
              go_wp2_with fail
              go_ret
              exact ⟨ret_int (by rw [hfin.out]), hB4⟩
        · have hfin := Lib.hid (checkState_many hsh'.out (many_no (.inr (.inr hany))))
          clear hany
          go_wp2_with fail
          go_ret
          exact ⟨ret_int (by rw [hfin.out]), hB2⟩
      · have hfin := Lib.hid (checkState_many hsh'.out (many_no (.inr (.inl (by omega)))))
        go_wp2_with fail
        go_ret
        exact ⟨ret_int (by rw [hfin.out]), hB1⟩
    · have hfin := Lib.hid (checkState_many hsh'.out (many_no (.inl (by omega))))
      go_wp2_with fail
      go_ret
      exact ⟨ret_int (by rw [hfin.out]), hB1⟩
  · have hne : (checkShelf p s.on != 0) = true := by simpa using hsh
    have hfin := Lib.hid (checkState_shelf hsh)
    clear hsh
    go_wp2_with fail
    go_ret
    exact ⟨ret_int (by rw [hfin.out]), hB1⟩

end Wh
