/- Texts of the claim, joined: StateG, StateH. -/
import Derived.Deep.RegionHeld3
import Derived.Test.YtfhfkijmebhgmaaGreatQ17
import Derived.Test.YtfhfkijmebhgmaaGreatQ15
import Derived.Test.YtfhfkijmebhgmaaGreatQ16
namespace Wh
open Go Go.RowKit Go.Shelf Go.Proofs
attribute [local go_sem] run_indexAt_letter

theorem line_sumsR (s : State) (o k : Nat) (h : 0 ≤ kept s.holds o k) :
    (((s.order o).kind == 0) = true ∧ ((s.order o).kind != 0) = false ∧ ((s.order o).kind == 2) = false ∧ ((s.line o k).got + (s.line o k).back + kept s.holds o k != 0) = true ∧ lineSummed s o k = false) ∨
    (((s.order o).kind == 0) = true ∧ ((s.order o).kind != 0) = false ∧ ((s.order o).kind == 2) = false ∧ ((s.line o k).got + (s.line o k).back + kept s.holds o k != 0) = false ∧ lineSummed s o k = true) ∨
    (((s.order o).kind == 0) = false ∧ ((s.order o).kind != 0) = true ∧ ((s.line o k).got + (s.line o k).back + kept s.holds o k != (s.line o k).want) = true ∧ lineSummed s o k = false) ∨
    (((s.order o).kind == 0) = false ∧ ((s.order o).kind != 0) = true ∧ ((s.line o k).got + (s.line o k).back + kept s.holds o k != (s.line o k).want) = false ∧ ((s.order o).kind == 2) = true ∧ (kept s.holds o k != 0) = true ∧ lineSummed s o k = false) ∨
    (((s.order o).kind == 0) = false ∧ ((s.order o).kind != 0) = true ∧ ((s.line o k).got + (s.line o k).back + kept s.holds o k != (s.line o k).want) = false ∧ ((s.order o).kind == 2) = true ∧ (kept s.holds o k != 0) = false ∧ lineSummed s o k = true) ∨
    (((s.order o).kind == 0) = false ∧ ((s.order o).kind != 0) = true ∧ ((s.line o k).got + (s.line o k).back + kept s.holds o k != (s.line o k).want) = false ∧ ((s.order o).kind == 2) = false ∧ lineSummed s o k = true) := by
  unfold lineSummed
  have h3 : 0 < kept s.holds o k ↔ ¬ kept s.holds o k = 0 := by omega
  by_cases h0 : (s.order o).kind = 0
  · by_cases h1 : (s.line o k).got + (s.line o k).back + kept s.holds o k = 0 <;> simp [h0, h1]
  · by_cases h1 : (s.line o k).got + (s.line o k).back + kept s.holds o k = (s.line o k).want <;> by_cases h2 : (s.order o).kind = 2 <;> by_cases h3' : kept s.holds o k = 0 <;> simp [h0, h1, h2, h3, h3'] <;> omega
def gotTo (o : Order) (k : Nat) : Bool := (o.lines.take k).all fun x => decide (x.got = x.want)
theorem gotTo_succ {o : Order} {k : Nat} (h : k < o.lines.length) : gotTo o (k + 1) = (gotTo o k && decide ((lineAt o.lines k).got = (lineAt o.lines k).want)) := by
  unfold gotTo
  rw [List.take_succ_eq_append_getElem h, List.all_append, lineAt_eq h]
  simp
theorem gotTo_all (o : Order) : gotTo o o.lines.length = allGot o := by unfold gotTo allGot; rw [List.take_length]

set_option maxHeartbeats 8000000 in
set_option maxRecDepth 100000 in
theorem rSummed (w : World) (v vs : Value) (p : Plan) (s : State) (hp : PlanV w w.heap.size v p) (hv : StateV w w.heap.size vs s) (hs : Sane p s) :
    Calls Tryz.prog 40 #[v, vs] w fun e w' => e = .returned (.bool (summed p s)) ∧ Below w.heap.size w w' := by
  have hcnt := hs.counts
  have h4 := hs.orders4
  have h72 := ok_len72 hs.holds
  have hsH := Lib.hid hs
  clear hs
  obtain ⟨Ab, cb, As, cs, rfl, hP', hBn, hSz, hlb, hls⟩ := openPl hp
  obtain ⟨A0, c0, A1, c1, A2, c2, A3, c3, A4, c4, A5, c5, A6, c6, rfl, hV, hN, hO, hH, hM, hI, hU, hX, hl0, hl1, hl2, hl3, hl4, hl5, hl6⟩ := openOne hv
  go_enter Tryz.func40, Tryz.ntmps40
  go_wp2_with fail
  obtain ⟨W0, hW0, hb0, hsz0, hsz1, hsE, hK⟩ := boxesTwo w p s Ab cb As cs A0 c0 A1 c1 A2 c2 A3 c3 A4 c4 A5 c5 A6 c6
  rw [hW0]
  clear hW0
  obtain ⟨⟨y0, y1⟩, x0, x1, x2, x3, x4, x5, x6, hbz0, hbz1⟩ := hK.out W0 (Below.refl W0.heap.size W0)
  go_loopw [5, 6] (fun i _ wr => ∃ k : Nat, k ≤ p.sizes.length ∧ i = .int .i64 k ∧ (∀ j, j < k → goodSummed p s j = true) ∧ Below W0.heap.size W0 wr) (fun i _ _ => p.sizes.length - (intOf i).toNat)
  case atStart => exact ⟨0, Nat.zero_le _, rfl, fun j hj => by omega, Below.refl _ _⟩
  case round =>
    clear y0 y1 x0 x1 x2 x3 x4 x5 x6 hbz0 hbz1
    obtain ⟨k, hk, rfl, hall, hbw⟩ := hrel
    have hall' := Lib.hid hall
    clear hall
    have hB := hb0.trans (hbw.mono hb0.size)
    obtain ⟨⟨y0, y1⟩, x0, x1, x2, x3, x4, x5, x6, hbz0, hbz1⟩ := hK.out wr (hbw)
    by_cases hlt : k < p.sizes.length
    · have hI4 : k < s.inn.length := by rw [hsH.out.inn.1]; exact hlt
      have hI5 : k < s.out.length := by rw [hsH.out.out.1]; exact hlt
      have hI6 : k < s.fixed.length := by rw [hsH.out.fixed.1]; exact hlt
      obtain ⟨i1, i2⟩ := hsH.out.inn.2 hlt
      obtain ⟨u1, u2⟩ := hsH.out.out.2 hlt
      obtain ⟨f1, f2⟩ := hsH.out.fixed.2 hlt
      obtain ⟨o4, l4, r4⟩ := (hI.out wr hB).at_.int hI4
      obtain ⟨o5, l5, r5⟩ := (hU.out wr hB).at_.int hI5
      obtain ⟨o6, l6, r6⟩ := (hX.out wr hB).at_.int hI6
      have q1 := fun o d os => cells_wld (w := wr) (b := w.heap.size + 1) hbz0 o d os
      have q4 := fun o d os => cells_wld (w := wr) (b := ablk A4) l4 o d os
      have q5 := fun o d os => cells_wld (w := wr) (b := ablk A5) l5 o d os
      have q6 := fun o d os => cells_wld (w := wr) (b := ablk A6) l6 o d os
      have hN2 := Lib.hid (fun d os => hN.out _ (hB.trans ((below_wld wr d os).mono hB.size)))
      have hw1 : IntKind.i64.wrap (intAt s.inn k - intAt s.out k) = intAt s.inn k - intAt s.out k := IntWalk.i64_in _ (by omega)
      have hw2 : IntKind.i64.wrap (intAt s.inn k - intAt s.out k + intAt s.fixed k) = intAt s.inn k - intAt s.out k + intAt s.fixed k := IntWalk.i64_in _ (by omega)
      by_cases hsum : sumOf s.on k = intAt s.inn k - intAt s.out k + intAt s.fixed k
      · have hne : (sumOf s.on k != intAt s.inn k - intAt s.out k + intAt s.fixed k) = false := by simpa using hsum
        have hsum' := Lib.hid hsum
        clear hsum
        go_wp2_with fail
        refine wp_region_wld (by kernel_rfl) (by kernel_rfl) ?_
        repeat (go_big_quiet_step ((go_at_call 91; refine calls_wld_same (rSumOf _ _ p _ k (hN2.out _ _) hsH.out.shelf hlt))))
        refine wpQuiet_nil ?_
        intro W2 hw'
        have hb2 := below_of_cls hw'
        clear hw'
        clear q1 q4 q5 q6 hw1 hw2 hne
        clear y0 y1 x0 x1 x2 x3 x4 x5 x6 hbz0 hbz1
        have hbw2 := hbw.trans (hb2.mono hbw.size)
        have hB2 := hb0.trans (hbw2.mono hb0.size)
        obtain ⟨⟨y0, y1⟩, x0, x1, x2, x3, x4, x5, x6, hbz0, hbz1⟩ := hK.out W2 (hbw2)
        go_wp2_with fail
        go_loopw [6] (fun i wr => ∃ m : Nat, m ≤ p.bins.length ∧ i = .int .i64 m ∧ (∀ j, j < m → bound s j k ≤ cell s.on j k) ∧ Below W0.heap.size W0 wr) (fun i _ => p.bins.length - (intOf i).toNat)
        case atStart => exact ⟨0, Nat.zero_le _, rfl, fun j hj => by omega, hbw2⟩
        case round =>
          clear y0 y1 x0 x1 x2 x3 x4 x5 x6 hbz0 hbz1
          clear r4 r5 r6 hbw hB hb2 hbw2 hB2
          obtain ⟨m, hm, rfl, hallm, hbw⟩ := hrel
          have hallm' := Lib.hid hallm
          clear hallm
          have hB := hb0.trans (hbw.mono hb0.size)
          obtain ⟨⟨y0, y1⟩, x0, x1, x2, x3, x4, x5, x6, hbz0, hbz1⟩ := hK.out wr (hbw)
          by_cases hml : m < p.bins.length
          · have hml' : m < s.on.length := by rw [hsH.out.onLen]; exact hml
            have hkr : k < (rowAt s.on m).length := by rw [hsH.out.rowLen hml]; exact hlt
            obtain ⟨Ar, cr, or0, lr0, rr0, hrow⟩ := (hN.out wr hB).row hml'
            obtain ⟨or1, lr1, rr1⟩ := hrow.at_.int hkr
            have q1 := fun o d os => cells_wld (w := wr) (b := w.heap.size + 1) hbz0 o d os
            have q2 := fun o d os => cells_wld (w := wr) (b := ablk A0) lr0 o d os
            have q3 := fun o d os => cells_wld (w := wr) (b := ablk Ar) lr1 o d os
            have hV2 := Lib.hid (fun d os => hV.out _ (hB.trans ((below_wld wr d os).mono hB.size)))
            have hcl : intAt (rowAt s.on m) k = cell s.on m k := rfl
            have hcl' := Lib.hid hcl
            clear hcl
            by_cases hbd : bound s m k ≤ cell s.on m k
            · have hd : decide (intAt (rowAt s.on m) k < bound s m k) = false := by rw [hcl'.out]; simpa using hbd
              have hbd' := Lib.hid hbd
              clear hbd
              go_wp2_with fail
              refine wp_region_wld (by kernel_rfl) (by kernel_rfl) ?_
              repeat (go_big_quiet_step ((go_at_call 70; refine calls_wld (rBound _ _ p s _ _ (hV2.out _ _) hsH.out))))
              refine wpQuiet_nil ?_
              intro W2 hw'
              have hb2 := below_of_cls hw'
              clear hw'
              clear q1 q2 q3
              go_wp2_with fail
              go_roundw
              case rel =>
                refine ⟨m + 1, by omega, by go_num, fun j hj => ?_, hbw.trans (hb2.mono hbw.size)⟩
                rcases Nat.lt_succ_iff_lt_or_eq.1 hj with h | rfl
                · exact hallm'.out j h
                · exact hbd'.out
              case measure => simp [intOf]; omega
            · have hd : decide (intAt (rowAt s.on m) k < bound s m k) = true := by rw [hcl'.out]; simpa using hbd
              have hfin := Lib.hid (summed_good hlt (goodSummed_bin hml (show cell s.on m k < bound s m k by omega)))
              clear hbd
              go_wp2_with fail
              refine wp_region_wld (by kernel_rfl) (by kernel_rfl) ?_
              repeat (go_big_quiet_step ((go_at_call 70; refine calls_wld (rBound _ _ p s _ _ (hV2.out _ _) hsH.out))))
              refine wpQuiet_nil ?_
              intro W2 hw'
              have hb2 := below_of_cls hw'
              clear hw'
              clear q1 q2 q3
              go_wp2_with fail
              go_ret
              exact ⟨ret_bool (by rw [hfin.out]), hB.trans (hb2.mono hB.size)⟩
          · obtain rfl : m = p.bins.length := by omega
            go_wp2_with fail
            go_roundw
            case rel =>
              refine ⟨k + 1, by omega, by go_num, fun j hj => ?_, hbw⟩
              rcases Nat.lt_succ_iff_lt_or_eq.1 hj with h | rfl
              · exact hall'.out j h
              · exact goodSummed_iff.2 ⟨hsum'.out, hallm'.out⟩
            case measure => simp [intOf]; omega
      · have hne : (sumOf s.on k != intAt s.inn k - intAt s.out k + intAt s.fixed k) = true := by simpa using hsum
        have hfin := Lib.hid (summed_good hlt (goodSummed_sum hsum))
        clear hsum
        go_wp2_with fail
        refine wp_region_wld (by kernel_rfl) (by kernel_rfl) ?_
        repeat (go_big_quiet_step ((go_at_call 91; refine calls_wld_same (rSumOf _ _ p _ k (hN2.out _ _) hsH.out.shelf hlt))))
        refine wpQuiet_nil ?_
        intro W2 hw'
        have hb2 := below_of_cls hw'
        clear hw'
        clear q1 q4 q5 q6 hw1 hw2 hne
        go_wp2_with fail
        go_ret
        exact ⟨ret_bool (by rw [hfin.out]), hB.trans (hb2.mono hB.size)⟩
    · obtain rfl : k = p.sizes.length := by omega
      go_wp2_with fail
      go_loopw [7, 8, 9, 10, 11, 12, 13] (fun i _ _ _ _ _ _ wr => ∃ k : Nat, k ≤ s.orders.length ∧ i = .int .i64 k ∧ (∀ j, j < k → orderSummed s j = true) ∧ Below W0.heap.size W0 wr) (fun i _ _ _ _ _ _ _ => s.orders.length - (intOf i).toNat)
      case atStart => exact ⟨0, Nat.zero_le _, rfl, fun j hj => by omega, hbw⟩
      case round =>
        clear y0 y1 x0 x1 x2 x3 x4 x5 x6 hbz0 hbz1
        clear hbw hB
        obtain ⟨k, hk, rfl, hallo, hbw⟩ := hrel
        have hallo' := Lib.hid hallo
        clear hallo
        have hB := hb0.trans (hbw.mono hb0.size)
        obtain ⟨⟨y0, y1⟩, x0, x1, x2, x3, x4, x5, x6, hbz0, hbz1⟩ := hK.out wr (hbw)
        by_cases hlt : k < s.orders.length
        · obtain ⟨A', c', hok1, hAb1, d0, d1, hsl⟩ := (hO.out wr hB).order hlt
          obtain ⟨l1, l3⟩ := hsH.out.lines3 hlt
          change 1 ≤ (orderAt s.orders k).lines.length at l1
          change (orderAt s.orders k).lines.length ≤ 3 at l3
          go_wp2_with fail
          go_loopw [8, 9] (fun b i wr => ∃ m : Nat, m ≤ (orderAt s.orders k).lines.length ∧ i = .int .i64 m ∧ b = .bool (gotTo (orderAt s.orders k) m) ∧ Below W0.heap.size W0 wr) (fun _ i _ => (orderAt s.orders k).lines.length - (intOf i).toNat)
          case atStart => exact ⟨0, Nat.zero_le _, rfl, rfl, hbw⟩
          case round =>
            clear y0 y1 x0 x1 x2 x3 x4 x5 x6 hbz0 hbz1
            clear hbw hB hok1 hAb1 d0 d1 hsl
            obtain ⟨m, hm, rfl, rfl, hbw⟩ := hrel
            have hB := hb0.trans (hbw.mono hb0.size)
            obtain ⟨⟨y0, y1⟩, x0, x1, x2, x3, x4, x5, x6, hbz0, hbz1⟩ := hK.out wr (hbw)
            obtain ⟨A', c', hok1, hAb1, d0, d1, hsl⟩ := (hO.out wr hB).order hlt
            by_cases hml : m < (orderAt s.orders k).lines.length
            · obtain ⟨hok2, hAb2, e0, e1, e2, e3⟩ := hsl.at_.line hml
              have hsu := gotTo_succ hml
              cases hg : gotTo (orderAt s.orders k) m
              · rw [hg, Bool.false_and] at hsu
                have hsu' := Lib.hid hsu
                clear hsu hg
                go_wp2_with fail
                go_quiet (fail)
                go_wp2_with fail
                go_roundw
                case rel => exact ⟨m + 1, by omega, by go_num, by rw [hsu'.out], below_drewN hbw _⟩
                case measure => simp [intOf]; omega
              · rw [hg, Bool.true_and] at hsu
                by_cases hgw : (lineAt (orderAt s.orders k).lines m).got = (lineAt (orderAt s.orders k).lines m).want
                · have hq : ((lineAt (orderAt s.orders k).lines m).got == (lineAt (orderAt s.orders k).lines m).want) = true := by simpa using hgw
                  rw [decide_eq_true hgw] at hsu
                  have hsu' := Lib.hid hsu
                  clear hsu hg hgw
                  go_wp2_with fail
                  go_quiet (fail)
                  go_wp2_with fail
                  go_roundw
                  case rel => exact ⟨m + 1, by omega, by go_num, by rw [hsu'.out], below_drewN hbw _⟩
                  case measure => simp [intOf]; omega
                · have hq : ((lineAt (orderAt s.orders k).lines m).got == (lineAt (orderAt s.orders k).lines m).want) = false := by simpa using hgw
                  rw [decide_eq_false hgw] at hsu
                  have hsu' := Lib.hid hsu
                  clear hsu hg hgw
                  go_wp2_with fail
                  go_quiet (fail)
                  go_wp2_with fail
                  go_roundw
                  case rel => exact ⟨m + 1, by omega, by go_num, by rw [hsu'.out], below_drewN hbw _⟩
                  case measure => simp [intOf]; omega
            · obtain rfl : m = (orderAt s.orders k).lines.length := by omega
              rw [gotTo_all]
              cases hag : allGot (orderAt s.orders k)
              · have hng := Lib.hid (show ¬ ((s.order k).kind = 1 ∧ allGot (s.order k) = true) by unfold State.order; rw [hag]; simp)
                clear hag
                go_wp2_with fail
                go_loopw [10, 11, 12, 13] (fun i _ _ _ wr => ∃ m : Nat, m ≤ (orderAt s.orders k).lines.length ∧ i = .int .i64 m ∧ (∀ j, j < m → lineSummed s k j = true) ∧ Below W0.heap.size W0 wr) (fun i _ _ _ _ => (orderAt s.orders k).lines.length - (intOf i).toNat)
                case atStart => exact ⟨0, Nat.zero_le _, rfl, fun j hj => by omega, hbw⟩
                case round =>
                  clear y0 y1 x0 x1 x2 x3 x4 x5 x6 hbz0 hbz1
                  clear hbw hB hok1 hAb1 d0 d1 hsl
                  obtain ⟨m, hm, rfl, hallm, hbw⟩ := hrel
                  have hallm' := Lib.hid hallm
                  clear hallm
                  have hB := hb0.trans (hbw.mono hb0.size)
                  obtain ⟨⟨y0, y1⟩, x0, x1, x2, x3, x4, x5, x6, hbz0, hbz1⟩ := hK.out wr (hbw)
                  obtain ⟨A', c', hok1, hAb1, d0, d1, hsl⟩ := (hO.out wr hB).order hlt
                  by_cases hml : m < (orderAt s.orders k).lines.length
                  · obtain ⟨hok2, hAb2, e0, e1, e2, e3⟩ := hsl.at_.line hml
                    have hl : lineAt (orderAt s.orders k).lines m = s.line k m := rfl
                    rw [hl] at e0 e1 e2 e3
                    clear hl
                    obtain ⟨_, ⟨b1, b2⟩, ⟨b3, b4⟩, b5, b6⟩ := hsH.out.line hlt hml
                    obtain ⟨b7, b8⟩ := kept_range hsH.out.holds k m
                    go_wp2_with fail
                    have hBd : Below w.heap.size w wr.drew := hB.drew
                    go_region_held3 (fun w' => w'.cell? ⟨w.heap.size + 1, 1, none⟩ = some (.slice A1 s.orders.length c1) ∧ w'.cell? ⟨w.heap.size + 1, 2, none⟩ = some (.slice A2 s.holds.length c2) ∧ w'.cell? ⟨ablk A1, aoff A1 + k * 2 + 1, none⟩ = some (.slice A' (orderAt s.orders k).lines.length c') ∧
                      w'.cell? ⟨ablk A', aoff A' + m * 4, none⟩ = some (.int .i64 (s.line k m).good) ∧ w'.cell? ⟨ablk A', aoff A' + m * 4 + 1, none⟩ = some (.int .i64 (s.line k m).want) ∧ w'.cell? ⟨ablk A', aoff A' + m * 4 + 2, none⟩ = some (.int .i64 (s.line k m).got) ∧ w'.cell? ⟨ablk A', aoff A' + m * 4 + 3, none⟩ = some (.int .i64 (s.line k m).back)) (first | go_keep)
                      (first
                      | (go_at_call 92; refine (rKeptOf _ _ s.holds k m (hH.out _ hBd) hsH.out.holds).mono ?_; rintro e w' ⟨rfl, rfl⟩)
                      | (go_at_call 92; refine (rKeptOf _ _ s.holds k m (hH.out _ (hBd.alloc hBd.size _)) hsH.out.holds).mono ?_; rintro e w' ⟨rfl, rfl⟩))
                    all_goals
                      have hbw1 : Below W0.heap.size W0 (wr.alloc (.cells #[.int .i64 (s.line k m).good, .int .i64 (s.line k m).want, .int .i64 (s.line k m).got, .int .i64 (s.line k m).back] 44)).drew := (hbw.alloc hbw.size _).drew
                      have hbk1 : ablk A1 < (wr.alloc (.cells #[.int .i64 (s.line k m).good, .int .i64 (s.line k m).want, .int .i64 (s.line k m).got, .int .i64 (s.line k m).back] 44)).drew.heap.size := by simp; omega
                      have hd0 : (wr.alloc (.cells #[.int .i64 (s.line k m).good, .int .i64 (s.line k m).want, .int .i64 (s.line k m).got, .int .i64 (s.line k m).back] 44)).drew.cell? ⟨ablk A1, aoff A1 + k * 2, none⟩ = some (.int .i64 (orderAt s.orders k).kind) := (((Below.refl _ _).alloc (Nat.le_refl _) _).drew.cell (p := ⟨ablk A1, aoff A1 + k * 2, none⟩) hAb1).trans d0
                      have hzl : (wr.alloc (.cells #[.int .i64 (s.line k m).good, .int .i64 (s.line k m).want, .int .i64 (s.line k m).got, .int .i64 (s.line k m).back] 44)).drew.cell? ⟨wr.heap.size, 1, none⟩ = some (.int .i64 (s.line k m).want) ∧ (wr.alloc (.cells #[.int .i64 (s.line k m).good, .int .i64 (s.line k m).want, .int .i64 (s.line k m).got, .int .i64 (s.line k m).back] 44)).drew.cell? ⟨wr.heap.size, 2, none⟩ = some (.int .i64 (s.line k m).got) ∧ (wr.alloc (.cells #[.int .i64 (s.line k m).good, .int .i64 (s.line k m).want, .int .i64 (s.line k m).got, .int .i64 (s.line k m).back] 44)).drew.cell? ⟨wr.heap.size, 3, none⟩ = some (.int .i64 (s.line k m).back) := by simp
                      clear d0 d1 e0 e1 e2 e3
                      clear y0 y1 x0 x1 x2 x3 x4 x5 x6 hbz0 hbz1
                      obtain ⟨⟨y0, y1⟩, x0, x1, x2, x3, x4, x5, x6, _⟩ := hK.out _ hbw1
                      have hbz0 := Nat.lt_of_lt_of_le hsz0 hbw1.size
                      have hbz1 := Nat.lt_of_lt_of_le hsz1 hbw1.size
                      generalize (wr.alloc (.cells #[.int .i64 (s.line k m).good, .int .i64 (s.line k m).want, .int .i64 (s.line k m).got, .int .i64 (s.line k m).back] 44)).drew = Wq at hbw1 hbk1 hd0 hzl y0 y1 x0 x1 x2 x3 x4 x5 x6 hbz0 hbz1 ⊢
                      obtain ⟨z1, z2, z3⟩ := hzl
                      have hparts := line_sumsR s k m b7
                      unfold State.order at hparts
                      rcases hparts with ⟨g1, g2, g3, g4, hf⟩ | ⟨g1, g2, g3, g4, hf⟩ | ⟨g1, g2, g3, hf⟩ | ⟨g1, g2, g3, g4, g5, hf⟩ | ⟨g1, g2, g3, g4, g5, hf⟩ | ⟨g1, g2, g3, g4, hf⟩
                      · have hfin := Lib.hid (summed_order (p := p) hlt (orderSummed_line hml hf))
                        clear hf
                        go_wp2_with fail
                        go_ret
                        exact ⟨ret_bool (by rw [hfin.out]), hb0.trans (hbw1.mono hb0.size)⟩
                      · have hf' := Lib.hid hf
                        clear hf
                        go_wp2_with fail
                        go_roundw
                        case rel =>
                          refine ⟨m + 1, by omega, by go_num, fun j hj => ?_, hbw1⟩
                          rcases Nat.lt_succ_iff_lt_or_eq.1 hj with h | rfl
                          · exact hallm'.out j h
                          · exact hf'.out
                        case measure => simp [intOf]; omega
                      · have hfin := Lib.hid (summed_order (p := p) hlt (orderSummed_line hml hf))
                        clear hf
                        go_wp2_with fail
                        go_ret
                        exact ⟨ret_bool (by rw [hfin.out]), hb0.trans (hbw1.mono hb0.size)⟩
                      · have hfin := Lib.hid (summed_order (p := p) hlt (orderSummed_line hml hf))
                        clear hf
                        go_wp2_with fail
                        go_ret
                        exact ⟨ret_bool (by rw [hfin.out]), hb0.trans (hbw1.mono hb0.size)⟩
                      · have hf' := Lib.hid hf
                        clear hf
                        go_wp2_with fail
                        go_roundw
                        case rel =>
                          refine ⟨m + 1, by omega, by go_num, fun j hj => ?_, hbw1⟩
                          rcases Nat.lt_succ_iff_lt_or_eq.1 hj with h | rfl
                          · exact hallm'.out j h
                          · exact hf'.out
                        case measure => simp [intOf]; omega
                      · have hf' := Lib.hid hf
                        clear hf
                        go_wp2_with fail
                        go_roundw
                        case rel =>
                          refine ⟨m + 1, by omega, by go_num, fun j hj => ?_, hbw1⟩
                          rcases Nat.lt_succ_iff_lt_or_eq.1 hj with h | rfl
                          · exact hallm'.out j h
                          · exact hf'.out
                        case measure => simp [intOf]; omega
                  · obtain rfl : m = (orderAt s.orders k).lines.length := by omega
                    go_wp2_with fail
                    go_roundw
                    case rel =>
                      refine ⟨k + 1, by omega, by go_num, fun j hj => ?_, hbw⟩
                      rcases Nat.lt_succ_iff_lt_or_eq.1 hj with h | rfl
                      · exact hallo'.out j h
                      · exact orderSummed_iff.2 ⟨hng.out, hallm'.out⟩
                    case measure => simp [intOf]; omega
              · by_cases hk1 : (orderAt s.orders k).kind = 1
                · have hq : ((orderAt s.orders k).kind == 1) = true := by simpa using hk1
                  have hfin := Lib.hid (summed_order (p := p) hlt (orderSummed_got (o := k) hk1 hag))
                  clear hk1 hag
                  go_wp2_with fail
                  go_ret
                  exact ⟨ret_bool (by rw [hfin.out]), hB⟩
                · have hq : ((orderAt s.orders k).kind == 1) = false := by simpa using hk1
                  have hng := Lib.hid (show ¬ ((s.order k).kind = 1 ∧ allGot (s.order k) = true) from fun h => hk1 h.1)
                  clear hag hk1
                  go_wp2_with fail
                  clear hq
                  go_loopw [10, 11, 12, 13] (fun i _ _ _ wr => ∃ m : Nat, m ≤ (orderAt s.orders k).lines.length ∧ i = .int .i64 m ∧ (∀ j, j < m → lineSummed s k j = true) ∧ Below W0.heap.size W0 wr) (fun i _ _ _ _ => (orderAt s.orders k).lines.length - (intOf i).toNat)
                  case atStart => exact ⟨0, Nat.zero_le _, rfl, fun j hj => by omega, hbw⟩
                  case round =>
                    clear y0 y1 x0 x1 x2 x3 x4 x5 x6 hbz0 hbz1
                    clear hbw hB hok1 hAb1 d0 d1 hsl
                    obtain ⟨m, hm, rfl, hallm, hbw⟩ := hrel
                    have hallm' := Lib.hid hallm
                    clear hallm
                    have hB := hb0.trans (hbw.mono hb0.size)
                    obtain ⟨⟨y0, y1⟩, x0, x1, x2, x3, x4, x5, x6, hbz0, hbz1⟩ := hK.out wr (hbw)
                    obtain ⟨A', c', hok1, hAb1, d0, d1, hsl⟩ := (hO.out wr hB).order hlt
                    by_cases hml : m < (orderAt s.orders k).lines.length
                    · obtain ⟨hok2, hAb2, e0, e1, e2, e3⟩ := hsl.at_.line hml
                      have hl : lineAt (orderAt s.orders k).lines m = s.line k m := rfl
                      rw [hl] at e0 e1 e2 e3
                      clear hl
                      obtain ⟨_, ⟨b1, b2⟩, ⟨b3, b4⟩, b5, b6⟩ := hsH.out.line hlt hml
                      obtain ⟨b7, b8⟩ := kept_range hsH.out.holds k m
                      go_wp2_with fail
                      have hBd : Below w.heap.size w wr.drew := hB.drew
                      go_region_held3 (fun w' => w'.cell? ⟨w.heap.size + 1, 1, none⟩ = some (.slice A1 s.orders.length c1) ∧ w'.cell? ⟨w.heap.size + 1, 2, none⟩ = some (.slice A2 s.holds.length c2) ∧ w'.cell? ⟨ablk A1, aoff A1 + k * 2 + 1, none⟩ = some (.slice A' (orderAt s.orders k).lines.length c') ∧
                        w'.cell? ⟨ablk A', aoff A' + m * 4, none⟩ = some (.int .i64 (s.line k m).good) ∧ w'.cell? ⟨ablk A', aoff A' + m * 4 + 1, none⟩ = some (.int .i64 (s.line k m).want) ∧ w'.cell? ⟨ablk A', aoff A' + m * 4 + 2, none⟩ = some (.int .i64 (s.line k m).got) ∧ w'.cell? ⟨ablk A', aoff A' + m * 4 + 3, none⟩ = some (.int .i64 (s.line k m).back)) (first | go_keep)
                        (first
                        | (go_at_call 92; refine (rKeptOf _ _ s.holds k m (hH.out _ hBd) hsH.out.holds).mono ?_; rintro e w' ⟨rfl, rfl⟩)
                        | (go_at_call 92; refine (rKeptOf _ _ s.holds k m (hH.out _ (hBd.alloc hBd.size _)) hsH.out.holds).mono ?_; rintro e w' ⟨rfl, rfl⟩))
                      all_goals
                        have hbw1 : Below W0.heap.size W0 (wr.alloc (.cells #[.int .i64 (s.line k m).good, .int .i64 (s.line k m).want, .int .i64 (s.line k m).got, .int .i64 (s.line k m).back] 44)).drew := (hbw.alloc hbw.size _).drew
                        have hbk1 : ablk A1 < (wr.alloc (.cells #[.int .i64 (s.line k m).good, .int .i64 (s.line k m).want, .int .i64 (s.line k m).got, .int .i64 (s.line k m).back] 44)).drew.heap.size := by simp; omega
                        have hd0 : (wr.alloc (.cells #[.int .i64 (s.line k m).good, .int .i64 (s.line k m).want, .int .i64 (s.line k m).got, .int .i64 (s.line k m).back] 44)).drew.cell? ⟨ablk A1, aoff A1 + k * 2, none⟩ = some (.int .i64 (orderAt s.orders k).kind) := (((Below.refl _ _).alloc (Nat.le_refl _) _).drew.cell (p := ⟨ablk A1, aoff A1 + k * 2, none⟩) hAb1).trans d0
                        have hzl : (wr.alloc (.cells #[.int .i64 (s.line k m).good, .int .i64 (s.line k m).want, .int .i64 (s.line k m).got, .int .i64 (s.line k m).back] 44)).drew.cell? ⟨wr.heap.size, 1, none⟩ = some (.int .i64 (s.line k m).want) ∧ (wr.alloc (.cells #[.int .i64 (s.line k m).good, .int .i64 (s.line k m).want, .int .i64 (s.line k m).got, .int .i64 (s.line k m).back] 44)).drew.cell? ⟨wr.heap.size, 2, none⟩ = some (.int .i64 (s.line k m).got) ∧ (wr.alloc (.cells #[.int .i64 (s.line k m).good, .int .i64 (s.line k m).want, .int .i64 (s.line k m).got, .int .i64 (s.line k m).back] 44)).drew.cell? ⟨wr.heap.size, 3, none⟩ = some (.int .i64 (s.line k m).back) := by simp
                        clear d0 d1 e0 e1 e2 e3
                        clear y0 y1 x0 x1 x2 x3 x4 x5 x6 hbz0 hbz1
                        obtain ⟨⟨y0, y1⟩, x0, x1, x2, x3, x4, x5, x6, _⟩ := hK.out _ hbw1
                        have hbz0 := Nat.lt_of_lt_of_le hsz0 hbw1.size
                        have hbz1 := Nat.lt_of_lt_of_le hsz1 hbw1.size
                        generalize (wr.alloc (.cells #[.int .i64 (s.line k m).good, .int .i64 (s.line k m).want, .int .i64 (s.line k m).got, .int .i64 (s.line k m).back] 44)).drew = Wq at hbw1 hbk1 hd0 hzl y0 y1 x0 x1 x2 x3 x4 x5 x6 hbz0 hbz1 ⊢
                        obtain ⟨z1, z2, z3⟩ := hzl
                        have hparts := line_sumsR s k m b7
                        unfold State.order at hparts
                        rcases hparts with ⟨g1, g2, g3, g4, hf⟩ | ⟨g1, g2, g3, g4, hf⟩ | ⟨g1, g2, g3, hf⟩ | ⟨g1, g2, g3, g4, g5, hf⟩ | ⟨g1, g2, g3, g4, g5, hf⟩ | ⟨g1, g2, g3, g4, hf⟩
                        · have hfin := Lib.hid (summed_order (p := p) hlt (orderSummed_line hml hf))
                          clear hf
                          go_wp2_with fail
                          go_ret
                          exact ⟨ret_bool (by rw [hfin.out]), hb0.trans (hbw1.mono hb0.size)⟩
                        · have hf' := Lib.hid hf
                          clear hf
                          go_wp2_with fail
                          go_roundw
                          case rel =>
                            refine ⟨m + 1, by omega, by go_num, fun j hj => ?_, hbw1⟩
                            rcases Nat.lt_succ_iff_lt_or_eq.1 hj with h | rfl
                            · exact hallm'.out j h
                            · exact hf'.out
                          case measure => simp [intOf]; omega
                        · have hfin := Lib.hid (summed_order (p := p) hlt (orderSummed_line hml hf))
                          clear hf
                          go_wp2_with fail
                          go_ret
                          exact ⟨ret_bool (by rw [hfin.out]), hb0.trans (hbw1.mono hb0.size)⟩
                        · have hfin := Lib.hid (summed_order (p := p) hlt (orderSummed_line hml hf))
                          clear hf
                          go_wp2_with fail
                          go_ret
                          exact ⟨ret_bool (by rw [hfin.out]), hb0.trans (hbw1.mono hb0.size)⟩
                        · have hf' := Lib.hid hf
                          clear hf
                          go_wp2_with fail
                          go_roundw
                          case rel =>
                            refine ⟨m + 1, by omega, by go_num, fun j hj => ?_, hbw1⟩
                            rcases Nat.lt_succ_iff_lt_or_eq.1 hj with h | rfl
                            · exact hallm'.out j h
                            · exact hf'.out
                          case measure => simp [intOf]; omega
                        · have hf' := Lib.hid hf
                          clear hf
                          go_wp2_with fail
                          go_roundw
                          case rel =>
                            refine ⟨m + 1, by omega, by go_num, fun j hj => ?_, hbw1⟩
                            rcases Nat.lt_succ_iff_lt_or_eq.1 hj with h | rfl
                            · exact hallm'.out j h
                            · exact hf'.out
                          case measure => simp [intOf]; omega
                    · obtain rfl : m = (orderAt s.orders k).lines.length := by omega
                      go_wp2_with fail
                      go_roundw
                      case rel =>
                        refine ⟨k + 1, by omega, by go_num, fun j hj => ?_, hbw⟩
                        rcases Nat.lt_succ_iff_lt_or_eq.1 hj with h | rfl
                        · exact hallo'.out j h
                        · exact orderSummed_iff.2 ⟨hng.out, hallm'.out⟩
                      case measure => simp [intOf]; omega
        · obtain rfl : k = s.orders.length := by omega
          have hfin := Lib.hid (summed_iff.2 ⟨hall'.out, hallo'.out⟩)
          go_wp2_with fail
          go_ret
          exact ⟨ret_bool (by rw [hfin.out]), hB⟩
end Wh
namespace Wh
open Go Go.RowKit Go.Shelf Go.Proofs
attribute [local go_sem] run_indexAt_letter

theorem many_no {s : State} (h : 4 < s.orders.length ∨ 8 < s.moves.length ∨ (s.orders.any fun o => !within o.lines.length 1 3) = true) : manyOk s = false := by
  cases hm : manyOk s
  · rfl
  · obtain ⟨h1, h2, h3⟩ := manyOk_iff.1 hm
    rcases h with h | h | h
    · omega
    · omega
    · rw [any_not, h3] at h
      cases h
theorem many_yes {s : State} (h1 : s.orders.length ≤ 4) (h2 : s.moves.length ≤ 8) (h3 : (s.orders.any fun o => !within o.lines.length 1 3) = false) : manyOk s = true := by
  refine manyOk_iff.2 ⟨h1, h2, ?_⟩
  rw [any_not] at h3
  simpa using h3
theorem many_lines {s : State} (h : manyOk s = true) : ∀ o, o < s.orders.length → (orderAt s.orders o).lines.length ≤ 1000 := fun o ho => by
  have := within_iff.1 (all_at dOrder (manyOk_iff.1 h).2.2 ho)
  unfold orderAt
  omega

set_option maxHeartbeats 4000000 in
theorem sCheck (w : World) (v vs : Value) (p : Plan) (s : State) (hp : PlanV w w.heap.size v p) (hv : StateV w w.heap.size vs s) :
    Calls Tryz.prog 23 #[v, vs] w fun e w' => e = .returned (.int .i64 (checkState p s)) ∧ Below w.heap.size w w' := by
  obtain ⟨Ab, cb, As, cs, rfl, hP', hBn, hSz, hlb, hls⟩ := openPl hp
  obtain ⟨A0, c0, A1, c1, A2, c2, A3, c3, A4, c4, A5, c5, A6, c6, rfl, hV, hN, hO, hH, hM, hI, hU, hX, hl0, hl1, hl2, hl3, hl4, hl5, hl6⟩ := openOne hv
  go_enter Tryz.func23, Tryz.ntmps23
  go_wp2_with fail
  obtain ⟨W0, hW0, hb0, hsz0, hsz1, hsE, hK⟩ := boxesTwo w p s Ab cb As cs A0 c0 A1 c1 A2 c2 A3 c3 A4 c4 A5 c5 A6 c6
  rw [hW0]
  clear hW0
  obtain ⟨⟨y0, y1⟩, x0, x1, x2, x3, x4, x5, x6, hbz0, hbz1⟩ := hK.out W0 (Below.refl W0.heap.size W0)
  go_wp2_with fail
  clear y0 y1 x0 x1 x2 x3 x4 x5 x6 hbz0 hbz1
  refine (shelfCheck _ _ _ p s.on (hP'.out _ hb0) (hN.out _ hb0)).mono ?_
  rintro e W1 ⟨rfl, hb1⟩
  have hB1 := hb0.trans (hb1.mono hb0.size)
  obtain ⟨⟨y0, y1⟩, x0, x1, x2, x3, x4, x5, x6, hbz0, hbz1⟩ := hK.out W1 (hb1)
  by_cases hsh : checkShelf p s.on = 0
  · have hsh' := Lib.hid hsh
    rw [hsh]
    clear hsh
    by_cases h4 : s.orders.length ≤ 4
    · by_cases h8 : s.moves.length ≤ 8
      · go_wp2_with fail
        clear y0 y1 x0 x1 x2 x3 x4 x5 x6 hbz0 hbz1
        refine (containsFuncOrder _ _ s.orders 77 #[] (fun o => !within o.lines.length 1 3) entersBadOrder (hO.out W1 hB1) (fun j _ W hW u hu => sBadOrder _ u W hu)).mono ?_
        rintro e W2 ⟨rfl, hb2⟩
        have hb12 := hb1.trans (hb2.mono hb1.size)
        have hB2 := hb0.trans (hb12.mono hb0.size)
        obtain ⟨⟨y0, y1⟩, x0, x1, x2, x3, x4, x5, x6, hbz0, hbz1⟩ := hK.out W2 (hb12)
        cases hany : (s.orders.any fun o => !within o.lines.length 1 3)
        · have hmy := Lib.hid (many_yes h4 h8 hany)
          clear hany
          go_wp2_with fail
          clear y0 y1 x0 x1 x2 x3 x4 x5 x6 hbz0 hbz1
          refine (sFormed _ _ _ p s (hP'.out W2 hB2) (hV.out W2 hB2) (checkShelf_zero.1 hsh'.out).1 h4 (many_lines hmy.out)).mono ?_
          rintro e W3 ⟨rfl, hb3⟩
          have hb13 := hb12.trans (hb3.mono hb12.size)
          have hB3 := hb0.trans (hb13.mono hb0.size)
          obtain ⟨⟨y0, y1⟩, x0, x1, x2, x3, x4, x5, x6, hbz0, hbz1⟩ := hK.out W3 (hb13)
          cases hf : formed p s
          · have hfin := Lib.hid (checkState_form hsh'.out hmy.out hf)
            clear hf
            go_wp2_with fail
            go_ret
            exact ⟨ret_int (by rw [hfin.out]), hB3⟩
          · have hsn := Lib.hid (Sane.mk hsh'.out hmy.out hf)
            clear hf
            go_wp2_with fail
            clear y0 y1 x0 x1 x2 x3 x4 x5 x6 hbz0 hbz1
            refine (sSummed _ _ _ p s (hP'.out W3 hB3) (hV.out W3 hB3) hsn.out).mono ?_
            rintro e W4 ⟨rfl, hb4⟩
            have hB4 := hB3.trans (hb4.mono hB3.size)
            cases hq : summed p s
            · have hfin := Lib.hid (checkState_sum hsn.out hq)
              clear hq
              go_wp2_with fail
              go_ret
              exact ⟨ret_int (by rw [hfin.out]), hB4⟩
            · have hfin := Lib.hid (checkState_ok hsn.out hq)
              clear hq
              go_wp2_with fail
              go_ret
              exact ⟨ret_int (by rw [hfin.out]), hB4⟩
        · have hfin := Lib.hid (checkState_many hsh'.out (many_no (.inr (.inr hany))))
          clear hany
          go_wp2_with fail
          go_ret
          exact ⟨ret_int (by rw [hfin.out]), hB2⟩
      · have hfin := Lib.hid (checkState_many hsh'.out (many_no (.inr (.inl (by omega)))))
        go_wp2_with fail
        go_ret
        exact ⟨ret_int (by rw [hfin.out]), hB1⟩
    · have hfin := Lib.hid (checkState_many hsh'.out (many_no (.inl (by omega))))
      go_wp2_with fail
      go_ret
      exact ⟨ret_int (by rw [hfin.out]), hB1⟩
  · have hne : (checkShelf p s.on != 0) = true := by simpa using hsh
    have hfin := Lib.hid (checkState_shelf hsh)
    clear hsh
    go_wp2_with fail
    go_ret
    exact ⟨ret_int (by rw [hfin.out]), hB1⟩

set_option maxHeartbeats 4000000 in
theorem rCheckState (w : World) (v vs : Value) (p : Plan) (s : State) (hp : PlanV w w.heap.size v p) (hv : StateV w w.heap.size vs s) :
    Calls Tryz.prog 14 #[v, vs] w fun e w' => e = .returned (.int .i64 (checkState p s)) ∧ Below w.heap.size w w' := by
  obtain ⟨Ab, cb, As, cs, rfl, hP', hBn, hSz, hlb, hls⟩ := openPl hp
  obtain ⟨A0, c0, A1, c1, A2, c2, A3, c3, A4, c4, A5, c5, A6, c6, rfl, hV, hN, hO, hH, hM, hI, hU, hX, hl0, hl1, hl2, hl3, hl4, hl5, hl6⟩ := openOne hv
  go_enter Tryz.func14, Tryz.ntmps14
  go_wp2_with fail
  obtain ⟨W0, hW0, hb0, hsz0, hsz1, hsE, hK⟩ := boxesTwo w p s Ab cb As cs A0 c0 A1 c1 A2 c2 A3 c3 A4 c4 A5 c5 A6 c6
  rw [hW0]
  clear hW0
  obtain ⟨⟨y0, y1⟩, x0, x1, x2, x3, x4, x5, x6, hbz0, hbz1⟩ := hK.out W0 (Below.refl W0.heap.size W0)
  go_wp2_with fail
  clear y0 y1 x0 x1 x2 x3 x4 x5 x6 hbz0 hbz1
  refine (rCheckShelf _ _ _ p s.on (hP'.out _ hb0) (hN.out _ hb0)).mono ?_
  rintro e W1 ⟨rfl, hb1⟩
  have hB1 := hb0.trans (hb1.mono hb0.size)
  obtain ⟨⟨y0, y1⟩, x0, x1, x2, x3, x4, x5, x6, hbz0, hbz1⟩ := hK.out W1 (hb1)
  by_cases hsh : checkShelf p s.on = 0
  · have hsh' := Lib.hid hsh
    rw [hsh]
    clear hsh
    by_cases h4 : s.orders.length ≤ 4
    · by_cases h8 : s.moves.length ≤ 8
      · go_wp2_with fail
        go_loopw [6] (fun i wr => ∃ k : Nat, k ≤ s.orders.length ∧ i = .int .i64 k ∧ (∀ j, j < k → within (orderAt s.orders j).lines.length 1 3 = true) ∧ Below W0.heap.size W0 wr) (fun i _ => s.orders.length - (intOf i).toNat)
        case atStart => exact ⟨0, Nat.zero_le _, rfl, fun j hj => by omega, hb1⟩
        case round =>
          clear y0 y1 x0 x1 x2 x3 x4 x5 x6 hbz0 hbz1
          clear hb1 hB1
          obtain ⟨k, hk, rfl, hall, hbw⟩ := hrel
          have hall' := Lib.hid hall
          clear hall
          have hB := hb0.trans (hbw.mono hb0.size)
          obtain ⟨⟨y0, y1⟩, x0, x1, x2, x3, x4, x5, x6, hbz0, hbz1⟩ := hK.out wr (hbw)
          by_cases hlt : k < s.orders.length
          · obtain ⟨A', c', hok1, hAb1, d0, d1, hsl⟩ := (hO.out wr hB).order hlt
            cases hwi : within (orderAt s.orders k).lines.length 1 3
            · have hfin := Lib.hid (checkState_many hsh'.out (many_no (.inr (.inr (by
                rw [List.any_eq_true]
                exact ⟨orderAt s.orders k, by rw [orderAt_eq hlt]; exact List.getElem_mem hlt, by rw [hwi]; rfl⟩)))))
              go_wp2_with (go_at_call 38; refine (rWithin _ _ _ _).mono ?_; rintro e w' ⟨rfl, rfl⟩)
              go_ret
              exact ⟨ret_int (by rw [hfin.out]), hB⟩
            · have hwi' := Lib.hid hwi
              go_wp2_with (go_at_call 38; refine (rWithin _ _ _ _).mono ?_; rintro e w' ⟨rfl, rfl⟩)
              go_roundw
              case rel =>
                refine ⟨k + 1, by omega, by go_num, fun j hj => ?_, hbw⟩
                rcases Nat.lt_succ_iff_lt_or_eq.1 hj with h | rfl
                · exact hall'.out j h
                · exact hwi'.out
              case measure => simp [intOf]; omega
          · obtain rfl : k = s.orders.length := by omega
            have hmy := Lib.hid (manyOk_iff.2 ⟨h4, h8, all_of dOrder hall'.out⟩)
            clear hall'
            go_wp2_with fail
            clear y0 y1 x0 x1 x2 x3 x4 x5 x6 hbz0 hbz1
            refine (rFormed _ _ _ p s (hP'.out wr hB) (hV.out wr hB) (checkShelf_zero.1 hsh'.out).1 h4 h8 (many_lines hmy.out)).mono ?_
            rintro e W3 ⟨rfl, hb3⟩
            have hb13 := hbw.trans (hb3.mono hbw.size)
            have hB3 := hb0.trans (hb13.mono hb0.size)
            obtain ⟨⟨y0, y1⟩, x0, x1, x2, x3, x4, x5, x6, hbz0, hbz1⟩ := hK.out W3 (hb13)
            cases hf : formed p s
            · have hfin := Lib.hid (checkState_form hsh'.out hmy.out hf)
              clear hf
              go_wp2_with fail
              go_ret
              exact ⟨ret_int (by rw [hfin.out]), hB3⟩
            · have hsn := Lib.hid (Sane.mk hsh'.out hmy.out hf)
              clear hf
              go_wp2_with fail
              clear y0 y1 x0 x1 x2 x3 x4 x5 x6 hbz0 hbz1
              refine (rSummed _ _ _ p s (hP'.out W3 hB3) (hV.out W3 hB3) hsn.out).mono ?_
              rintro e W4 ⟨rfl, hb4⟩
              have hB4 := hB3.trans (hb4.mono hB3.size)
              cases hq : summed p s
              · have hfin := Lib.hid (checkState_sum hsn.out hq)
                clear hq
                go_wp2_with fail
                go_ret
                exact ⟨ret_int (by rw [hfin.out]), hB4⟩
              · have hfin := Lib.hid (checkState_ok hsn.out hq)
                clear hq
                go_wp2_with fail
                go_ret
                exact ⟨ret_int (by rw [hfin.out]), hB4⟩
      · have hfin := Lib.hid (checkState_many hsh'.out (many_no (.inr (.inl (by omega)))))
        go_wp2_with fail
        go_ret
        exact ⟨ret_int (by rw [hfin.out]), hB1⟩
    · have hfin := Lib.hid (checkState_many hsh'.out (many_no (.inl (by omega))))
      go_wp2_with fail
      go_ret
      exact ⟨ret_int (by rw [hfin.out]), hB1⟩
  · have hne : (checkShelf p s.on != 0) = true := by simpa using hsh
    have hfin := Lib.hid (checkState_shelf hsh)
    clear hsh
    go_wp2_with fail
    go_ret
    exact ⟨ret_int (by rw [hfin.out]), hB1⟩
end Wh
