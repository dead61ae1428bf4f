/- Texts of the claim, joined: FillD, FillS. -/
import Derived.BigQuiet
import Derived.WalkMore
import Derived.Test.YtijilfghfahgjaaQ21
import Derived.Test.YtijilfghfahgjaaQ18
import Derived.Test.YtijilfghfahgjaaQ16
namespace Wh
open Go Go.RowKit Go.Shelf Go.Proofs
attribute [local go_sem] run_indexAt_letter evL_tmp evL_const evL_func

theorem OwnSt.onCells {w : World} {base : Nat} {V : SV} {s : State} (h : OwnSt w base V s) {b g : Nat} (hb : b < s.on.length) (hg : g < (rowAt s.on b).length) {gon n c : Nat} (hv : V.on = .slice (some ⟨gon, 0, none⟩) n c) :
    ∃ gr cr, gon < w.heap.size ∧ gr < w.heap.size ∧ w.cell? ⟨gon, b, none⟩ = some (.slice (some ⟨gr, 0, none⟩) (rowAt s.on b).length cr) ∧ w.cell? ⟨gr, g, none⟩ = some (.int .i64 (cell s.on b g)) := by
  obtain ⟨go, co, cur0, gr, cr, cur, e0, _, h0, r0, _, _, h1, rc⟩ := h.onAt hb hg
  rw [hv] at e0
  injection e0 with e0
  injection e0 with e0
  injection e0 with e0
  subst e0
  exact ⟨gr, cr, h0.lt, h1.lt, r0, rc⟩
theorem Filled.on {p : Plan} {s t : State} (h : Filled p s t) : t.on = s.on := by rw [h.rest]

theorem tdiv_abs {x z N : Int} (h : -N ≤ x ∧ x ≤ N) : -N ≤ x.tdiv z ∧ x.tdiv z ≤ N := by
  have h1 : (x.tdiv z).natAbs ≤ x.natAbs := by rw [Int.natAbs_tdiv]; exact Nat.div_le_self _ _
  omega
theorem fill_wrap {p : Plan} {t : State} {b g : Nat} (hs : Sane p t) (hb : b < p.bins.length) : wrap64 ((free p t b).tdiv (intAt p.sizes g)) = (free p t b).tdiv (intAt p.sizes g) := by
  have h1 := freeTo_range hs (b := b) ⟨by omega, by omega⟩ (Nat.le_refl p.sizes.length)
  rw [freeTo_all] at h1
  have h2 := tdiv_abs (x := free p t b) (z := intAt p.sizes g) (N := 60000) (by omega)
  exact IntWalk.wrap64_in _ (by omega)
theorem fillN_if (p : Plan) (t : State) (b g f : Nat) : (if (free p t b).tdiv (intAt p.sizes g) < if avail t f g < (p.bin b).high - cell t.on b g - coming t b g then avail t f g else (p.bin b).high - cell t.on b g - coming t b g then (free p t b).tdiv (intAt p.sizes g)
    else if avail t f g < (p.bin b).high - cell t.on b g - coming t b g then avail t f g else (p.bin b).high - cell t.on b g - coming t b g) = fillN p t b g f := by
  unfold fillN
  generalize (free p t b).tdiv (intAt p.sizes g) = x
  generalize avail t f g = y
  generalize (p.bin b).high - cell t.on b g - coming t b g = z
  rw [Int.min_def, Int.min_def]
  split <;> split <;> split <;> (try split) <;> omega

set_option maxHeartbeats 8000000 in
set_option maxRecDepth 100000 in
theorem rFillOf (w : World) (v vs : Value) (p : Plan) (s : State) (hp : PlanV w w.heap.size v p) (hv : StateV w w.heap.size vs s) :
    Calls Try.prog 15 #[v, vs] w (ActPost (fill p s) w) := by
  obtain ⟨Ab, cb, As, cs, rfl, hP', hBn, hSz, hlb, hls⟩ := openPl hp
  obtain ⟨A0, c0, A1, c1, A2, c2, A3, c3, A4, c4, A5, c5, A6, c6, rfl, hV, hN, hO, hH, hM, hI, hU, hX, hl0, hl1, hl2, hl3, hl4, hl5, hl6⟩ := openOne hv
  go_enter Try.func15, Try.ntmps15
  go_wp2_with fail
  obtain ⟨W0, hW0, hb0, hsz0, hsz1, hsE, hK, hR⟩ := boxesAct w p s Ab cb As cs A0 c0 A1 c1 A2 c2 A3 c3 A4 c4 A5 c5 A6 c6
  rw [hW0]
  clear hW0
  obtain ⟨⟨y0, y1⟩, x0, x1, x2, x3, x4, x5, x6, hbz0, hbz1⟩ := hK.out W0 (Below.refl W0.heap.size W0)
  go_wp2_with fail
  clear y0 y1 x0 x1 x2 x3 x4 x5 x6 hbz0 hbz1
  refine (rCheckState _ _ _ p s (hP'.out _ hb0) (hV.out _ hb0)).mono ?_
  rintro e W1 ⟨rfl, h1⟩
  have hB1 := hb0.trans (h1.mono hb0.size)
  obtain ⟨⟨y0, y1⟩, x0, x1, x2, x3, x4, x5, x6, hbz0, hbz1⟩ := hK.out W1 (h1)
  by_cases hc : checkState p s = 0
  · have hc' := Lib.hid hc
    have hsn := Lib.hid (checkState_zero.1 hc).1
    have hfin := Lib.hid (fill_ok hc)
    rw [hc]
    clear hc
    have hcnt := hsn.out.counts
    go_wp2_with fail
    clear y0 y1 x0 x1 x2 x3 x4 x5 x6 hbz0 hbz1
    refine (rOwnState _ _ p s (hV.out _ hB1) hsn.out).mono ?_
    rintro e W5 ⟨_, rfl, ⟨V5, rfl, ho5⟩, h5⟩
    obtain ⟨gon, con, _, _, _, _, eon, _⟩ := ho5.onAt (b := 0) (g := 0) (by rw [hsn.out.onLen]; omega) (by rw [hsn.out.rowLen (by omega)]; omega)
    obtain ⟨k0, k1, k2, k3, k4, k5, k6, k7, k8⟩ := V5
    obtain rfl : k0 = .slice (some ⟨gon, 0, none⟩) s.on.length con := eon
    have hone6 := (ho5).one
    have hnb6 := newBox (W5)
    go_wp2_with (refine wpList_store_state rfl (.tmp 7) (.tmp 20) rfl rfl (World.heap (W5)).size nilSV (⟨.slice (some ⟨gon, 0, none⟩) s.on.length con, k1, k2, k3, k4, k5, k6, k7, k8⟩ : SV) hnb6 rfl rfl hone6 (fun w6 hbox6 hg6 => ?_); refine Hid.out ?_)
    unfold Hid
    have hbb6 := newBelow hg6
    have hbl6 := hbox6.lt
    clear hone6 hnb6 hg6
    have hx6 := Lib.hid (Bx.of hbox6 (ho5.below hbb6))
    have h06 := h1.trans ((h5.trans (hbb6.mono h5.size)).mono h1.size)
    have hle : w.heap.size ≤ W1.heap.size := hB1.size
    have hle0 : W0.heap.size ≤ W1.heap.size := h1.size
    have hle5 : W1.heap.size ≤ W5.heap.size := h5.size
    clear hbox6 ho5 hbb6 h5 hbl6 h1 hB1
    generalize W1.heap.size = base at hx6 hle hle0 hle5
    generalize W5.heap.size = bx at hx6 hle5 ⊢
    go_wp2_with fail
    go_loopw [8, 9, 10, 11] (fun b' _ _ _ wr => ∃ (b : Nat) (u : Value), b ≤ p.bins.length ∧ b' = .int .i64 b ∧ Bx wr base bx 31 [] ⟨.slice (some ⟨gon, 0, none⟩) s.on.length con, k1, k2, u, k4, k5, k6, k7, k8⟩ (fb p s b) ∧ Below W0.heap.size W0 wr) (fun b' _ _ _ _ => p.bins.length - (intOf b').toNat)
    case atStart => exact ⟨0, k3, Nat.zero_le _, rfl, hx6.out, h06⟩
    case round =>
      clear hx6 h06
      obtain ⟨b, u, hb, rfl, hx, h0⟩ := hrel
      have hx' := Lib.hid hx
      clear hx
      have hB0 := hb0.trans (h0.mono hb0.size)
      obtain ⟨⟨y0, y1⟩, x0, x1, x2, x3, x4, x5, x6, hbz0, hbz1⟩ := hK.out wr (h0)
      by_cases hb1 : b < p.bins.length
      · have hbi : (b : Int) < (p.bins.length : Int) := by omega
        go_wp2_with fail
        clear y0 y1 x0 x1 x2 x3 x4 x5 x6 hbz0 hbz1
        have h0' := h0
        clear h0 hB0
        go_loopw [9, 10, 11] (fun g' _ _ wr => ∃ (g : Nat) (u : Value), g ≤ p.sizes.length ∧ ((p.bin b).front = false → g = 0) ∧ g' = .int .i64 g ∧ Bx wr base bx 31 [] ⟨.slice (some ⟨gon, 0, none⟩) s.on.length con, k1, k2, u, k4, k5, k6, k7, k8⟩ (fg p s b g) ∧ Below W0.heap.size W0 wr) (fun g' _ _ _ => p.sizes.length - (intOf g').toNat)
        case atStart => exact ⟨0, u, Nat.zero_le _, fun _ => rfl, rfl, hx'.out, h0'⟩
        case round =>
          clear hx' h0' u
          obtain ⟨g, u, hg, hfg, rfl, hx, h0⟩ := hrel
          have hx' := Lib.hid hx
          clear hx
          have hB0 := hb0.trans (h0.mono hb0.size)
          obtain ⟨⟨y0, y1⟩, x0, x1, x2, x3, x4, x5, x6, hbz0, hbz1⟩ := hK.out wr (h0)
          obtain ⟨ob, lb, e0, e1, e2, e3⟩ := (hBn.out wr hB0).at_.bin hb1
          change wr.cell? _ = some (.bool (p.bin b).front) at e0
          change wr.cell? _ = some (.int .i64 (p.bin b).low) at e2
          change wr.cell? _ = some (.int .i64 (p.bin b).high) at e3
          by_cases hg1 : g < p.sizes.length
          · have hgi : (g : Int) < (p.sizes.length : Int) := by omega
            cases hfr : (p.bin b).front
            · rw [hfr] at e0
              have hz := hfg hfr
              have hx2 := Lib.hid (show Bx wr base bx 31 [] ⟨.slice (some ⟨gon, 0, none⟩) s.on.length con, k1, k2, u, k4, k5, k6, k7, k8⟩ (fb p s (b + 1)) by rw [fb_no hfr]; rw [hz] at hx'; exact hx'.out)
              clear hz hfr hfg
              go_wp2_with fail
              clear y0 y1 x0 x1 x2 x3 x4 x5 x6 hbz0 hbz1
              clear e0 e1 e2 e3
              go_roundw
              case rel => exact ⟨b + 1, u, by omega, by go_num, hx2.out, h0⟩
              case measure => simp [intOf]; omega
            · rw [hfr] at e0
              have hFl := Lib.hid (fg_filled hc'.out hb1 hfr g hg)
              have hfr' := Lib.hid hfr
              have hTs := Lib.hid hFl.out.right.sane
              have hon := Lib.hid hFl.out.on
              obtain ⟨T, hT⟩ : ∃ T, fg p s b g = T := ⟨_, rfl⟩
              have hT' := Lib.hid hT
              rw [hT] at hx' hFl hTs hon
              clear hT hfr hfg
              have hbo : b < T.on.length := by rw [hTs.out.onLen]; exact hb1
              have hgr : g < (rowAt T.on b).length := by rw [hTs.out.rowLen hb1]; exact hg1
              have hboi : (b : Int) < (s.on.length : Int) := by rw [hon.out] at hbo; omega
              have hgri : (g : Int) < ((rowAt T.on b).length : Int) := by omega
              obtain ⟨gr, cr, lon, lgr, r0, rc⟩ := hx'.out.own.onCells hbo hgr rfl
              have lbx := hx'.out.lt
              have q1 := fun o d os => cells_wld (w := wr) (b := bx) lbx o d os
              have q2 := fun o d os => cells_wld (w := wr) (b := gon) lon o d os
              have q3 := fun o d os => cells_wld (w := wr) (b := gr) lgr o d os
              have q4 := fun o d os => cells_wld (w := wr) (b := w.heap.size) hbz1 o d os
              have q5 := fun o d os => cells_wld (w := wr) (b := ablk Ab) lb o d os
              have hV2 := Lib.hid (fun d os => (hx'.out.own.view hTs.out).up (below_wld wr d os) (below_wld wr d os).size)
              obtain ⟨c0, c1, c2, c3, c4, c5, c6⟩ := hx'.out.cells
              simp only at c0 c1 c2 c3 c4 c5 c6
              have v1 := hTs.out.cell hb1 hg1
              have v2 := coming_range hTs.out b g
              have hw1 : IntKind.i64.wrap (cell T.on b g + coming T b g) = cell T.on b g + coming T b g := IntWalk.i64_in _ (by omega)
              by_cases hl : cell T.on b g + coming T b g < (p.bin b).low
              · have hld : decide ((p.bin b).low ≤ cell T.on b g + coming T b g) = false := decide_eq_false (by omega)
                go_wp2_with fail
                refine wp_region_wld (by kernel_rfl) (by kernel_rfl) ?_
                repeat (go_big_quiet_step ((go_at_call 43; refine calls_wld (rComing _ _ p T b g (hV2.out _ _) hTs.out))))
                refine wpQuiet_nil ?_
                intro W2 hw'
                have hb2 := below_of_cls hw'
                clear hw'
                have h02 := h0.trans (hb2.mono h0.size)
                have hx2 := Lib.hid (hx'.out.below hb2)
                have hlk := Lib.hid hl
                clear q1 q2 q3 q4 q5 hV2 c0 c1 c2 c3 c4 c5 c6 r0 rc hw1 hld e0 e1 e2 e3 ob lb hl lon lgr lbx hb2
                clear y0 y1 x0 x1 x2 x3 x4 x5 x6 hbz0 hbz1
                clear h0 hB0 hx'
                go_wp2_with fail
                go_loopw [10, 11] (fun f' _ wr => ∃ (f : Nat) (u : Value), f ≤ p.bins.length ∧ f' = .int .i64 f ∧ Bx wr base bx 31 [] ⟨.slice (some ⟨gon, 0, none⟩) s.on.length con, k1, k2, u, k4, k5, k6, k7, k8⟩ (ff p s b g f) ∧ Below W0.heap.size W0 wr) (fun f' _ _ => p.bins.length - (intOf f').toNat)
                case atStart => exact ⟨0, u, Nat.zero_le _, rfl, by rw [ff_zero, hT'.out]; exact hx2.out, h02⟩
                case round =>
                  clear hx2 h02
                  obtain ⟨f, u, hf, rfl, hx, h0⟩ := hrel
                  have hx' := Lib.hid hx
                  clear hx
                  have hB0 := hb0.trans (h0.mono hb0.size)
                  obtain ⟨⟨y0, y1⟩, x0, x1, x2, x3, x4, x5, x6, hbz0, hbz1⟩ := hK.out wr (h0)
                  by_cases hf1 : f < p.bins.length
                  · have hfi : (f : Int) < (p.bins.length : Int) := by omega
                    obtain ⟨ob, lb, e0, _, _, _⟩ := (hBn.out wr hB0).at_.bin hf1
                    change wr.cell? _ = some (.bool (p.bin f).front) at e0
                    cases hff : (p.bin f).front
                    · rw [hff] at e0
                      have hFl2 := Lib.hid (ff_filled hc'.out hb1 hfr'.out hg1 f hf)
                      have hTs2 := Lib.hid hFl2.out.right.sane
                      have hon2 := Lib.hid hFl2.out.on
                      have hnx := Lib.hid (ff_behind (s := s) (b := b) (g := g) hff)
                      obtain ⟨U, hU⟩ : ∃ U, ff p s b g f = U := ⟨_, rfl⟩
                      rw [hU] at hx' hFl2 hTs2 hon2 hnx
                      clear hU hff
                      obtain ⟨Am, cm, hum⟩ := hx'.out.own.moves.isSlice
                      obtain rfl : u = .slice Am U.moves.length cm := hum
                      obtain ⟨c0, c1, c2, c3, c4, c5, c6⟩ := hx'.out.cells
                      simp only at c0 c1 c2 c3 c4 c5 c6
                      have hm8 := hTs2.out.moves8
                      by_cases h8 : 8 ≤ U.moves.length
                      · have h8i : (8 : Int) ≤ (U.moves.length : Int) := by omega
                        have hx3 := Lib.hid (show Bx wr base bx 31 [] ⟨.slice (some ⟨gon, 0, none⟩) s.on.length con, k1, k2, .slice Am U.moves.length cm, k4, k5, k6, k7, k8⟩ (ff p s b g (f + 1)) by rw [hnx.out, fill1_full h8]; exact hx'.out)
                        go_wp2_with fail
                        clear y0 y1 x0 x1 x2 x3 x4 x5 x6 hbz0 hbz1
                        clear c0 c1 c2 c3 c4 c5 c6 e0
                        go_roundw
                        case rel => exact ⟨f + 1, _, by omega, by go_num, hx3.out, h0⟩
                        case measure => simp [intOf]; omega
                      · have h8i : ¬ (8 : Int) ≤ (U.moves.length : Int) := by omega
                        go_wp2_with fail
                        clear e0 ob lb
                        obtain ⟨ob, lb, _, _, _, e3⟩ := (hBn.out wr hB0).at_.bin hb1
                        change wr.cell? _ = some (.int .i64 (p.bin b).high) at e3
                        obtain ⟨os, ls, rs⟩ := (hSz.out wr hB0).at_.int hg1
                        have hbo : b < U.on.length := by rw [hTs2.out.onLen]; exact hb1
                        have hgr : g < (rowAt U.on b).length := by rw [hTs2.out.rowLen hb1]; exact hg1
                        have hboi : (b : Int) < (s.on.length : Int) := by rw [hon2.out] at hbo; omega
                        have hgri : (g : Int) < ((rowAt U.on b).length : Int) := by omega
                        obtain ⟨gr, cr, lon, lgr, r0, rc⟩ := hx'.out.own.onCells hbo hgr rfl
                        have lbx := hx'.out.lt
                        have q1 := fun o d os => cells_wld (w := wr) (b := bx) lbx o d os
                        have q2 := fun o d os => cells_wld (w := wr) (b := gon) lon o d os
                        have q3 := fun o d os => cells_wld (w := wr) (b := gr) lgr o d os
                        have q4 := fun o d os => cells_wld (w := wr) (b := w.heap.size) hbz1 o d os
                        have q5 := fun o d os => cells_wld (w := wr) (b := ablk Ab) lb o d os
                        have q6 := fun o d os => cells_wld (w := wr) (b := ablk As) ls o d os
                        have hV2 := Lib.hid (fun d os => (hx'.out.own.view hTs2.out).up (below_wld wr d os) (below_wld wr d os).size)
                        have hP2 := Lib.hid (fun d os => hP'.out _ (hB0.trans ((below_wld wr d os).mono hB0.size)))
                        have v1 := hTs2.out.cell hb1 hg1
                        have v2 := coming_range hTs2.out b g
                        have v3 : 0 ≤ (p.bin b).high ∧ (p.bin b).high ≤ 200 := (right_bin hsn.out.plan hb1).2.2
                        have v4 := right_size hsn.out.plan hg1
                        have hw1 : IntKind.i64.wrap ((p.bin b).high - cell U.on b g) = (p.bin b).high - cell U.on b g := IntWalk.i64_in _ (by omega)
                        have hw2 : IntKind.i64.wrap ((p.bin b).high - cell U.on b g - coming U b g) = (p.bin b).high - cell U.on b g - coming U b g := IntWalk.i64_in _ (by omega)
                        have hz : (intAt p.sizes g == 0) = false := beq_eq_false_iff_ne.2 (by omega)
                        have hbb : 0 ≤ (b : Int) ∧ (b : Int) < p.bins.length := by omega
                        have hgg : 0 ≤ (g : Int) ∧ (g : Int) < p.sizes.length := by omega
                        have hff0 : 0 ≤ (f : Int) ∧ (f : Int) < p.bins.length := by omega
                        clear c3 hm8
                        have c3 := hx'.out.cells.2.2.2.1
                        simp only at c3
                        refine wp_region_wld (by kernel_rfl) (by kernel_rfl) ?_
                        repeat (go_big_quiet_step (first | (go_at_call 43; refine calls_wld (rComing _ _ p U b g (hV2.out _ _) hTs2.out)) | (go_at_call 44; refine calls_wld (rAvailOf _ _ p U f g (hV2.out _ _) hTs2.out hff0 hgg)) | (go_at_call 45; refine calls_wld (rFreeOf _ _ _ p U b (hP2.out _ _) (hV2.out _ _) hTs2.out hbb))))
                        refine wpQuiet_nil ?_
                        intro W3 hw'
                        have hb3 := below_of_cls hw'
                        clear hw'
                        rw [fill_wrap hTs2.out hb1, fillN_if]
                        have h03 := h0.trans (hb3.mono h0.size)
                        have hx3 := Lib.hid (hx'.out.below hb3)
                        clear q1 q2 q3 q4 q5 q6 hV2 hP2 c0 c1 c2 c3 c4 c5 c6 r0 rc hw1 hw2 e3 ob lb os ls rs lon lgr lbx hz hb3 hbo hboi hgri v1 v2 v3 v4
                        clear y0 y1 x0 x1 x2 x3 x4 x5 x6 hbz0 hbz1
                        clear h0 hB0 hx'
                        by_cases hpos : 0 < fillN p U b g f
                        · have hsm := Lib.hid (show ff p s b g (f + 1) = addMove U ⟨g, f, b, fillN p U b g f⟩ by rw [hnx.out, fill1_some h8 hpos])
                          obtain ⟨N, hN⟩ : ∃ N, fillN p U b g f = N := ⟨_, rfl⟩
                          rw [hN] at hsm hpos
                          rw [hN]
                          clear hN
                          have hmo := Lib.hid hx3.out.own.moves
                          have c3 : W3.cell? ⟨bx, 3, none⟩ = some (.slice Am U.moves.length cm) := hx3.out.cells.2.2.2.1
                          have lbx := hx3.out.lt
                          have hbsz : base ≤ W3.heap.size := by omega
                          go_wp2_with (refine wpList_push _ rfl (.tmp 120) (.tmp 126) 29 40 rfl base _ 4 32 Try.underlying29 infoMove rfl (by decide) (by decide) _ U.moves ⟨g, f, b, N⟩ rfl (hmo.out.alloc _) ⟨W3.heap.size, 0, none⟩ 1 rfl rfl (cells_new _ _ _) (oneMove _) (by omega) (by simp; omega) ?_; refine Hid.out ?_)
                          unfold Hid
                          intro v' w9 ho9 hg9 _ hb9
                          obtain ⟨A9, c9, hv9⟩ := ho9.isSlice
                          rw [List.length_append, List.length_singleton] at hv9
                          subst hv9
                          have hxa := hx3.out.below ((Below.refl _ W3).alloc (Nat.le_refl _) (.cells #[.int .i64 g, .int .i64 f, .int .i64 b, .int .i64 N] 40))
                          have hO9 := hxa.own.wroteMoves hg9 ho9
                          have hbrow : some bx ≠ (Value.slice Am U.moves.length cm).ownBlock := fun he => by
                            rcases hxa.own.moves.notBox hxa.boxAt.blk (by decide) with h | h
                            · simp only at h; rw [h] at he; cases he
                            · exact h he.symm
                          have hb9' := Lib.hid (hxa.boxAt.grown hg9 hbrow)
                          have hO9' := Lib.hid hO9
                          have h09 := (h03.alloc h03.size (.cells #[.int .i64 g, .int .i64 f, .int .i64 b, .int .i64 N] 40)).trans (hb9.mono hle0)
                          clear c3 hxa hO9 hbrow hg9 ho9 hmo hx3 hb9 h03
                          go_wp2_with (refine wp_st_moves' rfl (.tmp 128) (.tmp 127) rfl rfl A9 (U.moves.length + 1) c9 (V := ⟨.slice (some ⟨gon, 0, none⟩) s.on.length con, k1, k2, .slice Am U.moves.length cm, k4, k5, k6, k7, k8⟩) (V' := ⟨.slice (some ⟨gon, 0, none⟩) s.on.length con, k1, k2, .slice A9 (U.moves.length + 1) c9, k4, k5, k6, k7, k8⟩) (s' := { U with moves := U.moves ++ [⟨g, f, b, N⟩] }) (cs := []) (b := bx) (by rw [List.append_nil]; exact hb9'.out.blk) hO9'.out boxT rfl rfl rfl (fun w10 hx10 hst10 => ?_); refine Hid.out ?_)
                          unfold Hid
                          have h010 := h09.trans (hst10.below (B := W0.heap.size) (fun q hq => by omega) h09.size)
                          have hx10' := Lib.hid (show Bx w10 base bx 31 [] ⟨.slice (some ⟨gon, 0, none⟩) s.on.length con, k1, k2, .slice A9 (U.moves.length + 1) c9, k4, k5, k6, k7, k8⟩ (ff p s b g (f + 1)) by rw [hsm.out]; exact hx10)
                          clear hx10 hst10 h09 hb9' hO9'
                          go_wp2_with fail
                          go_roundw
                          case rel => exact ⟨f + 1, _, by omega, by go_num, hx10'.out, h010⟩
                          case measure => simp [intOf]; omega
                        · have hx4 := Lib.hid (show Bx W3 base bx 31 [] ⟨.slice (some ⟨gon, 0, none⟩) s.on.length con, k1, k2, .slice Am U.moves.length cm, k4, k5, k6, k7, k8⟩ (ff p s b g (f + 1)) by rw [hnx.out, fill1_none h8 hpos]; exact hx3.out)
                          clear hx3
                          go_wp2_with fail
                          go_roundw
                          case rel => exact ⟨f + 1, _, by omega, by go_num, hx4.out, h03⟩
                          case measure => simp [intOf]; omega
                    · rw [hff] at e0
                      have hx3 := Lib.hid (show Bx wr base bx 31 [] ⟨.slice (some ⟨gon, 0, none⟩) s.on.length con, k1, k2, u, k4, k5, k6, k7, k8⟩ (ff p s b g (f + 1)) by rw [ff_front hff]; exact hx'.out)
                      clear hff
                      go_wp2_with fail
                      clear y0 y1 x0 x1 x2 x3 x4 x5 x6 hbz0 hbz1
                      clear e0
                      go_roundw
                      case rel => exact ⟨f + 1, u, by omega, by go_num, hx3.out, h0⟩
                      case measure => simp [intOf]; omega
                  · obtain rfl : f = p.bins.length := by omega
                    have hx3 := Lib.hid (show Bx wr base bx 31 [] ⟨.slice (some ⟨gon, 0, none⟩) s.on.length con, k1, k2, u, k4, k5, k6, k7, k8⟩ (fg p s b (g + 1)) by rw [fg_lacks (by rw [hT'.out]; exact hlk.out)]; exact hx'.out)
                    go_wp2_with fail
                    clear y0 y1 x0 x1 x2 x3 x4 x5 x6 hbz0 hbz1
                    go_roundw
                    case rel => exact ⟨g + 1, u, by omega, (fun hh => absurd hh (by decide)), by go_num, hx3.out, h0⟩
                    case measure => simp [intOf]; omega
              · have hld : decide ((p.bin b).low ≤ cell T.on b g + coming T b g) = true := decide_eq_true (by omega)
                have hno := Lib.hid (show fg p s b (g + 1) = T by rw [← hT'.out]; exact fg_has (by rw [hT'.out]; exact hl))
                clear hl
                go_wp2_with fail
                refine wp_region_wld (by kernel_rfl) (by kernel_rfl) ?_
                repeat (go_big_quiet_step ((go_at_call 43; refine calls_wld (rComing _ _ p T b g (hV2.out _ _) hTs.out))))
                refine wpQuiet_nil ?_
                intro W2 hw'
                have hb2 := below_of_cls hw'
                clear hw'
                have h02 := h0.trans (hb2.mono h0.size)
                have hx2 := Lib.hid (show Bx W2 base bx 31 [] ⟨.slice (some ⟨gon, 0, none⟩) s.on.length con, k1, k2, u, k4, k5, k6, k7, k8⟩ (fg p s b (g + 1)) by rw [hno.out]; exact hx'.out.below hb2)
                clear q1 q2 q3 q4 q5 hV2 c0 c1 c2 c3 c4 c5 c6 r0 rc hw1 hld e0 e1 e2 e3 ob lb
                clear y0 y1 x0 x1 x2 x3 x4 x5 x6 hbz0 hbz1
                go_wp2_with fail
                go_roundw
                case rel => exact ⟨g + 1, u, by omega, (fun hh => absurd hh (by decide)), by go_num, hx2.out, h02⟩
                case measure => simp [intOf]; omega
          · obtain rfl : g = p.sizes.length := by omega
            have hfr : (p.bin b).front = true := by
              cases hh : (p.bin b).front
              · have := hfg hh; omega
              · rfl
            have hx2 := Lib.hid (show Bx wr base bx 31 [] ⟨.slice (some ⟨gon, 0, none⟩) s.on.length con, k1, k2, u, k4, k5, k6, k7, k8⟩ (fb p s (b + 1)) by rw [fb_yes hfr]; exact hx'.out)
            clear hfr hfg
            go_wp2_with fail
            clear y0 y1 x0 x1 x2 x3 x4 x5 x6 hbz0 hbz1
            clear e0 e1 e2 e3
            go_roundw
            case rel => exact ⟨b + 1, u, by omega, by go_num, hx2.out, h0⟩
            case measure => simp [intOf]; omega
      · obtain rfl : b = p.bins.length := by omega
        have hx2 := Lib.hid (show Bx wr base bx 31 [] ⟨.slice (some ⟨gon, 0, none⟩) s.on.length con, k1, k2, u, k4, k5, k6, k7, k8⟩ (fillS p s) by rw [← fb_end]; exact hx'.out)
        clear hx'
        have hbx9 := hR.out _ h0
        obtain ⟨b0, b1, b2, b3, b4, b5, b6⟩ := BoxAt.cells hx2.out.boxAt
        have hone9 := OwnSt.one hx2.out.own
        go_wp2_with (refine wpList_store_state rfl (.tmp 4) (.tmp 129) rfl rfl (w.heap.size + 1 + 1) nilSV (⟨.slice (some ⟨gon, 0, none⟩) s.on.length con, k1, k2, u, k4, k5, k6, k7, k8⟩ : SV) hbx9 rfl rfl hone9 (fun w9 hbox9 hg9 => ?_))
        have hO9 := OwnSt.keptBy hx2.out.own hg9 hbx9 (by decide) (by decide) (by decide) (by decide) (by decide) (by decide)
        obtain ⟨p0, p1, p2, p3, p4, p5, p6⟩ := BoxAt.cells hbox9
        have hfin9 : Below w.heap.size w w9 := Below.grown hB0 hg9 (Below.size hB0) (fun k hk => by injection hk with hk; omega)
        clear b0 b1 b2 b3 b4 b5 b6
        go_wp2_with fail
        exact bodyPost_ret (v := .tuple #[SV.val (⟨.slice (some ⟨gon, 0, none⟩) s.on.length con, k1, k2, u, k4, k5, k6, k7, k8⟩ : SV), .int .i64 0]) (by simp [results, Try.results15, go_sem, SV.val, p0, p1, p2, p3, p4, p5, p6]) rfl (actOk hfin.out (hO9.from_ hle) hfin9)
  · have hne : (checkState p s != 0) = true := by simpa using hc
    have hfin := Lib.hid (fill_bad hc)
    clear hc
    have hbx9 := hR.out _ h1
    go_wp2_with (refine wpList_store_state rfl (.tmp 4) (.tmp 17) rfl rfl (w.heap.size + 1 + 1) nilSV nilSV hbx9 rfl rfl rfl (fun w9 hbox9 hg9 => ?_))
    obtain ⟨p0, p1, p2, p3, p4, p5, p6⟩ := BoxAt.cells hbox9
    have hfin9 : Below w.heap.size w w9 := Below.grown hB1 hg9 (Below.size hB1) (fun k hk => by injection hk with hk; omega)
    go_wp2_with fail
    exact bodyPost_ret (v := .tuple #[nilSV.val, .int .i64 (checkState p s)]) (by simp [results, Try.results15, go_sem, SV.val, p0, p1, p2, p3, p4, p5, p6]) rfl (actErr hfin.out hfin9)
end Wh
namespace Wh
open Go Go.RowKit Go.Shelf Go.Proofs
attribute [local go_sem] run_indexAt_letter evL_tmp evL_const evL_func
attribute [local go_sem] Oper.semAt_some

section
variable {p : Plan} {s : State}
/-- Filled for the bins of a list. -/
def stX (p : Plan) (s : State) (pre : List (BinK p true)) : State := (pre.map Subtype.val).foldl (fun t b => (List.range p.sizes.length).foldl (fillGood p b) t) s
theorem stX_snoc (pre : List (BinK p true)) (x : BinK p true) : stX p s (pre ++ [x]) = (List.range p.sizes.length).foldl (fillGood p x.1) (stX p s pre) := by
  unfold stX
  rw [List.map_append, List.foldl_append]
  rfl
theorem stX_all : stX p s (kindsX p true p.bins.length) = fillS p s := by
  unfold stX
  rw [kindsX_val p true _ (Nat.le_refl _)]
  rfl
theorem stX_full {k : Nat} (hk : k ≤ p.bins.length) (h : 8 ≤ (stX p s (kindsX p true k)).moves.length) : fillS p s = stX p s (kindsX p true k) := by
  obtain ⟨r, hr⟩ := kindsX_pre p true p.bins.length k hk
  rw [← stX_all, hr]
  unfold stX at h ⊢
  rw [List.map_append, List.foldl_append]
  exact fillBins_full h p _
theorem stX_filled (h : checkState p s = 0) (pre : List (BinK p true)) : Filled p s (stX p s pre) :=
  foldl_inv (P := Filled p s) (fun t b hb ht => by
    obtain ⟨x, _, rfl⟩ := List.mem_map.1 hb
    exact filled_bin ht x.2.1 x.2.2) (filled_self h)
/-- .. and the goods ahead of g. -/
def gdX (p : Plan) (b : Nat) (t : State) (g : Nat) : State := (List.range g).foldl (fillGood p b) t
theorem gdX_succ (b : Nat) (t : State) (g : Nat) : gdX p b t (g + 1) = fillGood p b (gdX p b t g) g := by
  unfold gdX
  rw [List.range_succ, List.foldl_append]
  rfl
theorem gdX_full {b : Nat} {t : State} {g : Nat} (h : 8 ≤ (gdX p b t g).moves.length) : ∀ n, g ≤ n → gdX p b t n = gdX p b t g
  | 0, hn => by
    obtain rfl : g = 0 := by omega
    rfl
  | n + 1, hn => by
    by_cases he : g = n + 1
    · rw [he]
    · rw [gdX_succ, gdX_full h n (by omega), fillGood_full h]
theorem gdX_filled {t : State} {b : Nat} (h : Filled p s t) (hb : b < p.bins.length) (hf : (p.bin b).front = true) : ∀ g, g ≤ p.sizes.length → Filled p s (gdX p b t g)
  | 0, _ => h
  | g + 1, hg => by
    rw [gdX_succ]
    exact filled_good (gdX_filled h hb hf g (by omega)) hb (by omega) hf
/-- .. and out of the bins of a list. -/
def siX (p : Plan) (b g : Nat) (t : State) (pre : List (BinK p false)) : State := (pre.map Subtype.val).foldl (fun t f => fill1 p t b g f) t
theorem siX_snoc (b g : Nat) (t : State) (pre : List (BinK p false)) (x : BinK p false) : siX p b g t (pre ++ [x]) = fill1 p (siX p b g t pre) b g x.1 := by
  unfold siX
  rw [List.map_append, List.foldl_append]
  rfl
theorem siX_all {b g : Nat} {t : State} (h : cell t.on b g + coming t b g < (p.bin b).low) : fillGood p b t g = siX p b g t (kindsX p false p.bins.length) := by
  unfold siX fillGood
  rw [kindsX_val p false _ (Nat.le_refl _), if_pos h]
  rfl
theorem siX_full {b g k : Nat} {t : State} (hk : k ≤ p.bins.length) (h : 8 ≤ (siX p b g t (kindsX p false k)).moves.length) : siX p b g t (kindsX p false p.bins.length) = siX p b g t (kindsX p false k) := by
  obtain ⟨r, hr⟩ := kindsX_pre p false p.bins.length k hk
  rw [hr]
  unfold siX at h ⊢
  rw [List.map_append, List.foldl_append]
  generalize (kindsX p false k).map Subtype.val = l at h ⊢
  generalize l.foldl (fun t f => fill1 p t b g f) t = u at h ⊢
  clear hr
  induction r with
  | nil => rfl
  | cons x r ih =>
    rw [List.map_cons, List.foldl_cons, fill1_full h]
    exact ih
theorem siX_filled {t : State} {b g : Nat} (h : Filled p s t) (hb : b < p.bins.length) (hf : (p.bin b).front = true) (hg : g < p.sizes.length) (pre : List (BinK p false)) : Filled p s (siX p b g t pre) :=
  foldl_inv (P := Filled p s) (fun t f hm ht => by
    obtain ⟨x, _, rfl⟩ := List.mem_map.1 hm
    exact filled_one ht hb hg x.2.1 hf x.2.2) h
end

/-- What a loop over bins keeps: the state in its box, blocks that lie as they lay, all that is old. -/
def keepI (base bx : Nat) (V : Value → SV) (L : List (Nat × Obj)) (W0 : World) (T : State) (W : World) : Prop :=
  (∃ u, Bx W base bx 31 [] (V u) T) ∧ HeldDs L W ∧ Below W0.heap.size W0 W
theorem keepI_own {β : Type} {base bx : Nat} {V : Value → SV} {L : List (Nat × Obj)} {W0 : World} (T : β → State) {B : Nat} (hL : ∀ x ∈ L, x.1 < B) (hB : W0.heap.size ≤ B) : OwnFrom B (fun s W => keepI base bx V L W0 (T s) W) :=
  fun s X Y row hs hg hr => by
    obtain ⟨⟨u, h1⟩, h2, h3⟩ := hs
    exact ⟨⟨u, h1.noncell hg fun r e => (hr r e).2⟩, HeldDs.from_ hL s X Y row h2 hg hr, h3.grown hg h3.size (fun k hk => by have := (hr k hk).1; omega)⟩



theorem HeldDs.below {L : List (Nat × Obj)} {W W' : World} (h : HeldDs L W) (hb : Below W.heap.size W W') : HeldDs L W' := fun x hx => (hb.block x.1 (h.lt x hx)).trans (h x hx)
theorem KeepsFrom.weak {B B' : Nat} {W W' : World} (h : KeepsFrom B W W') (hB : B ≤ B') : KeepsFrom B' W W' := ⟨h.size, fun k o hk ho hc => h.same k o (Nat.le_trans hB hk) ho hc⟩
/-- What a round leaves: boxes, all below 'base', all that is no cells from B7 on. -/
structure Sides (L : List (Nat × Obj)) (base B7 : Nat) (Wo W : World) : Prop where
  held : HeldDs L W
  b : Below base Wo W
  k : KeepsFrom B7 Wo W
namespace Sides
variable {L : List (Nat × Obj)} {base B7 : Nat} {Wo W W' : World}
theorem refl (h : HeldDs L W) : Sides L base B7 W W := ⟨h, Below.refl _ _, KeepsFrom.refl _ _⟩
theorem trans {L' : List (Nat × Obj)} (h : Sides L base B7 Wo W) (h' : Sides L' base B7 W W') : Sides L' base B7 Wo W' := ⟨h'.held, h.b.trans h'.b, h.k.trans h'.k⟩
theorem below (h : Sides L base B7 Wo W) (hn : base ≤ Wo.heap.size) (hb : Below W.heap.size W W') : Sides L base B7 Wo W' := ⟨h.held.below hb, h.b.trans (hb.mono (Nat.le_trans hn h.k.size)), h.k.trans (keeps_below hb)⟩
theorem grown (h : Sides L base B7 Wo W) (hn : base ≤ Wo.heap.size) {row : Option Nat} (hg : W.grownBy W' row) (hr : ∀ r, row = some r → base ≤ r ∧ (∃ cs t sp, W.heap[r]? = some (.cells cs t sp)) ∧ ∀ x ∈ L, x.1 ≠ r) : Sides L base B7 Wo W' :=
  ⟨h.held.grown hg fun x hx he => (hr _ he.symm).2.2 x hx rfl, h.b.trans ((Below.refl _ _).grown hg (Nat.le_trans hn h.k.size) fun r e => (hr r e).1), h.k.trans (keeps_cells hg fun r e => (hr r e).2.1)⟩
theorem step (h : Sides L base B7 Wo W) (hn : base ≤ Wo.heap.size) {b : Nat} (hs : Step (· = b) W W') (hb : base ≤ b) (hc : ∃ cs t sp, W.heap[b]? = some (.cells cs t sp)) (hL : ∀ x ∈ L, x.1 ≠ b) : Sides L base B7 Wo W' := by
  refine ⟨fun x hx => hs.heap (h.held x hx) (hL x hx), h.b.trans (hs.below (fun q hq => by omega) (Nat.le_trans hn h.k.size)), h.k.trans ⟨hs.size, fun k o _ hk ho => hs.heap hk fun he => ?_⟩⟩
  subst he
  obtain ⟨cs, t, sp, hc⟩ := hc
  rw [hc] at hk
  injection hk with hk
  subst hk
  cases ho
theorem own {β : Type} {B : Nat} (hL : ∀ x ∈ L, x.1 < B) (hn : base ≤ Wo.heap.size) (hB : Wo.heap.size ≤ B) : OwnFrom B (fun (_ : β) W => Sides L base B7 Wo W) := fun s X Y row hs hg hr =>
  ⟨HeldDs.from_ hL s X Y row hs.held hg hr, ownFrom_below hn (Nat.le_trans hn hB) s X Y row hs.b hg hr, ownFrom_keepsFrom hB s X Y row hs.k hg hr⟩
end Sides
/-- .. with the state in its box. -/
def keepJ (base bx : Nat) (V : Value → SV) (L : List (Nat × Obj)) (B7 : Nat) (Wo : World) (T : State) (W : World) : Prop :=
  (∃ u, Bx W base bx 31 [] (V u) T) ∧ Sides L base B7 Wo W
theorem keepJ_own {β : Type} {base bx B7 : Nat} {V : Value → SV} {L : List (Nat × Obj)} {Wo : World} (T : β → State) {B : Nat} (hL : ∀ x ∈ L, x.1 < B) (hn : base ≤ Wo.heap.size) (hB : Wo.heap.size ≤ B) : OwnFrom B (fun s W => keepJ base bx V L B7 Wo (T s) W) :=
  fun s X Y row hs hg hr => by
    obtain ⟨⟨u, h1⟩, h2⟩ := hs
    exact ⟨⟨u, h1.noncell hg fun r e => (hr r e).2⟩, Sides.own hL hn hB s X Y row h2 hg hr⟩
/-- One element more, in a round. -/
theorem wpListIn_push {P : Program} (w : World) {F : Fence} {n : Nat} {α : Type} {enc : α → List Value} {ops : Array Oper} {rest : List Oper} {o : Oper} {a : Act} {Q : Exit → Act → World → Prop} (hgd : o.guard = none) (s x : Operand) (t e : TypeId)
    (ho : o.op = .call { callee := .builtin .append, args := #[s, x], argTypes := #[t, t] }) (base : Nat) (z : Value) (size bytes : Nat) (ht : P.underlying t = some (.slice e)) (hi : Elem P e z size bytes)
    (hzs : z.cells.size = size) (hsz : 0 < size) (hby : bytes ≤ 64) (v : Value) (l : List α) (y : α) (hs : a.eval s = v) (hown : Own enc size e w base v l)
    (ad : Addr) (c : Nat) (hx : a.eval x = .slice (some ad) 1 c) (hl : (enc y).length = size) (hnews : ∀ j u, (enc y)[j]? = some u → w.cell? (ad.add j) = some u) (h1 : ∀ u ∈ enc y, u.oneCell' = true)
    (hn : l.length ≤ 1000000) (hbase : base ≤ w.heap.size)
    (h : ∀ v' w', Own enc size e w' base v' (l ++ [y]) → w.grownBy w' v.ownBlock → Below base w w' → wpListIn F n P ops Q rest (a.put o.dst v') w') :
    wpListIn F n P ops Q (o :: rest) a w := by
  obtain ⟨i, hi, hz, hsize, hbytes⟩ := hi
  have hb : (l.length + 1) * bytes ≤ 140737488355328 := Nat.le_trans (Nat.mul_le_mul (show l.length + 1 ≤ 1000001 by omega) hby) (by decide)
  refine wpListIn_append_own w hgd s x t ho base e i z size bytes ht hi hz hsize hbytes hzs hsz v l.length _ hs hown ad 1 c (enc y) hx (by rw [hl, Nat.one_mul]) hnews h1 (by unfold maxLen; omega) hb hbase ?_
  intro v' w' h2 h3 _
  refine h v' w' ?_ h3 ((Below.refl _ _).grown h3 hbase fun k hk => (World.ownsRow.lt hown k hk).1)
  unfold Own
  rw [List.length_append, List.flatMap_append]
  simpa using h2
end Wh
