/- Texts of the claim, joined: RecvB. -/
import Derived.StillTailTactics
import Derived.Test.YtnjgkhcnialplaaP38
import Derived.Test.YtnjgkhcnialplaaP40
namespace Wh
open Go Go.RowKit Go.Shelf Go.Proofs
attribute [local go_sem] run_indexAt_letter

set_option maxHeartbeats 8000000 in
set_option maxRecDepth 100000 in
theorem rReceiveOf (w : World) (v vs : Value) (p : Plan) (s : State) (b g n : Int) (hp : PlanV w w.heap.size v p) (hv : StateV w w.heap.size vs s) :
    Calls Try.prog 34 #[v, vs, .int .i64 b, .int .i64 g, .int .i64 n] w (ActPost (receive p s b g n) w) := by
  obtain ⟨Ab, cb, As, cs, rfl, hP', hBn, hSz, hlb, hls⟩ := openPl hp
  obtain ⟨A0, c0, A1, c1, A2, c2, A3, c3, A4, c4, A5, c5, A6, c6, rfl, hV, hN, hO, hH, hM, hI, hU, hX, hl0, hl1, hl2, hl3, hl4, hl5, hl6⟩ := openOne hv
  go_enter Try.func34, Try.ntmps34
  go_wp2_with fail
  obtain ⟨W0, hW0, hb0, hsz0, hsz1, hsE, hK, hR⟩ := boxesAct w p s Ab cb As cs A0 c0 A1 c1 A2 c2 A3 c3 A4 c4 A5 c5 A6 c6
  rw [hW0]
  clear hW0
  obtain ⟨⟨y0, y1⟩, x0, x1, x2, x3, x4, x5, x6, hbz0, hbz1⟩ := hK.out W0 (Below.refl W0.heap.size W0)
  go_wp2_with fail
  clear y0 y1 x0 x1 x2 x3 x4 x5 x6 hbz0 hbz1
  refine (rCheckState _ _ _ p s (hP'.out _ hb0) (hV.out _ hb0)).mono ?_
  rintro e W1 ⟨rfl, h1⟩
  have hB1 := hb0.trans (h1.mono hb0.size)
  obtain ⟨⟨y0, y1⟩, x0, x1, x2, x3, x4, x5, x6, hbz0, hbz1⟩ := hK.out W1 (h1)
  by_cases hc : checkState p s = 0
  · have hc' := Lib.hid hc
    have hsn := Lib.hid (checkState_zero.1 hc).1
    rw [hc]
    clear hc
    go_wp2_with fail
    clear y0 y1 x0 x1 x2 x3 x4 x5 x6 hbz0 hbz1
    have hcnt := hsn.out.counts
    refine (rIsBin _ _ p b (hP'.out _ hB1) (by omega)).mono ?_
    rintro e W2 ⟨rfl, h2⟩
    have h02 := h1.trans (h2.mono h1.size)
    have hB2 := hb0.trans (h02.mono hb0.size)
    obtain ⟨⟨y0, y1⟩, x0, x1, x2, x3, x4, x5, x6, hbz0, hbz1⟩ := hK.out W2 (h02)
    cases hth : isBin p b
    · have hfin := Lib.hid (receive_range (g := g) (n := n) hc'.out (by rw [hth]; rfl))
      clear hth
      have hbx9 := hR.out _ h02
      go_wp2_with (refine wpList_store_state rfl (.tmp 10) (.tmp 36) rfl rfl (w.heap.size + 1 + 1) nilSV nilSV hbx9 rfl rfl rfl (fun w9 hbox9 hg9 => ?_))
      obtain ⟨p0, p1, p2, p3, p4, p5, p6⟩ := BoxAt.cells hbox9
      have hfin9 : Below w.heap.size w w9 := Below.grown hB2 hg9 (Below.size hB2) (fun k hk => by injection hk with hk; omega)
      go_wp2_with fail
      exact bodyPost_ret (v := .tuple #[nilSV.val, .int .i64 3]) (by simp [results, Try.results34, go_sem, SV.val, p0, p1, p2, p3, p4, p5, p6]) rfl (actErr hfin.out hfin9)
    · have hbb := Lib.hid (isBin_iff.1 hth)
      have hth0 := Lib.hid hth
      clear hth
      go_wp2_with fail
      clear y0 y1 x0 x1 x2 x3 x4 x5 x6 hbz0 hbz1
      refine (rIsGood _ _ p g (hP'.out _ hB2) (by omega)).mono ?_
      rintro e W8 ⟨rfl, h8⟩
      have h08 := h02.trans (h8.mono h02.size)
      have hB8 := hb0.trans (h08.mono hb0.size)
      obtain ⟨⟨y0, y1⟩, x0, x1, x2, x3, x4, x5, x6, hbz0, hbz1⟩ := hK.out W8 (h08)
      cases hth : isGood p g
      · have hfin := Lib.hid (receive_range (n := n) hc'.out (by rw [hth0.out, hth]; rfl))
        clear hth
        have hbx9 := hR.out _ h08
        go_wp2_with (refine wpList_store_state rfl (.tmp 10) (.tmp 36) rfl rfl (w.heap.size + 1 + 1) nilSV nilSV hbx9 rfl rfl rfl (fun w9 hbox9 hg9 => ?_))
        obtain ⟨p0, p1, p2, p3, p4, p5, p6⟩ := BoxAt.cells hbox9
        have hfin9 : Below w.heap.size w w9 := Below.grown hB8 hg9 (Below.size hB8) (fun k hk => by injection hk with hk; omega)
        go_wp2_with fail
        exact bodyPost_ret (v := .tuple #[nilSV.val, .int .i64 3]) (by simp [results, Try.results34, go_sem, SV.val, p0, p1, p2, p3, p4, p5, p6]) rfl (actErr hfin.out hfin9)
      have hth' := Lib.hid (show (isBin p b && isGood p g) = true by rw [hth0.out, hth]; rfl)
      have hgg := Lib.hid (isGood_iff.1 hth)
      clear hth
      go_wp2_with fail
      clear y0 y1 x0 x1 x2 x3 x4 x5 x6 hbz0 hbz1
      refine (rWithin n 1 200 _).mono ?_
      rintro e w' ⟨rfl, rfl⟩
      obtain ⟨⟨y0, y1⟩, x0, x1, x2, x3, x4, x5, x6, hbz0, hbz1⟩ := hK.out W8 (h08)
      cases hwn : within n 1 200
      · have hfin := Lib.hid (receive_range (b := b) (g := g) (n := n) hc'.out (by rw [hwn, Bool.and_false]))
        clear hwn
        have hbx9 := hR.out _ h08
        go_wp2_with (refine wpList_store_state rfl (.tmp 10) (.tmp 36) rfl rfl (w.heap.size + 1 + 1) nilSV nilSV hbx9 rfl rfl rfl (fun w9 hbox9 hg9 => ?_))
        obtain ⟨p0, p1, p2, p3, p4, p5, p6⟩ := BoxAt.cells hbox9
        have hfin9 : Below w.heap.size w w9 := Below.grown hB8 hg9 (Below.size hB8) (fun k hk => by injection hk with hk; omega)
        go_wp2_with fail
        exact bodyPost_ret (v := .tuple #[nilSV.val, .int .i64 3]) (by simp [results, Try.results34, go_sem, SV.val, p0, p1, p2, p3, p4, p5, p6]) rfl (actErr hfin.out hfin9)
      · have hwn' := Lib.hid hwn
        obtain ⟨hn1, hn2⟩ := within_iff.1 hwn
        clear hwn
        have hall := Lib.hid (show (isBin p b && isGood p g && within n 1 200) = true by rw [hth'.out, hwn'.out]; rfl)
        have hb1 : 0 ≤ b := hbb.out.1
        have hb2 : b < (s.on.length : Int) := by rw [hsn.out.onLen]; exact hbb.out.2
        have hg1 : 0 ≤ g := hgg.out.1
        have hg2 : g < (p.sizes.length : Int) := hgg.out.2
        have hbl : b.toNat < s.on.length := by omega
        have hgs : g.toNat < p.sizes.length := by omega
        have hgl : g.toNat < (rowAt s.on b.toNat).length := by rw [hsn.out.rowLen (by have := hbb.out; omega)]; omega
        have hgr : g < ((rowAt s.on b.toNat).length : Int) := by omega
        have hgi : g < (s.inn.length : Int) := by rw [hsn.out.inn.1]; omega
        obtain ⟨z1, z2⟩ := right_size hsn.out.plan hgs
        have hm1 := mul_range (a := n) (b := intAt p.sizes g.toNat) (by omega) ⟨z1, z2⟩
        have hw1 : IntKind.i64.wrap (n * intAt p.sizes g.toNat) = n * intAt p.sizes g.toNat := IntWalk.i64_in _ (by omega)
        obtain ⟨os0, ls0, rs0⟩ := (hSz.out W8 hB8).at_.int hgs
        have q0 := fun o d os => cells_wld (w := W8) (b := w.heap.size) hbz1 o d os
        have q1 := fun o d os => cells_wld (w := W8) (b := w.heap.size + 1) hbz0 o d os
        have q2 := fun o d os => cells_wld (w := W8) (b := ablk As) ls0 o d os
        have hP2 := Lib.hid (fun d os => hP'.out _ (hB8.trans ((below_wld W8 d os).mono hB8.size)))
        have hV2 := Lib.hid (fun d os => hV.out _ (hB8.trans ((below_wld W8 d os).mono hB8.size)))
        by_cases hfu : free p s b < n * intAt p.sizes g.toNat
        · have hfin := Lib.hid (receive_full (n := n) hc'.out hall.out hfu)
          go_wp2_with fail
          refine wp_region_wld (by kernel_rfl) (by kernel_rfl) ?_
          repeat (go_big_quiet_step ((go_at_call 30; refine calls_wld (rFreeOf _ _ _ p s b (hP2.out _ _) (hV2.out _ _) hsn.out hbb.out))))
          refine wpQuiet_nil ?_
          intro W3 hw'
          have hb3 := below_of_cls hw'
          clear hw'
          have h03 := h08.trans (hb3.mono h08.size)
          have hB3 := hb0.trans (h03.mono hb0.size)
          have hbx9 := hR.out _ h03
          go_wp2_with (refine wpList_store_state rfl (.tmp 10) (.tmp 49) rfl rfl (w.heap.size + 1 + 1) nilSV nilSV hbx9 rfl rfl rfl (fun w9 hbox9 hg9 => ?_))
          obtain ⟨p0, p1, p2, p3, p4, p5, p6⟩ := BoxAt.cells hbox9
          have hfin9 : Below w.heap.size w w9 := Below.grown hB3 hg9 (Below.size hB3) (fun k hk => by injection hk with hk; omega)
          go_wp2_with fail
          exact bodyPost_ret (v := .tuple #[nilSV.val, .int .i64 5]) (by simp [results, Try.results34, go_sem, SV.val, p0, p1, p2, p3, p4, p5, p6]) rfl (actErr hfin.out hfin9)
        · have hfu' : n * intAt p.sizes g.toNat ≤ free p s b := by omega
          go_wp2_with fail
          refine wp_region_wld (by kernel_rfl) (by kernel_rfl) ?_
          repeat (go_big_quiet_step ((go_at_call 30; refine calls_wld (rFreeOf _ _ _ p s b (hP2.out _ _) (hV2.out _ _) hsn.out hbb.out))))
          refine wpQuiet_nil ?_
          intro W3 hw'
          have hb3 := below_of_cls hw'
          clear hw'
          have h03 := h08.trans (hb3.mono h08.size)
          have hB3 := hb0.trans (h03.mono hb0.size)
          clear q0 q1 q2 hP2 hV2 hw1 rs0 os0 ls0
          clear y0 y1 x0 x1 x2 x3 x4 x5 x6 hbz0 hbz1
          obtain ⟨⟨y0, y1⟩, x0, x1, x2, x3, x4, x5, x6, hbz0, hbz1⟩ := hK.out W3 (h03)
          obtain ⟨Ar, cr, or0, lr0, rr0, hrow⟩ := (hN.out W3 hB3).row hbl
          obtain ⟨or1, lr1, rr1⟩ := hrow.at_.int hgl
          obtain ⟨oi, li, ri⟩ := (hI.out W3 hB3).at_.int (i := g.toNat) (by omega)
          have hcl : intAt (rowAt s.on b.toNat) g.toNat = cell s.on b.toNat g.toNat := rfl
          rw [hcl] at rr1
          clear hcl
          have t1 := hsn.out.cell (b := b.toNat) (g := g.toNat) (by have := hbb.out; omega) hgs
          have t2 := coming_range hsn.out b g
          have t3 := hsn.out.inn.2 hgs
          have hw1 : IntKind.i64.wrap (cell s.on b.toNat g.toNat + coming s b g) = cell s.on b.toNat g.toNat + coming s b g := IntWalk.i64_in _ (by omega)
          have hw2 : IntKind.i64.wrap (cell s.on b.toNat g.toNat + coming s b g + n) = cell s.on b.toNat g.toNat + coming s b g + n := IntWalk.i64_in _ (by omega)
          have hw3 : IntKind.i64.wrap (intAt s.inn g.toNat + n) = intAt s.inn g.toNat + n := IntWalk.i64_in _ (by omega)
          have q1 := fun o d os => cells_wld (w := W3) (b := w.heap.size + 1) hbz0 o d os
          have q2 := fun o d os => cells_wld (w := W3) (b := ablk A0) lr0 o d os
          have q3 := fun o d os => cells_wld (w := W3) (b := ablk Ar) lr1 o d os
          have hV2 := Lib.hid (fun d os => hV.out _ (hB3.trans ((below_wld W3 d os).mono hB3.size)))
          have q4 := fun o d os => cells_wld (w := W3) (b := ablk A4) li o d os
          by_cases hm : 200 < cell s.on b.toNat g.toNat + coming s b g + n
          · have hfin := Lib.hid (receive_many (n := n) hc'.out hall.out hfu' (.inl hm))
            go_wp2_with fail
            refine wp_region_wld (by kernel_rfl) (by kernel_rfl) ?_
            repeat (go_big_quiet_step ((go_at_call 67; refine calls_wld (rComing _ _ p s b g (hV2.out _ _) hsn.out))))
            refine wpQuiet_nil ?_
            intro W4 hw'
            have hb4 := below_of_cls hw'
            clear hw'
            have h04 := h03.trans (hb4.mono h03.size)
            have hB4 := hb0.trans (h04.mono hb0.size)
            have hbx9 := hR.out _ h04
            go_wp2_with (refine wpList_store_state rfl (.tmp 10) (.tmp 76) rfl rfl (w.heap.size + 1 + 1) nilSV nilSV hbx9 rfl rfl rfl (fun w9 hbox9 hg9 => ?_))
            obtain ⟨p0, p1, p2, p3, p4, p5, p6⟩ := BoxAt.cells hbox9
            have hfin9 : Below w.heap.size w w9 := Below.grown hB4 hg9 (Below.size hB4) (fun k hk => by injection hk with hk; omega)
            go_wp2_with fail
            exact bodyPost_ret (v := .tuple #[nilSV.val, .int .i64 2]) (by simp [results, Try.results34, go_sem, SV.val, p0, p1, p2, p3, p4, p5, p6]) rfl (actErr hfin.out hfin9)
          · have hm' : cell s.on b.toNat g.toNat + coming s b g + n ≤ 200 := by omega
            have hdec := decide_eq_false hm
            clear hm
            by_cases hi : 1048576 < intAt s.inn g.toNat + n
            · have hfin := Lib.hid (receive_many (n := n) hc'.out hall.out hfu' (.inr hi))
              go_wp2_with fail
              refine wp_region_wld (by kernel_rfl) (by kernel_rfl) ?_
              repeat (go_big_quiet_step ((go_at_call 67; refine calls_wld (rComing _ _ p s b g (hV2.out _ _) hsn.out))))
              refine wpQuiet_nil ?_
              intro W4 hw'
              have hb4 := below_of_cls hw'
              clear hw'
              have h04 := h03.trans (hb4.mono h03.size)
              have hB4 := hb0.trans (h04.mono hb0.size)
              have hbx9 := hR.out _ h04
              go_wp2_with (refine wpList_store_state rfl (.tmp 10) (.tmp 76) rfl rfl (w.heap.size + 1 + 1) nilSV nilSV hbx9 rfl rfl rfl (fun w9 hbox9 hg9 => ?_))
              obtain ⟨p0, p1, p2, p3, p4, p5, p6⟩ := BoxAt.cells hbox9
              have hfin9 : Below w.heap.size w w9 := Below.grown hB4 hg9 (Below.size hB4) (fun k hk => by injection hk with hk; omega)
              go_wp2_with fail
              exact bodyPost_ret (v := .tuple #[nilSV.val, .int .i64 2]) (by simp [results, Try.results34, go_sem, SV.val, p0, p1, p2, p3, p4, p5, p6]) rfl (actErr hfin.out hfin9)
            · have hi' : intAt s.inn g.toNat + n ≤ 1048576 := by omega
              clear hi
              have hfin := Lib.hid (receive_ok (n := n) hc'.out hall.out hfu' hm' hi')
              go_wp2_with fail
              refine wp_region_wld (by kernel_rfl) (by kernel_rfl) ?_
              repeat (go_big_quiet_step ((go_at_call 67; refine calls_wld (rComing _ _ p s b g (hV2.out _ _) hsn.out))))
              refine wpQuiet_nil ?_
              intro W4 hw'
              have hb4 := below_of_cls hw'
              clear hw'
              have h04 := h03.trans (hb4.mono h03.size)
              have hB4 := hb0.trans (h04.mono hb0.size)
              clear q1 q2 q3 q4 hV2 hw1 hw2
              clear y0 y1 x0 x1 x2 x3 x4 x5 x6 hbz0 hbz1
              obtain ⟨⟨y0, y1⟩, x0, x1, x2, x3, x4, x5, x6, hbz0, hbz1⟩ := hK.out W4 (h04)
              clear rr0 rr1 ri
              go_wp2_with fail
              clear y0 y1 x0 x1 x2 x3 x4 x5 x6 hbz0 hbz1
              refine (rOwnState _ _ p s (hV.out _ hB4) hsn.out).mono ?_
              rintro e W5 ⟨_, rfl, ⟨V5, rfl, ho5⟩, h5⟩
              have hone6 := (ho5).one
              have hnb6 := newBox (W5)
              go_wp2_with (refine wpList_store_state rfl (.tmp 13) (.tmp 78) rfl rfl (World.heap (W5)).size nilSV V5 hnb6 rfl rfl hone6 (fun w6 hbox6 hg6 => ?_); refine Hid.out ?_)
              unfold Hid
              have hbb6 := newBelow hg6
              have hbl6 := hbox6.lt
              clear hone6 hnb6 hg6
              have h06 := h04.trans ((h5.trans (hbb6.mono h5.size)).mono h04.size)
              have hB6 := hb0.trans (h06.mono hb0.size)
              have hle4 : w.heap.size ≤ W4.heap.size := hB4.size
              have hle04 : W0.heap.size ≤ W4.heap.size := h04.size
              have ho6 := (ho5.below hbb6).drew
              have hbox6d : BoxAt w6.drew W5.heap.size V5 := hbox6
              have h06d := h06.drew
              have hB6d := hB6.drew
              obtain ⟨go, co, cur0, gr, cr2, cur, e1, f1, f2, f3, e2, f4, f5, f6⟩ := ho6.onAt hbl hgl
              have hx0 : w6.cell? ⟨W5.heap.size, 0, none⟩ = _ := hbox6.cells.1
              rw [e1] at hx0
              have f3' : w6.cell? ⟨go, b.toNat, none⟩ = _ := f3
              have f6' : w6.cell? ⟨gr, g.toNat, none⟩ = _ := f6
              have hf := f5.frozen g.toNat
              have hst := ho6.setOn hbl hgl e2 (cell s.on b.toNat g.toNat + n)
              have hbox7 := hbox6d.off hst.2 f5 (by decide)
              have hw4 : IntKind.i64.wrap (cell s.on b.toNat g.toNat + n) = cell s.on b.toNat g.toNat + n := IntWalk.i64_in _ (by omega)
              have h07 := h06d.setCell (p := ⟨gr, g.toNat, none⟩) (Nat.le_trans hle04 f4) (.int .i64 (cell s.on b.toNat g.toNat + n))
              have hB7 := hB6d.setCell (p := ⟨gr, g.toNat, none⟩) (Nat.le_trans hle4 f4) (.int .i64 (cell s.on b.toNat g.toNat + n))
              go_wp2_with fail
              go_still_tail 17, (by kernel_rfl)
              change wpList _ _ _ _ _ w6.drew
              refine wpList_store_int rfl (.tmp 95) (.tmp 94) rfl rfl gr g.toNat _ _ rfl rfl f6 hf (fun w7 hw7 => ?_)
              rw [hw7] at hst hbox7 h07 hB7
              clear hw7 hw4 hx0 hf f2 f3 f5 f6 f3' f6' e1 e2 ho6 hbox6 hbox6d
              refine wpList_nil ?_
              have ho7 : OwnSt w7 W4.heap.size V5 { s with on := setCell s.on b.toNat g.toNat (cell s.on b.toNat g.toNat + n) } := hst.1
              have hgil : g.toNat < s.inn.length := by omega
              have ho7d := ho7.drew
              have hbox7d : BoxAt w7.drew W5.heap.size V5 := hbox7
              obtain ⟨gi, ci, curi, e3, k1, k2, k3⟩ := OwnSt.intAtOwn (l := s.inn) ho7d.inn hgil
              have hx4 : w7.cell? ⟨W5.heap.size, 4, none⟩ = _ := hbox7.cells.2.2.2.2.1
              rw [e3] at hx4
              have k3' : w7.cell? ⟨gi, g.toNat, none⟩ = _ := k3
              have hfi := k2.frozen g.toNat
              have hst2 := ho7d.setInn hgil e3 (intAt s.inn g.toNat + n)
              have hbox8 := hbox7d.off hst2.2 k2 (by decide)
              have h09 := h07.drew.setCell (p := ⟨gi, g.toNat, none⟩) (Nat.le_trans hle04 k1) (.int .i64 (intAt s.inn g.toNat + n))
              have hB9 := hB7.drew.setCell (p := ⟨gi, g.toNat, none⟩) (Nat.le_trans hle4 k1) (.int .i64 (intAt s.inn g.toNat + n))
              go_wp2_with fail
              go_still_tail 11, (by kernel_rfl)
              change wpList _ _ _ _ _ w7.drew
              refine wpList_store_int rfl (.tmp 106) (.tmp 105) rfl rfl gi g.toNat _ _ rfl rfl k3 hfi (fun w8 hw8 => ?_)
              rw [hw8] at hst2 hbox8 h09 hB9
              clear hw8 hx4 hfi k2 k3 k3' e3
              refine wpList_nil ?_
              have ho8 : OwnSt w8 W4.heap.size V5 { s with on := setCell s.on b.toNat g.toNat (cell s.on b.toNat g.toNat + n), inn := s.inn.set g.toNat (intAt s.inn g.toNat + n) } := hst2.1
              have ho8' := Lib.hid ho8
              have hbox8' := Lib.hid hbox8
              clear hst hst2 ho7 ho7d ho8 hbox7 hbox7d hbox8 ho5
              have hbx9 := hR.out _ h09
              obtain ⟨b0, b1, b2, b3, b4, b5, b6⟩ := BoxAt.cells hbox8'.out
              have hone9 := OwnSt.one ho8'.out
              go_wp2_with (refine wpList_store_state rfl (.tmp 10) (.tmp 107) rfl rfl (w.heap.size + 1 + 1) nilSV V5 hbx9 rfl rfl hone9 (fun w9 hbox9 hg9 => ?_))
              have hO9 := OwnSt.keptBy ho8'.out hg9 hbx9 (by decide) (by decide) (by decide) (by decide) (by decide) (by decide)
              obtain ⟨p0, p1, p2, p3, p4, p5, p6⟩ := BoxAt.cells hbox9
              have hfin9 : Below w.heap.size w w9 := Below.grown hB9 hg9 (Below.size hB9) (fun k hk => by injection hk with hk; omega)
              clear b0 b1 b2 b3 b4 b5 b6
              go_wp2_with fail
              exact bodyPost_ret (v := .tuple #[SV.val V5, .int .i64 0]) (by simp [results, Try.results34, go_sem, SV.val, p0, p1, p2, p3, p4, p5, p6]) rfl (actOk hfin.out (hO9.from_ hle4) hfin9)
  · have hne : (checkState p s != 0) = true := by simpa using hc
    have hfin := Lib.hid (receive_bad (b := b) (g := g) (n := n) hc)
    clear hc
    have hbx9 := hR.out _ h1
    go_wp2_with (refine wpList_store_state rfl (.tmp 10) (.tmp 19) rfl rfl (w.heap.size + 1 + 1) nilSV nilSV hbx9 rfl rfl rfl (fun w9 hbox9 hg9 => ?_))
    obtain ⟨p0, p1, p2, p3, p4, p5, p6⟩ := BoxAt.cells hbox9
    have hfin9 : Below w.heap.size w w9 := Below.grown hB1 hg9 (Below.size hB1) (fun k hk => by injection hk with hk; omega)
    go_wp2_with fail
    exact bodyPost_ret (v := .tuple #[nilSV.val, .int .i64 (checkState p s)]) (by simp [results, Try.results34, go_sem, SV.val, p0, p1, p2, p3, p4, p5, p6]) rfl (actErr hfin.out hfin9)
end Wh
