/- Texts of the claim, joined: RecvA, RecvC. -/
import Derived.Test.YtfhfkijmebhgmaaGreatQ13
import Derived.Test.YtfhfkijmebhgmaaGreatQ14
import Derived.Test.YtfhfkijmebhgmaaGreatQ04
import Derived.Test.YtfhfkijmebhgmaaGreatQ08
import Derived.Test.YtfhfkijmebhgmaaGreatQ10
namespace Wh
open Go Go.RowKit Go.Shelf Go.Proofs
attribute [local go_sem] run_indexAt_letter

section
variable {p : Plan} {s : State} {b g n : Int}
theorem receive_bad (h : checkState p s ≠ 0) : receive p s b g n = (dState, checkState p s) := by unfold receive; rw [if_pos h]
theorem receive_range (h : checkState p s = 0) (h2 : (isBin p b && isGood p g && within n 1 200) = false) : receive p s b g n = (dState, 3) := by
  unfold receive
  rw [if_neg (fun hn => hn h), h2]; rfl
theorem receive_full (h : checkState p s = 0) (h2 : (isBin p b && isGood p g && within n 1 200) = true) (h3 : free p s b < n * intAt p.sizes g.toNat) : receive p s b g n = (dState, 5) := by
  unfold receive
  rw [if_neg (fun hn => hn h), h2, if_neg (by simp), if_pos h3]
theorem receive_many (h : checkState p s = 0) (h2 : (isBin p b && isGood p g && within n 1 200) = true) (h3 : n * intAt p.sizes g.toNat ≤ free p s b) (h4 : 200 < cell s.on b.toNat g.toNat + coming s b g + n ∨ 1048576 < intAt s.inn g.toNat + n) : receive p s b g n = (dState, 2) := by
  unfold receive
  rw [if_neg (fun hn => hn h), h2, if_neg (by simp), if_neg (by omega), if_pos h4]
theorem receive_ok (h : checkState p s = 0) (h2 : (isBin p b && isGood p g && within n 1 200) = true) (h3 : n * intAt p.sizes g.toNat ≤ free p s b) (h4 : cell s.on b.toNat g.toNat + coming s b g + n ≤ 200) (h5 : intAt s.inn g.toNat + n ≤ 1048576) :
    receive p s b g n = ({ s with on := setCell s.on b.toNat g.toNat (cell s.on b.toNat g.toNat + n), inn := s.inn.set g.toNat (intAt s.inn g.toNat + n) }, 0) := by
  unfold receive
  rw [if_neg (fun hn => hn h), h2, if_neg (by simp), if_neg (by omega), if_neg (by omega)]
end

set_option maxHeartbeats 8000000 in
set_option maxRecDepth 100000 in
theorem recvReceive (w : World) (v vs : Value) (p : Plan) (s : State) (b g n : Int) (hp : PlanV w w.heap.size v p) (hv : StateV w w.heap.size vs s) :
    Calls Tryz.prog 44 #[v, vs, .int .i64 b, .int .i64 g, .int .i64 n] w (ActPost (receive p s b g n) w) := by
  obtain ⟨Ab, cb, As, cs, rfl, hP', hBn, hSz, hlb, hls⟩ := openPl hp
  obtain ⟨A0, c0, A1, c1, A2, c2, A3, c3, A4, c4, A5, c5, A6, c6, rfl, hV, hN, hO, hH, hM, hI, hU, hX, hl0, hl1, hl2, hl3, hl4, hl5, hl6⟩ := openOne hv
  go_enter Tryz.func44, Tryz.ntmps44
  go_wp2_with fail
  obtain ⟨W0, hW0, hb0, hsz0, hsz1, hsE, hK, hR⟩ := boxesAct w p s Ab cb As cs A0 c0 A1 c1 A2 c2 A3 c3 A4 c4 A5 c5 A6 c6
  rw [hW0]
  clear hW0
  obtain ⟨⟨y0, y1⟩, x0, x1, x2, x3, x4, x5, x6, hbz0, hbz1⟩ := hK.out W0 (Below.refl W0.heap.size W0)
  go_wp2_with fail
  clear y0 y1 x0 x1 x2 x3 x4 x5 x6 hbz0 hbz1
  refine (sCheck _ _ _ p s (hP'.out _ hb0) (hV.out _ hb0)).mono ?_
  rintro e W1 ⟨rfl, h1⟩
  have hB1 := hb0.trans (h1.mono hb0.size)
  obtain ⟨⟨y0, y1⟩, x0, x1, x2, x3, x4, x5, x6, hbz0, hbz1⟩ := hK.out W1 (h1)
  by_cases hc : checkState p s = 0
  · have hc' := Lib.hid hc
    have hsn := Lib.hid (checkState_zero.1 hc).1
    rw [hc]
    clear hc
    go_wp2_with fail
    clear y0 y1 x0 x1 x2 x3 x4 x5 x6 hbz0 hbz1
    refine (shThere _ _ p b g (hP'.out _ hB1)).mono ?_
    rintro e W2 ⟨rfl, h2⟩
    have h02 := h1.trans (h2.mono h1.size)
    have hB2 := hb0.trans (h02.mono hb0.size)
    obtain ⟨⟨y0, y1⟩, x0, x1, x2, x3, x4, x5, x6, hbz0, hbz1⟩ := hK.out W2 (h02)
    cases hth : (isBin p b && isGood p g)
    · have hfin := Lib.hid (receive_range (n := n) hc'.out (by rw [hth]; rfl))
      clear hth
      have hbx9 := hR.out _ h02
      go_wp2_with (refine wpList_store_state rfl (.tmp 10) (.tmp 31) rfl rfl (w.heap.size + 1 + 1) nilSV nilSV hbx9 rfl rfl rfl (fun w9 hbox9 hg9 => ?_))
      obtain ⟨p0, p1, p2, p3, p4, p5, p6⟩ := BoxAt.cells hbox9
      have hfin9 : Below w.heap.size w w9 := Below.grown hB2 hg9 (Below.size hB2) (fun k hk => by injection hk with hk; omega)
      go_wp2_with fail
      exact bodyPost_ret (v := .tuple #[nilSV.val, .int .i64 3]) (by simp [results, Tryz.results44, go_sem, SV.val, p0, p1, p2, p3, p4, p5, p6]) rfl (actErr hfin.out hfin9)
    · have hth' := Lib.hid hth
      rw [Bool.and_eq_true] at hth
      have hbb := Lib.hid (isBin_iff.1 hth.1)
      have hgg := Lib.hid (isGood_iff.1 hth.2)
      clear hth
      by_cases hn1 : 1 ≤ n
      · by_cases hn2 : n ≤ 200
        · have hall := Lib.hid (show (isBin p b && isGood p g && within n 1 200) = true by rw [hth'.out, within_iff.2 ⟨hn1, hn2⟩]; rfl)
          have hb1 : 0 ≤ b := hbb.out.1
          have hb2 : b < (s.on.length : Int) := by rw [hsn.out.onLen]; exact hbb.out.2
          have hg1 : 0 ≤ g := hgg.out.1
          have hg2 : g < (p.sizes.length : Int) := hgg.out.2
          have hbl : b.toNat < s.on.length := by omega
          have hgs : g.toNat < p.sizes.length := by omega
          have hgl : g.toNat < (rowAt s.on b.toNat).length := by rw [hsn.out.rowLen (by have := hbb.out; omega)]; omega
          have hgr : g < ((rowAt s.on b.toNat).length : Int) := by omega
          have hgi : g < (s.inn.length : Int) := by rw [hsn.out.inn.1]; omega
          obtain ⟨z1, z2⟩ := right_size hsn.out.plan hgs
          have hm1 := mul_range (a := n) (b := intAt p.sizes g.toNat) (by omega) ⟨z1, z2⟩
          have hw1 : IntKind.i64.wrap (n * intAt p.sizes g.toNat) = n * intAt p.sizes g.toNat := IntWalk.i64_in _ (by omega)
          obtain ⟨os0, ls0, rs0⟩ := (hSz.out W2 hB2).at_.int hgs
          have q0 := fun o d os => cells_wld (w := W2) (b := w.heap.size) hbz1 o d os
          have q1 := fun o d os => cells_wld (w := W2) (b := w.heap.size + 1) hbz0 o d os
          have q2 := fun o d os => cells_wld (w := W2) (b := ablk As) ls0 o d os
          have hP2 := Lib.hid (fun d os => hP'.out _ (hB2.trans ((below_wld W2 d os).mono hB2.size)))
          have hV2 := Lib.hid (fun d os => hV.out _ (hB2.trans ((below_wld W2 d os).mono hB2.size)))
          by_cases hfu : free p s b < n * intAt p.sizes g.toNat
          · have hfin := Lib.hid (receive_full (n := n) hc'.out hall.out hfu)
            go_wp2_with fail
            refine wp_region_wld (by kernel_rfl) (by kernel_rfl) ?_
            repeat (go_big_quiet_step ((go_at_call 93; refine calls_wld (sRoom _ _ _ p s b (hP2.out _ _) (hV2.out _ _) hsn.out hbb.out))))
            refine wpQuiet_nil ?_
            intro W3 hw'
            have hb3 := below_of_cls hw'
            clear hw'
            have h03 := h02.trans (hb3.mono h02.size)
            have hB3 := hb0.trans (h03.mono hb0.size)
            have hbx9 := hR.out _ h03
            go_wp2_with (refine wpList_store_state rfl (.tmp 10) (.tmp 45) rfl rfl (w.heap.size + 1 + 1) nilSV nilSV hbx9 rfl rfl rfl (fun w9 hbox9 hg9 => ?_))
            obtain ⟨p0, p1, p2, p3, p4, p5, p6⟩ := BoxAt.cells hbox9
            have hfin9 : Below w.heap.size w w9 := Below.grown hB3 hg9 (Below.size hB3) (fun k hk => by injection hk with hk; omega)
            go_wp2_with fail
            exact bodyPost_ret (v := .tuple #[nilSV.val, .int .i64 5]) (by simp [results, Tryz.results44, go_sem, SV.val, p0, p1, p2, p3, p4, p5, p6]) rfl (actErr hfin.out hfin9)
          · have hfu' : n * intAt p.sizes g.toNat ≤ free p s b := by omega
            go_wp2_with fail
            refine wp_region_wld (by kernel_rfl) (by kernel_rfl) ?_
            repeat (go_big_quiet_step ((go_at_call 93; refine calls_wld (sRoom _ _ _ p s b (hP2.out _ _) (hV2.out _ _) hsn.out hbb.out))))
            refine wpQuiet_nil ?_
            intro W3 hw'
            have hb3 := below_of_cls hw'
            clear hw'
            have h03 := h02.trans (hb3.mono h02.size)
            have hB3 := hb0.trans (h03.mono hb0.size)
            clear q0 q1 q2 hP2 hV2 hw1 rs0 os0 ls0
            clear y0 y1 x0 x1 x2 x3 x4 x5 x6 hbz0 hbz1
            obtain ⟨⟨y0, y1⟩, x0, x1, x2, x3, x4, x5, x6, hbz0, hbz1⟩ := hK.out W3 (h03)
            obtain ⟨Ar, cr, or0, lr0, rr0, hrow⟩ := (hN.out W3 hB3).row hbl
            obtain ⟨or1, lr1, rr1⟩ := hrow.at_.int hgl
            obtain ⟨oi, li, ri⟩ := (hI.out W3 hB3).at_.int (i := g.toNat) (by omega)
            have hcl : intAt (rowAt s.on b.toNat) g.toNat = cell s.on b.toNat g.toNat := rfl
            rw [hcl] at rr1
            clear hcl
            have t1 := hsn.out.cell (b := b.toNat) (g := g.toNat) (by have := hbb.out; omega) hgs
            have t2 := coming_range hsn.out b g
            have t3 := hsn.out.inn.2 hgs
            have hw1 : IntKind.i64.wrap (cell s.on b.toNat g.toNat + coming s b g) = cell s.on b.toNat g.toNat + coming s b g := IntWalk.i64_in _ (by omega)
            have hw2 : IntKind.i64.wrap (cell s.on b.toNat g.toNat + coming s b g + n) = cell s.on b.toNat g.toNat + coming s b g + n := IntWalk.i64_in _ (by omega)
            have hw3 : IntKind.i64.wrap (intAt s.inn g.toNat + n) = intAt s.inn g.toNat + n := IntWalk.i64_in _ (by omega)
            have q1 := fun o d os => cells_wld (w := W3) (b := w.heap.size + 1) hbz0 o d os
            have q2 := fun o d os => cells_wld (w := W3) (b := ablk A0) lr0 o d os
            have q3 := fun o d os => cells_wld (w := W3) (b := ablk Ar) lr1 o d os
            have hV2 := Lib.hid (fun d os => hV.out _ (hB3.trans ((below_wld W3 d os).mono hB3.size)))
            by_cases hm : 200 < cell s.on b.toNat g.toNat + coming s b g + n
            · have hfin := Lib.hid (receive_many (n := n) hc'.out hall.out hfu' (.inl hm))
              go_wp2_with fail
              refine wp_region_wld (by kernel_rfl) (by kernel_rfl) ?_
              repeat (go_big_quiet_step ((go_at_call 94; refine calls_wld (sComing _ _ p s b g (hV2.out _ _) hsn.out))))
              refine wpQuiet_nil ?_
              intro W4 hw'
              have hb4 := below_of_cls hw'
              clear hw'
              have h04 := h03.trans (hb4.mono h03.size)
              have hB4 := hb0.trans (h04.mono hb0.size)
              have hbx9 := hR.out _ h04
              go_wp2_with (refine wpList_store_state rfl (.tmp 10) (.tmp 71) rfl rfl (w.heap.size + 1 + 1) nilSV nilSV hbx9 rfl rfl rfl (fun w9 hbox9 hg9 => ?_))
              obtain ⟨p0, p1, p2, p3, p4, p5, p6⟩ := BoxAt.cells hbox9
              have hfin9 : Below w.heap.size w w9 := Below.grown hB4 hg9 (Below.size hB4) (fun k hk => by injection hk with hk; omega)
              go_wp2_with fail
              exact bodyPost_ret (v := .tuple #[nilSV.val, .int .i64 2]) (by simp [results, Tryz.results44, go_sem, SV.val, p0, p1, p2, p3, p4, p5, p6]) rfl (actErr hfin.out hfin9)
            · have hm' : cell s.on b.toNat g.toNat + coming s b g + n ≤ 200 := by omega
              go_wp2_with fail
              refine wp_region_wld (by kernel_rfl) (by kernel_rfl) ?_
              repeat (go_big_quiet_step ((go_at_call 94; refine calls_wld (sComing _ _ p s b g (hV2.out _ _) hsn.out))))
              refine wpQuiet_nil ?_
              intro W4 hw'
              have hb4 := below_of_cls hw'
              clear hw'
              have h04 := h03.trans (hb4.mono h03.size)
              have hB4 := hb0.trans (h04.mono hb0.size)
              clear q1 q2 q3 hV2 hw1 hw2
              clear y0 y1 x0 x1 x2 x3 x4 x5 x6 hbz0 hbz1
              obtain ⟨⟨y0, y1⟩, x0, x1, x2, x3, x4, x5, x6, hbz0, hbz1⟩ := hK.out W4 (h04)
              have ri4 := (hb4.cell (p := ⟨ablk A4, aoff A4 + g.toNat, none⟩) li).trans ri
              clear rr0 rr1 ri hm
              by_cases hi : 1048576 < intAt s.inn g.toNat + n
              · have hfin := Lib.hid (receive_many (n := n) hc'.out hall.out hfu' (.inr hi))
                have hbx9 := hR.out _ h04
                go_wp2_with (refine wpList_store_state rfl (.tmp 10) (.tmp 71) rfl rfl (w.heap.size + 1 + 1) nilSV nilSV hbx9 rfl rfl rfl (fun w9 hbox9 hg9 => ?_))
                obtain ⟨p0, p1, p2, p3, p4, p5, p6⟩ := BoxAt.cells hbox9
                have hfin9 : Below w.heap.size w w9 := Below.grown hB4 hg9 (Below.size hB4) (fun k hk => by injection hk with hk; omega)
                go_wp2_with fail
                exact bodyPost_ret (v := .tuple #[nilSV.val, .int .i64 2]) (by simp [results, Tryz.results44, go_sem, SV.val, p0, p1, p2, p3, p4, p5, p6]) rfl (actErr hfin.out hfin9)
              · have hi' : intAt s.inn g.toNat + n ≤ 1048576 := by omega
                have hfin := Lib.hid (receive_ok (n := n) hc'.out hall.out hfu' hm' hi')
                go_wp2_with fail
                clear y0 y1 x0 x1 x2 x3 x4 x5 x6 hbz0 hbz1
                clear ri4 hi
                refine (sOwn _ _ p s (hV.out _ hB4) hsn.out).mono ?_
                rintro e W5 ⟨_, rfl, ⟨V5, rfl, ho5⟩, h5⟩
                have hone6 := (ho5).one
                have hnb6 := newBox (W5)
                go_wp2_with (refine wpList_store_state rfl (.tmp 13) (.tmp 73) rfl rfl (World.heap (W5)).size nilSV V5 hnb6 rfl rfl hone6 (fun w6 hbox6 hg6 => ?_); refine Hid.out ?_)
                unfold Hid
                have hbb6 := newBelow hg6
                have hbl6 := hbox6.lt
                clear hone6 hnb6 hg6
                have ho6 := ho5.below hbb6
                have h06 := h04.trans ((h5.trans (hbb6.mono h5.size)).mono h04.size)
                have hB6 := hb0.trans (h06.mono hb0.size)
                have hle4 : w.heap.size ≤ W4.heap.size := hB4.size
                have hle04 : W0.heap.size ≤ W4.heap.size := h04.size
                obtain ⟨go, co, cur0, gr, cr2, cur, e1, f1, f2, f3, e2, f4, f5, f6⟩ := ho6.onAt hbl hgl
                have hx0 := hbox6.cells.1
                rw [e1] at hx0
                have hf := f5.frozen g.toNat
                have hst := ho6.setOn hbl hgl e2 (cell s.on b.toNat g.toNat + n)
                have hbox7 := hbox6.off hst.2 f5 (by decide)
                have hw4 : IntKind.i64.wrap (cell s.on b.toNat g.toNat + n) = cell s.on b.toNat g.toNat + n := IntWalk.i64_in _ (by omega)
                have h07 := h06.setCell (p := ⟨gr, g.toNat, none⟩) (Nat.le_trans hle04 f4) (.int .i64 (cell s.on b.toNat g.toNat + n))
                have hB7 := hB6.setCell (p := ⟨gr, g.toNat, none⟩) (Nat.le_trans hle4 f4) (.int .i64 (cell s.on b.toNat g.toNat + n))
                go_wp2_with (refine wpList_store_int rfl (.tmp 84) (.tmp 83) rfl rfl gr g.toNat _ _ rfl rfl f6 hf (fun w7 hw7 => ?_); refine Hid.out ?_)
                unfold Hid
                rw [hw7] at hst hbox7 h07 hB7
                clear hw7 hw4 hx0 hf f2 f3 f5 f6 e1 e2 ho6 hbox6
                have ho7 : OwnSt w7 W4.heap.size V5 { s with on := setCell s.on b.toNat g.toNat (cell s.on b.toNat g.toNat + n) } := hst.1
                have hgil : g.toNat < s.inn.length := by omega
                obtain ⟨gi, ci, curi, e3, k1, k2, k3⟩ := OwnSt.intAtOwn (l := s.inn) ho7.inn hgil
                have hx4 := hbox7.cells.2.2.2.2.1
                rw [e3] at hx4
                have hfi := k2.frozen g.toNat
                have hst2 := ho7.setInn hgil e3 (intAt s.inn g.toNat + n)
                have hbox8 := hbox7.off hst2.2 k2 (by decide)
                have h08 := h07.setCell (p := ⟨gi, g.toNat, none⟩) (Nat.le_trans hle04 k1) (.int .i64 (intAt s.inn g.toNat + n))
                have hB8 := hB7.setCell (p := ⟨gi, g.toNat, none⟩) (Nat.le_trans hle4 k1) (.int .i64 (intAt s.inn g.toNat + n))
                go_wp2_with (refine wpList_store_int rfl (.tmp 92) (.tmp 91) rfl rfl gi g.toNat _ _ rfl rfl k3 hfi (fun w8 hw8 => ?_); refine Hid.out ?_)
                unfold Hid
                rw [hw8] at hst2 hbox8 h08 hB8
                clear hw8 hx4 hfi k2 k3 e3
                have ho8 : OwnSt w8 W4.heap.size V5 { s with on := setCell s.on b.toNat g.toNat (cell s.on b.toNat g.toNat + n), inn := s.inn.set g.toNat (intAt s.inn g.toNat + n) } := hst2.1
                have ho8' := Lib.hid ho8
                have hbox8' := Lib.hid hbox8
                clear hst hst2 ho7 ho8 hbox7 hbox8 ho5
                have hbx9 := hR.out _ h08
                obtain ⟨b0, b1, b2, b3, b4, b5, b6⟩ := BoxAt.cells hbox8'.out
                have hone9 := OwnSt.one ho8'.out
                go_wp2_with (refine wpList_store_state rfl (.tmp 10) (.tmp 93) rfl rfl (w.heap.size + 1 + 1) nilSV V5 hbx9 rfl rfl hone9 (fun w9 hbox9 hg9 => ?_))
                have hO9 := OwnSt.keptBy ho8'.out hg9 hbx9 (by decide) (by decide) (by decide) (by decide) (by decide) (by decide)
                obtain ⟨p0, p1, p2, p3, p4, p5, p6⟩ := BoxAt.cells hbox9
                have hfin9 : Below w.heap.size w w9 := Below.grown hB8 hg9 (Below.size hB8) (fun k hk => by injection hk with hk; omega)
                clear b0 b1 b2 b3 b4 b5 b6
                go_wp2_with fail
                exact bodyPost_ret (v := .tuple #[SV.val V5, .int .i64 0]) (by simp [results, Tryz.results44, go_sem, SV.val, p0, p1, p2, p3, p4, p5, p6]) rfl (actOk hfin.out (hO9.from_ hle4) hfin9)
        · have hfin := Lib.hid (receive_range (n := n) hc'.out (by rw [hth'.out, show within n 1 200 = false from within_false.2 (by omega)]; rfl))
          have hbx9 := hR.out _ h02
          go_wp2_with (refine wpList_store_state rfl (.tmp 10) (.tmp 31) rfl rfl (w.heap.size + 1 + 1) nilSV nilSV hbx9 rfl rfl rfl (fun w9 hbox9 hg9 => ?_))
          obtain ⟨p0, p1, p2, p3, p4, p5, p6⟩ := BoxAt.cells hbox9
          have hfin9 : Below w.heap.size w w9 := Below.grown hB2 hg9 (Below.size hB2) (fun k hk => by injection hk with hk; omega)
          go_wp2_with fail
          exact bodyPost_ret (v := .tuple #[nilSV.val, .int .i64 3]) (by simp [results, Tryz.results44, go_sem, SV.val, p0, p1, p2, p3, p4, p5, p6]) rfl (actErr hfin.out hfin9)
      · have hfin := Lib.hid (receive_range (n := n) hc'.out (by rw [hth'.out, show within n 1 200 = false from within_false.2 (by omega)]; rfl))
        have hbx9 := hR.out _ h02
        go_wp2_with (refine wpList_store_state rfl (.tmp 10) (.tmp 31) rfl rfl (w.heap.size + 1 + 1) nilSV nilSV hbx9 rfl rfl rfl (fun w9 hbox9 hg9 => ?_))
        obtain ⟨p0, p1, p2, p3, p4, p5, p6⟩ := BoxAt.cells hbox9
        have hfin9 : Below w.heap.size w w9 := Below.grown hB2 hg9 (Below.size hB2) (fun k hk => by injection hk with hk; omega)
        go_wp2_with fail
        exact bodyPost_ret (v := .tuple #[nilSV.val, .int .i64 3]) (by simp [results, Tryz.results44, go_sem, SV.val, p0, p1, p2, p3, p4, p5, p6]) rfl (actErr hfin.out hfin9)
  · have hne : (checkState p s != 0) = true := by simpa using hc
    have hfin := Lib.hid (receive_bad (b := b) (g := g) (n := n) hc)
    clear hc
    have hbx9 := hR.out _ h1
    go_wp2_with (refine wpList_store_state rfl (.tmp 10) (.tmp 19) rfl rfl (w.heap.size + 1 + 1) nilSV nilSV hbx9 rfl rfl rfl (fun w9 hbox9 hg9 => ?_))
    obtain ⟨p0, p1, p2, p3, p4, p5, p6⟩ := BoxAt.cells hbox9
    have hfin9 : Below w.heap.size w w9 := Below.grown hB1 hg9 (Below.size hB1) (fun k hk => by injection hk with hk; omega)
    go_wp2_with fail
    exact bodyPost_ret (v := .tuple #[nilSV.val, .int .i64 (checkState p s)]) (by simp [results, Tryz.results44, go_sem, SV.val, p0, p1, p2, p3, p4, p5, p6]) rfl (actErr hfin.out hfin9)
end Wh
namespace Wh
open Go Go.RowKit Go.Shelf Go.Proofs
attribute [local go_sem] run_indexAt_letter evL_tmp evL_const evL_func

def badLine (p : Plan) (x : Line) : Bool := !(isGood p x.good && within x.want 1 200)
def notNew (x : Line) : Bool := !(decide (x.got = 0) && decide (x.back = 0))
theorem badLine_parts (p : Plan) (x : Line) : (isGood p x.good = false ∧ badLine p x = true) ∨ (isGood p x.good = true ∧ x.want < 1 ∧ badLine p x = true) ∨ (isGood p x.good = true ∧ 1 ≤ x.want ∧ 200 < x.want ∧ badLine p x = true) ∨
    (isGood p x.good = true ∧ 1 ≤ x.want ∧ x.want ≤ 200 ∧ badLine p x = false) := by
  unfold badLine
  have h1 := @within_iff x.want 1 200
  cases hw : within x.want 1 200 <;> cases hg : isGood p x.good <;> simp only [hw, Bool.false_eq_true, false_iff, true_iff] at h1 <;> simp <;> omega
theorem notNew_parts (x : Line) : ((x.got != 0) = true ∧ notNew x = true) ∨ ((x.got != 0) = false ∧ (x.back != 0) = true ∧ notNew x = true) ∨ ((x.got != 0) = false ∧ (x.back != 0) = false ∧ notNew x = false) := by
  unfold notNew
  by_cases h1 : x.got = 0 <;> by_cases h2 : x.back = 0 <;> simp [h1, h2]
section
variable {p : Plan} {s : State} {l : List Line}
theorem enter_bad (h : checkState p s ≠ 0) : enter p s l = (dState, checkState p s) := by unfold enter; rw [if_pos h]
theorem enter_many (h : checkState p s = 0) (h2 : 4 ≤ s.orders.length ∨ l.length < 1 ∨ 3 < l.length) : enter p s l = (dState, 2) := by
  unfold enter
  have hw := @within_iff l.length 1 3
  have h3 : 4 ≤ s.orders.length ∨ (!within l.length 1 3) = true := by
    cases hh : within l.length 1 3
    · exact .inr rfl
    · have := hw.1 hh
      omega
  rw [if_neg (fun hn => hn h), if_pos h3]
theorem enter_range (h : checkState p s = 0) (h2 : s.orders.length < 4) (h3 : 1 ≤ l.length ∧ l.length ≤ 3) (h4 : l.any (badLine p) = true) : enter p s l = (dState, 3) := by
  unfold enter
  have e : (!(l.all fun x => isGood p x.good && within x.want 1 200)) = true := by rw [← any_not]; exact h4
  have hw : within l.length 1 3 = true := within_iff.2 (by omega)
  rw [if_neg (fun hn => hn h), hw, if_neg (by simp; omega), if_pos e]
theorem enter_form (h : checkState p s = 0) (h2 : s.orders.length < 4) (h3 : 1 ≤ l.length ∧ l.length ≤ 3) (h4 : l.any (badLine p) = false) (h5 : l.any notNew = true) : enter p s l = (dState, 1) := by
  unfold enter
  have e : (!(l.all fun x => isGood p x.good && within x.want 1 200)) = false := by rw [← any_not]; exact h4
  have e2 : (!(l.all fun x => decide (x.got = 0) && decide (x.back = 0))) = true := by rw [← any_not]; exact h5
  have hw : within l.length 1 3 = true := within_iff.2 (by omega)
  rw [if_neg (fun hn => hn h), hw, if_neg (by simp; omega), e, e2]
  rfl
theorem enter_ok (h : checkState p s = 0) (h2 : s.orders.length < 4) (h3 : 1 ≤ l.length ∧ l.length ≤ 3) (h4 : l.any (badLine p) = false) (h5 : l.any notNew = false) : enter p s l = ({ s with orders := s.orders ++ [⟨0, l⟩] }, 0) := by
  unfold enter
  have e : (!(l.all fun x => isGood p x.good && within x.want 1 200)) = false := by rw [← any_not]; exact h4
  have e2 : (!(l.all fun x => decide (x.got = 0) && decide (x.back = 0))) = false := by rw [← any_not]; exact h5
  have hw : within l.length 1 3 = true := within_iff.2 (by omega)
  rw [if_neg (fun hn => hn h), hw, if_neg (by simp; omega), e, e2]
  rfl
end

set_option maxHeartbeats 2000000 in
theorem eBadLine (p : Plan) (x : Line) (W : World) (B : Nat) (hz : checkPlan p = 0) (Ab As : Option Addr) (cb cs : Nat) (h0 : W.cell? ⟨B, 0, none⟩ = some (.slice Ab p.bins.length cb)) (h1 : W.cell? ⟨B, 1, none⟩ = some (.slice As p.sizes.length cs)) (hB : B < W.heap.size)
    (hP : PlanV W W.heap.size (.agg #[.slice Ab p.bins.length cb, .slice As p.sizes.length cs]) p) :
    Calls Tryz.prog 96 #[vLine x, .pointer (some ⟨B, 0, none⟩)] W fun e W' => e = .returned (.bool (badLine p x)) ∧ Below W.heap.size W W' := by
  have hb1 : isBin p 0 = true := isBin_iff.2 (by have := right_counts hz; omega)
  have hb0 : Below W.heap.size W (W.alloc (.cells #[.int .i64 (x).good, .int .i64 (x).want, .int .i64 (x).got, .int .i64 (x).back] 44)) := (Below.refl _ _).alloc (Nat.le_refl _) _
  unfold vLine
  rcases badLine_parts p x with ⟨g1, hf⟩ | ⟨g1, g2, hf⟩ | ⟨g1, g2, g3, hf⟩ | ⟨g1, g2, g3, hf⟩
  all_goals
    have hth : (isBin p 0 && isGood p x.good) = (isGood p x.good) := by rw [hb1]; rfl
    have hth' := Lib.hid hth
    clear hth
    have hf' := Lib.hid hf
    clear hf
    go_enter Tryz.func96, Tryz.ntmps96
    go_wp2_with fail
    refine (shThere _ _ p 0 x.good (hP.grow hb0)).mono ?_
    rintro e W1 ⟨rfl, hc1⟩
    have hB := hb0.trans (hc1.mono hb0.size)
    obtain ⟨ha1, hf1⟩ := bcell hc1
    rw [hth'.out, g1]
    go_wp2_with fail
    go_ret
    exact ⟨ret_bool (by rw [hf'.out] <;> first | rfl | (simp <;> omega)), hB⟩
theorem entersEBad : Enters Tryz.prog 96 := enters_of Tryz.func96 (by kernel_rfl) rfl

set_option maxHeartbeats 2000000 in
theorem eNotNew (x : Line) (W : World) : Calls Tryz.prog 97 #[vLine x] W fun e W' => e = .returned (.bool (notNew x)) ∧ Below W.heap.size W W' := by
  have hb0 : Below W.heap.size W (W.alloc (.cells #[.int .i64 (x).good, .int .i64 (x).want, .int .i64 (x).got, .int .i64 (x).back] 44)) := (Below.refl _ _).alloc (Nat.le_refl _) _
  unfold vLine
  rcases notNew_parts x with ⟨g1, hf⟩ | ⟨g1, g2, hf⟩ | ⟨g1, g2, hf⟩
  all_goals
    have hf' := Lib.hid hf
    clear hf
    go_enter Tryz.func97, Tryz.ntmps97
    go_wp2_with fail
    go_ret
    exact ⟨ret_bool (by rw [hf'.out]), hb0⟩
theorem entersENew : Enters Tryz.prog 97 := enters_of Tryz.func97 (by kernel_rfl) rfl

set_option maxHeartbeats 8000000 in
set_option maxRecDepth 100000 in
theorem recvEnter (w : World) (v vs vl : Value) (p : Plan) (s : State) (l : List Line) (hp : PlanV w w.heap.size v p) (hv : StateV w w.heap.size vs s) (hl : Sl cLine w w.heap.size vl l) :
    Calls Tryz.prog 45 #[v, vs, vl] w (ActPost (enter p s l) w) := by
  have hL := Lib.hid hl
  obtain ⟨Al, cl, rfl, hll, hAl⟩ := hl
  clear hAl
  obtain ⟨Ab, cb, As, cs, rfl, hP', hBn, hSz, hlb, hls⟩ := openPl hp
  obtain ⟨A0, c0, A1, c1, A2, c2, A3, c3, A4, c4, A5, c5, A6, c6, rfl, hV, hN, hO, hH, hM, hI, hU, hX, hl0, hl1, hl2, hl3, hl4, hl5, hl6⟩ := openOne hv
  go_enter Tryz.func45, Tryz.ntmps45
  go_wp2_with fail
  obtain ⟨W0, hW0, hb0, hsz0, hsz1, hsE, hK, hR⟩ := boxesAct w p s Ab cb As cs A0 c0 A1 c1 A2 c2 A3 c3 A4 c4 A5 c5 A6 c6
  rw [hW0]
  clear hW0
  obtain ⟨⟨y0, y1⟩, x0, x1, x2, x3, x4, x5, x6, hbz0, hbz1⟩ := hK.out W0 (Below.refl W0.heap.size W0)
  go_wp2_with fail
  clear y0 y1 x0 x1 x2 x3 x4 x5 x6 hbz0 hbz1
  refine (sCheck _ _ _ p s (hP'.out _ hb0) (hV.out _ hb0)).mono ?_
  rintro e W1 ⟨rfl, h1⟩
  have hB1 := hb0.trans (h1.mono hb0.size)
  obtain ⟨⟨y0, y1⟩, x0, x1, x2, x3, x4, x5, x6, hbz0, hbz1⟩ := hK.out W1 (h1)
  by_cases hc : checkState p s = 0
  · have hc' := Lib.hid hc
    have hsn := Lib.hid (checkState_zero.1 hc).1
    rw [hc]
    clear hc
    have h4 := hsn.out.orders4
    by_cases ho4 : s.orders.length = 4
    · have hfin := Lib.hid (enter_many (l := l) hc'.out (.inl (by omega)))
      have ho4' : (s.orders.length : Int) = 4 := by omega
      clear ho4 h4
      have hbx9 := hR.out _ h1
      go_wp2_with (refine wpList_store_state rfl (.tmp 6) (.tmp 28) rfl rfl (w.heap.size + 1 + 1) nilSV nilSV hbx9 rfl rfl rfl (fun w9 hbox9 hg9 => ?_))
      obtain ⟨p0, p1, p2, p3, p4, p5, p6⟩ := BoxAt.cells hbox9
      have hfin9 : Below w.heap.size w w9 := Below.grown hB1 hg9 (Below.size hB1) (fun k hk => by injection hk with hk; omega)
      go_wp2_with fail
      exact bodyPost_ret (v := .tuple #[nilSV.val, .int .i64 2]) (by simp [results, Tryz.results45, go_sem, SV.val, p0, p1, p2, p3, p4, p5, p6]) rfl (actErr hfin.out hfin9)
    have hne4 : ((s.orders.length : Int) == 4) = false := by simp; omega
    by_cases hl1 : l.length < 1
    · have hfin := Lib.hid (enter_many (p := p) (s := s) hc'.out (.inr (.inl hl1)))
      clear ho4
      have hbx9 := hR.out _ h1
      go_wp2_with (refine wpList_store_state rfl (.tmp 6) (.tmp 28) rfl rfl (w.heap.size + 1 + 1) nilSV nilSV hbx9 rfl rfl rfl (fun w9 hbox9 hg9 => ?_))
      obtain ⟨p0, p1, p2, p3, p4, p5, p6⟩ := BoxAt.cells hbox9
      have hfin9 : Below w.heap.size w w9 := Below.grown hB1 hg9 (Below.size hB1) (fun k hk => by injection hk with hk; omega)
      go_wp2_with fail
      exact bodyPost_ret (v := .tuple #[nilSV.val, .int .i64 2]) (by simp [results, Tryz.results45, go_sem, SV.val, p0, p1, p2, p3, p4, p5, p6]) rfl (actErr hfin.out hfin9)
    by_cases hl3 : 3 < l.length
    · have hfin := Lib.hid (enter_many (p := p) (s := s) hc'.out (.inr (.inr hl3)))
      clear ho4
      have hbx9 := hR.out _ h1
      go_wp2_with (refine wpList_store_state rfl (.tmp 6) (.tmp 28) rfl rfl (w.heap.size + 1 + 1) nilSV nilSV hbx9 rfl rfl rfl (fun w9 hbox9 hg9 => ?_))
      obtain ⟨p0, p1, p2, p3, p4, p5, p6⟩ := BoxAt.cells hbox9
      have hfin9 : Below w.heap.size w w9 := Below.grown hB1 hg9 (Below.size hB1) (fun k hk => by injection hk with hk; omega)
      go_wp2_with fail
      exact bodyPost_ret (v := .tuple #[nilSV.val, .int .i64 2]) (by simp [results, Tryz.results45, go_sem, SV.val, p0, p1, p2, p3, p4, p5, p6]) rfl (actErr hfin.out hfin9)
    have ho : s.orders.length < 4 := by omega
    have hl13 : 1 ≤ l.length ∧ l.length ≤ 3 := by omega
    clear ho4
    go_wp2_with fail
    clear y0 y1 x0 x1 x2 x3 x4 x5 x6 hbz0 hbz1
    refine (containsFuncLine _ _ l 96 #[.pointer (some ⟨w.heap.size, 0, none⟩)] (badLine p) entersEBad (hL.out.grow hB1) (fun j _ W hW => by
      have hW2 := h1.trans (hW.mono h1.size)
      obtain ⟨⟨a0, a1⟩, _, _, _, _, _, _, _, _, a2⟩ := hK.out W hW2
      exact eBadLine p _ W w.heap.size hsn.out.plan Ab As cb cs a0 a1 a2 (hP'.out W (hb0.trans (hW2.mono hb0.size))))).mono ?_
    rintro e W2 ⟨rfl, h2⟩
    have h02 := h1.trans (h2.mono h1.size)
    have hB2 := hb0.trans (h02.mono hb0.size)
    obtain ⟨⟨y0, y1⟩, x0, x1, x2, x3, x4, x5, x6, hbz0, hbz1⟩ := hK.out W2 (h02)
    cases ha : l.any (badLine p)
    · have ha' := Lib.hid ha
      clear ha
      go_wp2_with fail
      clear y0 y1 x0 x1 x2 x3 x4 x5 x6 hbz0 hbz1
      refine (containsFuncLine _ _ l 97 #[] notNew entersENew (hL.out.grow hB2) (fun j _ W hW => eNotNew _ W)).mono ?_
      rintro e W3 ⟨rfl, h3⟩
      have h03 := h02.trans (h3.mono h02.size)
      have hB3 := hb0.trans (h03.mono hb0.size)
      obtain ⟨⟨y0, y1⟩, x0, x1, x2, x3, x4, x5, x6, hbz0, hbz1⟩ := hK.out W3 (h03)
      cases hn : l.any notNew
      · have hfin := Lib.hid (enter_ok hc'.out ho hl13 ha'.out hn)
        clear hn
        go_wp2_with fail
        clear y0 y1 x0 x1 x2 x3 x4 x5 x6 hbz0 hbz1
        refine (sOwn _ _ p s (hV.out _ hB3) hsn.out).mono ?_
        rintro e W5 ⟨_, rfl, ⟨V5, rfl, ho5⟩, h5⟩
        have hone6 := (ho5).one
        have hnb6 := newBox (W5)
        go_wp2_with (refine wpList_store_state rfl (.tmp 9) (.tmp 39) rfl rfl (World.heap (W5)).size nilSV V5 hnb6 rfl rfl hone6 (fun w6 hbox6 hg6 => ?_); refine Hid.out ?_)
        unfold Hid
        have hbb6 := newBelow hg6
        have hbl6 := hbox6.lt
        clear hone6 hnb6 hg6
        have hx6 := Lib.hid (Bx.of hbox6 (ho5.below hbb6))
        have h06 := h03.trans ((h5.trans (hbb6.mono h5.size)).mono h03.size)
        have hB6 := hb0.trans (h06.mono hb0.size)
        have hle3 : w.heap.size ≤ W3.heap.size := hB3.size
        have hle03 : W0.heap.size ≤ W3.heap.size := h03.size
        have hle5 : W3.heap.size ≤ W5.heap.size := h5.size
        have hle6 : W5.heap.size < w6.heap.size := hbl6
        clear hbox6 ho5 hbb6 h5 hbl6
        go_wp2_with fail
        refine wp_region_ops 6 [fun gq _ => gq 40 = .pointer (some ⟨W5.heap.size, 1, none⟩), fun gq _ => gq 41 = V5.orders, fun gq _ => gq 42 = .slice Al l.length cl, fun gq w' => (fun v w' => Own cLine 4 44 w' w6.heap.size v l) (gq 43) w', fun gq w' => (fun v w' => ∃ u, v = .agg #[.int .i64 0, u] ∧ Own cLine 4 44 w' w6.heap.size u l) (gq 44) w', fun gq w' => (fun v w' => ∃ bb u, v = .slice (some ⟨bb, 0, none⟩) 1 1 ∧ w'.cell? ⟨bb, 0, none⟩ = some (.int .i64 0) ∧ w'.cell? ⟨bb, 1, none⟩ = some u ∧ bb < w'.heap.size ∧ Own cLine 4 44 w' w6.heap.size u l) (gq 45) w'] (by kernel_rfl) (by kernel_rfl) rfl (by kernel_rfl) ?_ (fun f w2 hb2 hR => ?_)
        simp only [List.take_succ_cons, List.take_zero]
        refine OpsOK.cons (OpOK.val rfl rfl (fun gq w' hb ho hd => ?_)) ?_
        · have e9 := ho 9 rfl
          go_simp
        refine OpsOK.cons (OpOK.val rfl rfl (fun gq w' hb ho hd => ?_)) ?_
        · have e40 : gq 40 = .pointer (some ⟨W5.heap.size, 1, none⟩) := hd ⟨0, .data⟩ (by simp) rfl (by decide)
          have x1 := (hx6.out.below hb).cells.2.1
          go_simp
        refine OpsOK.cons (OpOK.val rfl rfl (fun gq w' hb ho hd => ?_)) ?_
        · have e2 := ho 2 rfl
          go_simp
        refine OpsOK.cons (OpOK.one (d := 43) (p := (fun v w' => Own cLine 4 44 w' w6.heap.size v l)) rfl rfl (fun v w1 w2 h hb => h.below hb) (fun gq w' hb ho hd => ?_)) ?_
        · have e42 : gq 42 = .slice Al l.length cl := hd ⟨2, .data⟩ (by simp) rfl (by decide)
          have hl' := hL.out.grow (hB6.trans (hb.mono hB6.size))
          unfold OpRel
          go_simp
          refine (cloneLine w' _ l hl' (by omega)).mono ?_
          rintro e w2 ⟨u, rfl, hu, hb2⟩
          exact ⟨u, rfl, hu.from_ hb.size, hb2⟩
        refine OpsOK.cons (OpOK.one (d := 44) (p := (fun v w' => ∃ u, v = .agg #[.int .i64 0, u] ∧ Own cLine 4 44 w' w6.heap.size u l)) rfl rfl (fun v w1 w2 h hb => let ⟨u, h1, h2⟩ := h; ⟨u, h1, h2.below hb⟩) (fun gq w' hb ho hd => ?_)) ?_
        · have e43 : Own cLine 4 44 w' w6.heap.size (gq 43) l := hd ⟨3, .data⟩ (by simp) rfl (by decide)
          obtain ⟨E, kc, s30⟩ := e43.isSlice
          rw [s30] at e43
          have e' := Lib.hid e43
          clear e43
          unfold OpRel
          go_simp
          exact ⟨e'.out, Below.refl _ _⟩
        refine OpsOK.cons (OpOK.one (d := 45) (p := (fun v w' => ∃ bb u, v = .slice (some ⟨bb, 0, none⟩) 1 1 ∧ w'.cell? ⟨bb, 0, none⟩ = some (.int .i64 0) ∧ w'.cell? ⟨bb, 1, none⟩ = some u ∧ bb < w'.heap.size ∧ Own cLine 4 44 w' w6.heap.size u l)) rfl rfl (fun v w1 w2 h hb => let ⟨bb, u, h1, h2, h2', h3, h4⟩ := h; ⟨bb, u, h1, (hb.cell (p := ⟨bb, 0, none⟩) h3).trans h2, (hb.cell (p := ⟨bb, 1, none⟩) h3).trans h2', Nat.lt_of_lt_of_le h3 hb.size, h4.below hb⟩) (fun gq w' hb ho hd => ?_)) ?_
        · have e44 : ∃ u, (gq 44) = .agg #[.int .i64 0, u] ∧ Own cLine 4 44 w' w6.heap.size u l := hd ⟨4, .data⟩ (by simp) rfl (by decide)
          obtain ⟨u, e44, hu⟩ := e44
          obtain ⟨E, kc, s30⟩ := hu.isSlice
          rw [s30] at e44 hu
          have e' := Lib.hid hu
          clear hu
          unfold OpRel
          go_simp
          exact ⟨e'.out.alloc _, (Below.refl _ _).alloc (Nat.le_refl _) _⟩
        exact OpsOK.nil
        obtain ⟨r40, r41, r42, r43, r44, r45, _⟩ := hR
        replace r43 : Own cLine 4 44 w2 w6.heap.size (f 43) l := r43
        replace r44 : ∃ u, (f 44) = .agg #[.int .i64 0, u] ∧ Own cLine 4 44 w2 w6.heap.size u l := r44
        replace r45 : ∃ bb u, (f 45) = .slice (some ⟨bb, 0, none⟩) 1 1 ∧ w2.cell? ⟨bb, 0, none⟩ = some (.int .i64 0) ∧ w2.cell? ⟨bb, 1, none⟩ = some u ∧ bb < w2.heap.size ∧ Own cLine 4 44 w2 w6.heap.size u l := r45
        simp only [fillA, fillT, List.take_succ_cons, List.take_zero, List.drop_succ_cons, List.drop_zero, List.filterMap_cons, List.filterMap_nil, List.foldl_cons, List.foldl_nil, List.setIfInBounds_toArray, List.set_cons_zero, List.set_cons_succ, r40, r41, r42]
        clear r40 r41 r42
        obtain ⟨bb, u, r4, d0, d1, l4, o4⟩ := r45
        simp only [r4]
        clear r4 r43 r44
        obtain ⟨E, kc, rfl⟩ := o4.isSlice
        have hx2 := hx6.out.below hb2
        have ho4 := ords_length hx2.own.llen
        refine wpList_push _ rfl (.tmp 41) (.tmp 45) 27 42 rfl W3.heap.size _ 2 32 Tryz.underlying27 infoOrder rfl (by decide) (by decide) V5.orders (ords s.orders V5.lines) (0, .slice E l.length kc) rfl hx2.own.orders ⟨bb, 0, none⟩ 1 rfl rfl (fun j x hj => by
          rw [Addr.add_lit, Nat.zero_add]
          match j, hj with
          | 0, hj => exact d0.trans hj
          | 1, hj => exact d1.trans hj
          | j + 2, hj => simp [cOrd] at hj) (oneOrd _ rfl) (by omega) (by have := hb2.size; omega) ?_
        intro v7 w7 hown7 hg7 hat7 hbel7
        obtain ⟨hk7, ho7⟩ := hx6.out.pushOrder hb2 (x := ⟨0, l⟩) (o4.from_ (by omega)) (fun g hg => (o4.size g hg).1) hg7 hown7
        obtain ⟨Av, cv, hv7⟩ := hown7.isSlice
        simp only [List.length_append, List.length_cons, List.length_nil, Nat.zero_add] at hv7
        have h07 := h06.trans ((hb2.mono h06.size).trans (hbel7.mono (by omega)))
        have hT7 := hx2.ty
        rw [hv7] at ho7
        rw [hv7]
        have ho7' := Lib.hid ho7
        have hk7' := Lib.hid hk7
        clear hown7 hg7 hat7 hv7 d0 d1 l4 o4 hx2 ho4 hk7 ho7
        go_wp2_with (refine wp_st_orders' rfl (.tmp 47) (.tmp 46) rfl rfl Av _ cv hk7'.out ho7'.out hT7 rfl rfl rfl (fun w8 hx8 hst8 => ?_); refine Hid.out ?_)
        unfold Hid
        have hle7 := h07.size
        have h08 := h07.trans (hst8.below (B := W0.heap.size) (fun k hk => by omega) hle7)
        have hB8 := hb0.trans (h08.mono hb0.size)
        obtain ⟨V8, hx8⟩ : ∃ V8, Bx w8 W3.heap.size W5.heap.size 31 [] V8 { s with orders := s.orders ++ [⟨0, l⟩] } := ⟨_, hx8⟩
        have hx8' := Lib.hid hx8
        clear ho7' hk7' hx8 hst8 hle7
        have hbx9 := hR.out _ h08
        obtain ⟨b0, b1, b2, b3, b4, b5, b6⟩ := BoxAt.cells hx8'.out.boxAt
        have hone9 := OwnSt.one hx8'.out.own
        go_wp2_with (refine wpList_store_state rfl (.tmp 6) (.tmp 48) rfl rfl (w.heap.size + 1 + 1) nilSV V8 hbx9 rfl rfl hone9 (fun w9 hbox9 hg9 => ?_))
        have hO9 := OwnSt.keptBy hx8'.out.own hg9 hbx9 (by decide) (by decide) (by decide) (by decide) (by decide) (by decide)
        obtain ⟨p0, p1, p2, p3, p4, p5, p6⟩ := BoxAt.cells hbox9
        have hfin9 : Below w.heap.size w w9 := Below.grown hB8 hg9 (Below.size hB8) (fun k hk => by injection hk with hk; omega)
        clear b0 b1 b2 b3 b4 b5 b6
        go_wp2_with fail
        exact bodyPost_ret (v := .tuple #[SV.val V8, .int .i64 0]) (by simp [results, Tryz.results45, go_sem, SV.val, p0, p1, p2, p3, p4, p5, p6]) rfl (actOk hfin.out (hO9.from_ hle3) hfin9)
      · have hfin := Lib.hid (enter_form hc'.out ho hl13 ha'.out hn)
        clear hn
        have hbx9 := hR.out _ h03
        go_wp2_with (refine wpList_store_state rfl (.tmp 6) (.tmp 37) rfl rfl (w.heap.size + 1 + 1) nilSV nilSV hbx9 rfl rfl rfl (fun w9 hbox9 hg9 => ?_))
        obtain ⟨p0, p1, p2, p3, p4, p5, p6⟩ := BoxAt.cells hbox9
        have hfin9 : Below w.heap.size w w9 := Below.grown hB3 hg9 (Below.size hB3) (fun k hk => by injection hk with hk; omega)
        go_wp2_with fail
        exact bodyPost_ret (v := .tuple #[nilSV.val, .int .i64 1]) (by simp [results, Tryz.results45, go_sem, SV.val, p0, p1, p2, p3, p4, p5, p6]) rfl (actErr hfin.out hfin9)
    · have hfin := Lib.hid (enter_range hc'.out ho hl13 ha)
      clear ha
      have hbx9 := hR.out _ h02
      go_wp2_with (refine wpList_store_state rfl (.tmp 6) (.tmp 33) rfl rfl (w.heap.size + 1 + 1) nilSV nilSV hbx9 rfl rfl rfl (fun w9 hbox9 hg9 => ?_))
      obtain ⟨p0, p1, p2, p3, p4, p5, p6⟩ := BoxAt.cells hbox9
      have hfin9 : Below w.heap.size w w9 := Below.grown hB2 hg9 (Below.size hB2) (fun k hk => by injection hk with hk; omega)
      go_wp2_with fail
      exact bodyPost_ret (v := .tuple #[nilSV.val, .int .i64 3]) (by simp [results, Tryz.results45, go_sem, SV.val, p0, p1, p2, p3, p4, p5, p6]) rfl (actErr hfin.out hfin9)
  · have hne : (checkState p s != 0) = true := by simpa using hc
    have hfin := Lib.hid (enter_bad (l := l) hc)
    clear hc
    have hbx9 := hR.out _ h1
    go_wp2_with (refine wpList_store_state rfl (.tmp 6) (.tmp 15) rfl rfl (w.heap.size + 1 + 1) nilSV nilSV hbx9 rfl rfl rfl (fun w9 hbox9 hg9 => ?_))
    obtain ⟨p0, p1, p2, p3, p4, p5, p6⟩ := BoxAt.cells hbox9
    have hfin9 : Below w.heap.size w w9 := Below.grown hB1 hg9 (Below.size hB1) (fun k hk => by injection hk with hk; omega)
    go_wp2_with fail
    exact bodyPost_ret (v := .tuple #[nilSV.val, .int .i64 (checkState p s)]) (by simp [results, Tryz.results45, go_sem, SV.val, p0, p1, p2, p3, p4, p5, p6]) rfl (actErr hfin.out hfin9)
end Wh
