/- Texts of the claim, joined: CountF. -/
import Derived.Deep.LoopGhost
import Derived.StillTailTactics
import Derived.Test.YtfhfkijmebhgmaaGreatQ12
import Derived.Test.YtfhfkijmebhgmaaGreatQ20
import Derived.Test.YtfhfkijmebhgmaaGreatQ19
import Derived.Test.YtfhfkijmebhgmaaGreatQ10
import Derived.Test.YtfhfkijmebhgmaaGreatQ25
import Derived.Test.YtfhfkijmebhgmaaGreatQ24
namespace Wh
open Go Go.RowKit Go.Shelf Go.Proofs
attribute [local go_sem] run_indexAt_letter evL_tmp evL_const evL_func

def ctT (W : World) (base bx : Nat) (V : SV) (s s1 : State) (kb : Nat) (cells : List Value) (ph : Nat) (w : World) : Prop := relT W base bx V s s1 ph w ∧ Blk w kb 104 cells
theorem ctT_below {W w1 w2 : World} {base bx ph kb : Nat} {V : SV} {s s1 : State} {cells : List Value} (h : ctT W base bx V s s1 kb cells ph w1) (hb : Below w1.heap.size w1 w2) : ctT W base bx V s s1 kb cells ph w2 :=
  ⟨relT_below h.1 hb, h.2.below hb h.2.lt⟩

set_option maxHeartbeats 8000000 in
set_option maxRecDepth 100000 in
theorem rCountOf (w : World) (v vs : Value) (p : Plan) (s : State) (b g n : Int) (hp : PlanV w w.heap.size v p) (hv : StateV w w.heap.size vs s) :
    Calls Tryz.prog 21 #[v, vs, .int .i64 b, .int .i64 g, .int .i64 n] w (ActPost (count p s b g n) w) := by
  obtain ⟨Ab, cb, As, cs, rfl, hP', hBn, hSz, hlb, hls⟩ := openPl hp
  obtain ⟨A0, c0, A1, c1, A2, c2, A3, c3, A4, c4, A5, c5, A6, c6, rfl, hV, hN, hO, hH, hM, hI, hU, hX, hl0, hl1, hl2, hl3, hl4, hl5, hl6⟩ := openOne hv
  go_enter Tryz.func21, Tryz.ntmps21
  go_wp2_with fail
  obtain ⟨W0, hW0, hb0, hsz0, hsz1, hsE, hK, hR⟩ := boxesAct w p s Ab cb As cs A0 c0 A1 c1 A2 c2 A3 c3 A4 c4 A5 c5 A6 c6
  rw [hW0]
  clear hW0
  obtain ⟨⟨y0, y1⟩, x0, x1, x2, x3, x4, x5, x6, hbz0, hbz1⟩ := hK.out W0 (Below.refl W0.heap.size W0)
  go_wp2_with fail
  clear y0 y1 x0 x1 x2 x3 x4 x5 x6 hbz0 hbz1
  refine (rCheckState _ _ _ p s (hP'.out _ hb0) (hV.out _ hb0)).mono ?_
  rintro e W1 ⟨rfl, h1⟩
  have hB1 := hb0.trans (h1.mono hb0.size)
  obtain ⟨⟨y0, y1⟩, x0, x1, x2, x3, x4, x5, x6, hbz0, hbz1⟩ := hK.out W1 (h1)
  by_cases hc : checkState p s = 0
  · have hc' := Lib.hid hc
    have hsn := Lib.hid (checkState_zero.1 hc).1
    rw [hc]
    clear hc
    go_wp2_with fail
    clear y0 y1 x0 x1 x2 x3 x4 x5 x6 hbz0 hbz1
    have hcnt := hsn.out.counts
    refine (rIsBin _ _ p b (hP'.out _ hB1) (by omega)).mono ?_
    rintro e W2 ⟨rfl, h2⟩
    have h02 := h1.trans (h2.mono h1.size)
    have hB2 := hb0.trans (h02.mono hb0.size)
    obtain ⟨⟨y0, y1⟩, x0, x1, x2, x3, x4, x5, x6, hbz0, hbz1⟩ := hK.out W2 (h02)
    cases hth : isBin p b
    · have hfin := Lib.hid (count_range (g := g) (n := n) hc'.out (by rw [hth]; rfl))
      clear hth
      have hbx9 := hR.out _ h02
      go_wp2_with (refine wpList_store_state rfl (.tmp 10) (.tmp 41) rfl rfl (w.heap.size + 1 + 1) nilSV nilSV hbx9 rfl rfl rfl (fun w9 hbox9 hg9 => ?_))
      obtain ⟨p0, p1, p2, p3, p4, p5, p6⟩ := BoxAt.cells hbox9
      have hfin9 : Below w.heap.size w w9 := Below.grown hB2 hg9 (Below.size hB2) (fun k hk => by injection hk with hk; omega)
      go_wp2_with fail
      exact bodyPost_ret (v := .tuple #[nilSV.val, .int .i64 3]) (by simp [results, Tryz.results21, go_sem, SV.val, p0, p1, p2, p3, p4, p5, p6]) rfl (actErr hfin.out hfin9)
    have hth0 := Lib.hid hth
    clear hth
    go_wp2_with fail
    clear y0 y1 x0 x1 x2 x3 x4 x5 x6 hbz0 hbz1
    refine (rIsGood _ _ p g (hP'.out _ hB2) (by omega)).mono ?_
    rintro e W8 ⟨rfl, h8⟩
    have h08 := h02.trans (h8.mono h02.size)
    have hB8 := hb0.trans (h08.mono hb0.size)
    obtain ⟨⟨y0, y1⟩, x0, x1, x2, x3, x4, x5, x6, hbz0, hbz1⟩ := hK.out W8 (h08)
    cases hth : isGood p g
    · have hfin := Lib.hid (count_range (n := n) hc'.out (by rw [hth0.out, hth]; rfl))
      clear hth
      have hbx9 := hR.out _ h08
      go_wp2_with (refine wpList_store_state rfl (.tmp 10) (.tmp 41) rfl rfl (w.heap.size + 1 + 1) nilSV nilSV hbx9 rfl rfl rfl (fun w9 hbox9 hg9 => ?_))
      obtain ⟨p0, p1, p2, p3, p4, p5, p6⟩ := BoxAt.cells hbox9
      have hfin9 : Below w.heap.size w w9 := Below.grown hB8 hg9 (Below.size hB8) (fun k hk => by injection hk with hk; omega)
      go_wp2_with fail
      exact bodyPost_ret (v := .tuple #[nilSV.val, .int .i64 3]) (by simp [results, Tryz.results21, go_sem, SV.val, p0, p1, p2, p3, p4, p5, p6]) rfl (actErr hfin.out hfin9)
    have hth1 := Lib.hid hth
    clear hth
    go_wp2_with fail
    clear y0 y1 x0 x1 x2 x3 x4 x5 x6 hbz0 hbz1
    refine (rWithin n 0 200 _).mono ?_
    rintro e w' ⟨rfl, rfl⟩
    obtain ⟨⟨y0, y1⟩, x0, x1, x2, x3, x4, x5, x6, hbz0, hbz1⟩ := hK.out W8 (h08)
    cases hwn : within n 0 200
    · have hfin := Lib.hid (count_range (b := b) (g := g) (n := n) hc'.out (by rw [hwn, Bool.and_false]))
      clear hwn
      have hbx9 := hR.out _ h08
      go_wp2_with (refine wpList_store_state rfl (.tmp 10) (.tmp 41) rfl rfl (w.heap.size + 1 + 1) nilSV nilSV hbx9 rfl rfl rfl (fun w9 hbox9 hg9 => ?_))
      obtain ⟨p0, p1, p2, p3, p4, p5, p6⟩ := BoxAt.cells hbox9
      have hfin9 : Below w.heap.size w w9 := Below.grown hB8 hg9 (Below.size hB8) (fun k hk => by injection hk with hk; omega)
      go_wp2_with fail
      exact bodyPost_ret (v := .tuple #[nilSV.val, .int .i64 3]) (by simp [results, Tryz.results21, go_sem, SV.val, p0, p1, p2, p3, p4, p5, p6]) rfl (actErr hfin.out hfin9)
    obtain ⟨hn1, hn2⟩ := within_iff.1 hwn
    clear hwn
    obtain ⟨i, rfl, hi⟩ := bin_nat hth0.out
    obtain ⟨j, rfl, hj⟩ := good_nat hth1.out
    clear hth0 hth1
    have hil : i < s.on.length := by rw [hsn.out.onLen]; exact hi
    have hjl : j < (rowAt s.on i).length := by rw [hsn.out.rowLen hi]; exact hj
    have hfl : j < s.fixed.length := by rw [hsn.out.fixed.1]; exact hj
    have hii : (i : Int) < (s.on.length : Int) := by omega
    have hji : (j : Int) < ((rowAt s.on i).length : Int) := by omega
    have hfi : (j : Int) < (s.fixed.length : Int) := by omega
    have hcl := hsn.out.cell hi hj
    have hfx := hsn.out.fixed.2 hj
    have hw1 : IntKind.i64.wrap (intAt s.fixed j + n) = intAt s.fixed j + n := IntWalk.i64_in _ (by omega)
    have hw2 : IntKind.i64.wrap (intAt s.fixed j + n - cell s.on i j) = intAt s.fixed j + n - cell s.on i j := IntWalk.i64_in _ (by omega)
    obtain ⟨Ar, cr, or0, lr0, rr0, hrow⟩ := (hN.out W8 hB8).row hil
    obtain ⟨or1, lr1, rr1⟩ := hrow.at_.int hjl
    obtain ⟨ox, lx, rx⟩ := (hX.out W8 hB8).at_.int (i := j) hfl
    change W8.cell? _ = some (.int .i64 (cell s.on i j)) at rr1
    change W8.cell? _ = some (.int .i64 (intAt s.fixed j)) at rx
    have q1 := fun o d os => cells_wld (w := W8) (b := w.heap.size + 1) hbz0 o d os
    have q2 := fun o d os => cells_wld (w := W8) (b := ablk A0) lr0 o d os
    have q3 := fun o d os => cells_wld (w := W8) (b := ablk Ar) lr1 o d os
    have q4 := fun o d os => cells_wld (w := W8) (b := ablk A6) lx o d os
    go_wp2_with fail
    refine wp_region_wld (by kernel_rfl) (by kernel_rfl) ?_
    repeat (go_big_quiet_step ((go_at_call 38; refine calls_wld_same (rWithin _ _ _ _))))
    refine wpQuiet_nil ?_
    intro W9 hw'
    have hb9 := below_of_cls hw'
    clear hw'
    clear q1 q2 q3 q4 rr0 rr1 rx
    clear y0 y1 x0 x1 x2 x3 x4 x5 x6 hbz0 hbz1
    have h09 := h08.trans (hb9.mono h08.size)
    have hB9 := hb0.trans (h09.mono hb0.size)
    obtain ⟨⟨y0, y1⟩, x0, x1, x2, x3, x4, x5, x6, hbz0, hbz1⟩ := hK.out W9 (h09)
    cases hwf : within (intAt s.fixed j + n - cell s.on i j) (-1048576) 1048576
    · have hfin := Lib.hid (count_many (n := n) hc'.out hi hj ⟨hn1, hn2⟩ (within_false.1 hwf))
      clear hwf
      have hbx9 := hR.out _ h09
      go_wp2_with (refine wpList_store_state rfl (.tmp 10) (.tmp 60) rfl rfl (w.heap.size + 1 + 1) nilSV nilSV hbx9 rfl rfl rfl (fun w9 hbox9 hg9 => ?_))
      obtain ⟨p0, p1, p2, p3, p4, p5, p6⟩ := BoxAt.cells hbox9
      have hfin9 : Below w.heap.size w w9 := Below.grown hB9 hg9 (Below.size hB9) (fun k hk => by injection hk with hk; omega)
      go_wp2_with fail
      exact bodyPost_ret (v := .tuple #[nilSV.val, .int .i64 2]) (by simp [results, Tryz.results21, go_sem, SV.val, p0, p1, p2, p3, p4, p5, p6]) rfl (actErr hfin.out hfin9)
    have hf := Lib.hid (show Counts p s i j n from ⟨hi, hj, hn1, hn2, (within_iff.1 hwf).1, (within_iff.1 hwf).2⟩)
    clear hwf
    go_wp2_with fail
    clear y0 y1 x0 x1 x2 x3 x4 x5 x6 hbz0 hbz1
    refine (rOwnState _ _ p s (hV.out _ hB9) hsn.out).mono ?_
    rintro e W5 ⟨_, rfl, ⟨V5, rfl, ho5⟩, h5⟩
    have hone6 := (ho5).one
    have hnb6 := newBox (W5)
    go_wp2_with (refine wpList_store_state rfl (.tmp 13) (.tmp 62) rfl rfl (World.heap (W5)).size nilSV V5 hnb6 rfl rfl hone6 (fun w6 hbox6 hg6 => ?_); refine Hid.out ?_)
    unfold Hid
    have hbb6 := newBelow hg6
    have hbl6 := hbox6.lt
    clear hone6 hnb6 hg6
    have hx6 := Lib.hid (Bx.of hbox6 (ho5.below hbb6))
    have h06 := h09.trans ((h5.trans (hbb6.mono h5.size)).mono h09.size)
    have hle : w.heap.size ≤ W9.heap.size := hB9.size
    have hle0 : W0.heap.size ≤ W9.heap.size := h09.size
    have hle5 : W9.heap.size ≤ W5.heap.size := h5.size
    clear hbox6 ho5 hbb6 h5 hbl6 h1 hB1 h02 hB2 h08 hB8 h8 h2 h09 hB9 hb9
    generalize W5.heap.size = bx at hx6 hle5 ⊢
    generalize W9.heap.size = base at hx6 hle hle0 hle5
    obtain ⟨gf, cf, curf, ef, hgfb, hbf, rf⟩ := OwnSt.intAtOwn hx6.out.own.fixed (g := j) hfl
    obtain ⟨gon, con, cur0, gr, cr', cur, eon, hgon, hbn0, r0, er, hgrb, hbr, rc⟩ := hx6.out.own.onAt hil hjl
    have c0 := hx6.out.cells.1
    have c6 := hx6.out.cells.2.2.2.2.2.2
    rw [ef] at c6
    rw [eon] at c0
    have ef' := Lib.hid ef
    clear ef eon er
    go_wp2_with fail
    go_still_tail 20, (by kernel_rfl)
    change wpList _ _ _ _ _ w6.drew
    refine wp_st_fixed rfl (.tmp 82) (.tmp 81) rfl rfl (g := j) (q := intAt s.fixed j + n - cell s.on i j) hx6.out.drew hfl ef'.out rfl rfl (fun w7 hx7 hst7 => ?_)
    refine wpList_nil ?_
    have h07 := h06.drew.trans (hst7.below (B := W0.heap.size) (fun q hq => by omega) h06.drew.size)
    have hx7' := Lib.hid hx7
    clear hx7 hst7 c0 c6 rf hbf ef' hgfb hgon hbn0 r0 hgrb hbr rc hx6 h06
    obtain ⟨gon, con, cur0, gr, cr', cur, eon, hgon, hbn0, r0, er, hgrb, hbr, rc⟩ := hx7'.out.own.onAt (b := i) (g := j) hil hjl
    have c0 := hx7'.out.cells.1
    rw [eon] at c0
    have er' := Lib.hid er
    clear eon er rc
    go_wp2_with (refine wp_st_on rfl (.tmp 90) (.tmp 89) rfl rfl (i := i) (g := j) (q := n) hx7'.out hil hjl er'.out rfl rfl (fun w8 hx8 hst8 => ?_); refine Hid.out ?_)
    unfold Hid
    have h08 := h07.trans (hst8.below (B := W0.heap.size) (fun q hq => by omega) h07.size)
    have hx8' := Lib.hid hx8
    clear hx8 hst8 c0 r0 hbn0 hgon hgrb hbr er' hx7' h07
    go_wp2_with fail
    have e0 : cutS s i j n 0 = { { s with fixed := s.fixed.set j (intAt s.fixed j + n - cell s.on i j) } with on := setCell s.on i j n } := by
      unfold cutS
      rw [cutHd_zero hsn.out, cutMv_zero hsn.out, cutOrders_zero hsn.out]
    have hx9 := hx8'.out
    rw [← e0] at hx9
    clear e0
    have hblk9 := Lib.hid (Blk.new w8 104 #[.int .i64 0, .int .i64 0, .int .i64 0, .int .i64 0, .int .i64 0, .int .i64 0, .int .i64 0, .int .i64 0, .int .i64 0, .int .i64 0, .int .i64 0, .int .i64 0])
    have ha9 : Below w8.heap.size w8 (w8.alloc (.cells #[.int .i64 0, .int .i64 0, .int .i64 0, .int .i64 0, .int .i64 0, .int .i64 0, .int .i64 0, .int .i64 0, .int .i64 0, .int .i64 0, .int .i64 0, .int .i64 0] 104)) := (Below.refl _ _).alloc (Nat.le_refl _) _
    have hxa := Lib.hid (hx9.below ha9)
    have h0a := h08.trans (ha9.mono h08.size)
    have hle8 : base ≤ w8.heap.size := by have := hx9.box.lt; omega
    clear hx9 hx8' ha9 h08
    generalize w8.heap.size = kb at hblk9 hle8 ⊢
    generalize w8.alloc (.cells #[.int .i64 0, .int .i64 0, .int .i64 0, .int .i64 0, .int .i64 0, .int .i64 0, .int .i64 0, .int .i64 0, .int .i64 0, .int .i64 0, .int .i64 0, .int .i64 0] 104) = w9 at hblk9 hxa h0a ⊢
    have hr := Lib.hid (right_of_check hc'.out)
    have hbd := bound_range hsn.out i j
    have hov : 0 ≤ over s i j n ∧ over s i j n ≤ bound s i j := by unfold over; omega
    have hx0 := hblk9.out
    rw [← cutCells_zero (b := i) (g := j) hsn.out] at hx0
    have hblk := Lib.hid hx0
    clear hx0 hblk9
    go_loopg [15, 16] (over s i j n).toNat (fun gk _ _ wr => ∃ (t : Int) (V : SV), gk = (over s i j n - t).toNat ∧ 0 ≤ t ∧ t ≤ over s i j n ∧ Bx wr base bx 31 [] V (cutS s i j n t) ∧ Blk wr kb 104 (cutCells s i j t) ∧ Below W0.heap.size W0 wr)
    case atStart => exact ⟨0, _, by rw [Int.sub_zero], Int.le_refl _, hov.1, hxa.out, hblk.out, h0a⟩
    case round =>
      obtain ⟨t, V, hgk, ht0, ht1, hx, hbk, h0r⟩ := hrel
      have hxr := Lib.hid hx
      have hbkr := Lib.hid hbk
      have hgk' := Lib.hid hgk
      clear hx hbk hgk hxa hblk h0a
      have hst := Lib.hid (cut_sane hr.out hf.out t)
      have hBr := hb0.trans (h0r.mono hb0.size)
      obtain ⟨p0, p1, p2, p3, p4, p5, p6⟩ := hxr.out.cells
      have tbx := hxr.out.lt
      go_wp2_with fail
      clear p0 p1 p2 p3 p4 p5 p6
      refine (rBound _ _ p _ i j (hxr.out.own.view hst.out) hst.out).mono ?_
      rintro e W1 ⟨rfl, h1⟩
      rw [cut_bound_at hr.out ht0 (by omega)]
      by_cases hlt : n < bound s i j - t
      · have hlt' := decide_eq_true hlt
        have hx1 := Lib.hid (hxr.out.below h1)
        have hbk1 := Lib.hid (hbkr.out.below h1 hbkr.out.lt)
        have h01 := h0r.trans (h1.mono h0r.size)
        clear hxr hbkr h1 hBr h0r tbx
        obtain ⟨p0, p1, p2, p3, p4, p5, p6⟩ := hx1.out.cells
        have tbx := hx1.out.lt
        go_wp2_with fail
        clear p0 p1 p2 p3 p4 p5 p6
        refine (rLastMove _ _ p _ i j (hx1.out.own.view hst.out) hst.out).mono ?_
        rintro e W2 ⟨rfl, h2⟩
        have hx2 := Lib.hid (hx1.out.below h2)
        have hbk2 := Lib.hid (hbk1.out.below h2 hbk1.out.lt)
        have h02 := h01.trans (h2.mono h01.size)
        clear hx1 hbk1 h2 h01 tbx hlt'
        generalize hsT : cutS s i j n t = sT at hst hx2 ⊢
        have hmvs : cutMv s i j t = sT.moves := by rw [← hsT]; rfl
        have hhds : cutHd s i j t = sT.holds := by rw [← hsT]; rfl
        have hsp : (lastMv sT.moves i j = -1 ∧ ∀ q, q < sT.moves.length → ¬ ((moveAt sT.moves q).src = (i : Int) ∧ (moveAt sT.moves q).good = (j : Int))) ∨ ∃ k : Nat, k < sT.moves.length ∧ lastMv sT.moves i j = k ∧ ((moveAt sT.moves k).src = (i : Int) ∧ (moveAt sT.moves k).good = (j : Int)) ∧ ∀ q, k < q → q < sT.moves.length → ¬ ((moveAt sT.moves q).src = (i : Int) ∧ (moveAt sT.moves q).good = (j : Int)) := lastMvTo_spec sT.moves i j sT.moves.length
        have hmeas : t < over s i j n := by unfold over; omega
        have htb : t < bound s i j := by omega
        clear hlt
        rcases hsp with ⟨he, hno⟩ | ⟨k, hk, he, hat, hlast⟩
        · rw [he]
          clear he
          have h0 : ∀ x ∈ cutMv s i j t, ¬ (x.src = (i : Int) ∧ x.good = (j : Int)) := fun x hx => by
            rw [hmvs] at hx
            obtain ⟨q, hq, rfl⟩ := List.getElem_of_mem hx
            rw [← moveAt_eq hq]
            exact hno q hq
          have hany := piece_some hsn.out ht0 htb h0
          rw [hhds] at hany
          have hkk : ∀ q, q < sT.holds.length → ∃ a c : Nat, (hold sT.holds q).order = a ∧ (hold sT.holds q).line = c ∧ a < s.orders.length ∧ c < (s.order a).lines.length := fun q hq => by
            have h1 := hst.out.holdAt hq
            have h2 : sT.orders.length = s.orders.length := by rw [← hsT, cut_len]
            have h3 : (hold sT.holds q).order.toNat < s.orders.length := by omega
            have h4 : (sT.order (hold sT.holds q).order.toNat).lines.length = (s.order (hold sT.holds q).order.toNat).lines.length := by rw [← hsT, cut_lines _ (by rw [hsT]; exact h3)]
            exact ⟨(hold sT.holds q).order.toNat, (hold sT.holds q).line.toNat, by omega, by omega, h3, by omega⟩
          have hiso : ∀ q, q < sT.holds.length → (hdC sT i j).is (hold sT.holds q) = (hdC s i j).is (hold sT.holds q) := fun q hq => by
            obtain ⟨a, c, h1, h2, h3, h4⟩ := hkk q hq
            rw [← hsT]
            refine cut_is (by rw [hsT, h1]; exact h3) (by rw [hsT, h1, h2]; exact h4)
          have hsp2 : (lastHd sT i j = -1 ∧ ∀ q, q < sT.holds.length → (hdC sT i j).is (hold sT.holds q) = false) ∨ ∃ k : Nat, k < sT.holds.length ∧ lastHd sT i j = k ∧ (hdC sT i j).is (hold sT.holds k) = true ∧ ∀ q, k < q → q < sT.holds.length → (hdC sT i j).is (hold sT.holds q) = false := lastHdTo_spec sT i j sT.holds.length
          rcases hsp2 with ⟨_, hn⟩ | ⟨k, hk, he, hat, hlast⟩
          · obtain ⟨x, hx, hxi⟩ := List.any_eq_true.1 hany
            obtain ⟨q, hq, rfl⟩ := List.getElem_of_mem hx
            rw [← hold_get hq, ← hiso q hq, hn q hq] at hxi
            cases hxi
          obtain ⟨a, c, ha, hc2, hao, hcl⟩ := hkk k hk
          have hph := piece_hold (seen := n) hsn.out ht0 h0 (k := k) (by rw [hhds]; exact hk) (by rw [hhds, ← hiso k hk]; exact hat) (fun q hkq hq => by rw [hhds] at hq ⊢; rw [← hiso q hq]; exact hlast q hkq hq) (by rw [hhds]; exact ha) (by rw [hhds]; exact hc2) hao hcl
          rw [hhds, hsT] at hph
          have hmr := hst.out.holdAt hk
          have hkey := ok_key hst.out.holds hk
          obtain ⟨a0, c0, bi, m, hxh⟩ : ∃ a0 c0 bi m, hold sT.holds k = ⟨a0, c0, bi, m⟩ := ⟨_, _, _, _, rfl⟩
          obtain ⟨gh, ch, curh, eh, hghb, hbh, z0, z1, z2, z3⟩ := hx2.out.own.holdAt hk
          rw [hxh] at ha hc2 hph hmr hkey z0 z1 z2 z3
          simp only at ha hc2 hph hmr hkey z0 z1 z2 z3
          subst ha hc2
          have haT : a < sT.orders.length := by rw [← hsT, cut_len]; exact hao
          have hcT : c < (sT.order a).lines.length := by rw [← hsT, cut_lines a hao]; exact hcl
          have ha4 : a < 4 := by have := hsn.out.orders4; omega
          have hc3 : c < 3 := by have := (hsn.out.lines3 hao).2; omega
          have hm1 : 1 ≤ m ∧ m ≤ 200 := by omega
          have hline := hst.out.line haT hcT
          have hbr : 0 ≤ (sT.line a c).back ∧ (sT.line a c).back ≤ 200 := by omega
          have hcn := cutN_range hsn.out i j t a c
          have hkr := kept_range hsn.out.holds a c
          have hcn2 : 0 ≤ cutN s i j t a c ∧ cutN s i j t a c ≤ 1200 := by omega
          have hph1 := Lib.hid hph.1
          have hph2 := Lib.hid hph.2
          have he' := Lib.hid he
          have eh' := Lib.hid eh
          have lgh := hbh.lt
          have tbx := hx2.out.lt
          have hki : (k : Int) < (sT.holds.length : Int) := by omega
          have hwn : IntKind.i64.wrap (m - 1) = m - 1 := IntWalk.i64_in _ (by omega)
          have hwb : IntKind.i64.wrap ((sT.line a c).back + 1) = (sT.line a c).back + 1 := IntWalk.i64_in _ (by omega)
          have hwc : IntKind.i64.wrap (cutN s i j t a c + 1) = cutN s i j t a c + 1 := IntWalk.i64_in _ (by omega)
          clear hno h0 hany hkk hiso he hat hlast hph hmr hline hcn hkr eh hmvs hhds hsT
          go_wp2_with fail
          refine wp_region_ops 9 [fun gq _ => gq 132 = .pointer (some ⟨bx, 2, none⟩), fun gq _ => gq 133 = .slice (some ⟨gh, 0, none⟩) sT.holds.length ch, fun gq _ => gq 134 = .agg #[V.on, V.orders, V.holds, V.moves, V.inn, V.out, V.fixed], fun gq _ => gq 135 = .int .i64 i, fun gq _ => gq 136 = .int .i64 j, fun gq w' => (fun v w' => v = .int .i64 k) (gq 137) w', fun gq _ => gq 138 = .pointer (some ⟨gh, k * 4, none⟩), fun gq _ => gq 139 = .agg #[.int .i64 a, .int .i64 c, .int .i64 bi, .int .i64 m], fun gq w' => (fun v w' => ∃ hh, v = .pointer (some ⟨hh, 0, none⟩) ∧ W2.heap.size ≤ hh ∧ Blk w' hh 46 [.int .i64 0, .int .i64 0, .int .i64 0, .int .i64 0]) (gq 16) w'] (by kernel_rfl) (by kernel_rfl) rfl (by kernel_rfl) ?_ (fun f W3 hb3 hR => ?_)
          simp only [List.take_succ_cons, List.take_zero]
          refine OpsOK.cons (OpOK.val rfl rfl (fun gq w' hb ho hd => ?_)) ?_
          · have e13 := ho 13 rfl
            go_simp
          refine OpsOK.cons (OpOK.val rfl rfl (fun gq w' hb ho hd => ?_)) ?_
          · have e132 : gq 132 = .pointer (some ⟨bx, 2, none⟩) := hd ⟨0, .data⟩ (by simp) rfl (by decide)
            have x2 := (hx2.out.below hb).cells.2.2.1
            rw [eh'.out] at x2
            go_simp
          refine OpsOK.cons (OpOK.val rfl rfl (fun gq w' hb ho hd => ?_)) ?_
          · have e13 := ho 13 rfl
            obtain ⟨x0, x1, x2, x3, x4, x5, x6⟩ := (hx2.out.below hb).cells
            go_simp
          refine OpsOK.cons (OpOK.val rfl rfl (fun gq w' hb ho hd => ?_)) ?_
          · have e2 := ho 2 rfl
            go_simp
          refine OpsOK.cons (OpOK.val rfl rfl (fun gq w' hb ho hd => ?_)) ?_
          · have e3 := ho 3 rfl
            go_simp
          refine OpsOK.cons (OpOK.one (d := 137) (p := (fun v w' => v = .int .i64 k)) rfl rfl (fun v w1 w2 h hb => h) (fun gq w' hb ho hd => ?_)) ?_
          · have e134 : gq 134 = .agg #[V.on, V.orders, V.holds, V.moves, V.inn, V.out, V.fixed] := hd ⟨2, .data⟩ (by simp) rfl (by decide)
            have e135 : gq 135 = .int .i64 i := hd ⟨3, .data⟩ (by simp) rfl (by decide)
            have e136 : gq 136 = .int .i64 j := hd ⟨4, .data⟩ (by simp) rfl (by decide)
            unfold OpRel
            go_simp
            refine (rLastHold w' _ p sT i j ((hx2.out.below hb).own.view hst.out) hst.out).mono ?_
            rintro e w2 ⟨rfl, h⟩
            exact ⟨_, rfl, by rw [he'.out], h⟩
          refine OpsOK.cons (OpOK.val rfl rfl (fun gq w' hb ho hd => ?_)) ?_
          · have e133 : gq 133 = .slice (some ⟨gh, 0, none⟩) sT.holds.length ch := hd ⟨1, .data⟩ (by simp) rfl (by decide)
            have e137 : (gq 137) = .int .i64 k := hd ⟨5, .data⟩ (by simp) rfl (by decide)
            go_simp
          refine OpsOK.cons (OpOK.val rfl rfl (fun gq w' hb ho hd => ?_)) ?_
          · have e138 : gq 138 = .pointer (some ⟨gh, k * 4, none⟩) := hd ⟨6, .data⟩ (by simp) rfl (by decide)
            have u0 := (hb.cell (p := ⟨gh, k * 4, none⟩) lgh).trans z0
            have u1 := (hb.cell (p := ⟨gh, k * 4 + 1, none⟩) lgh).trans z1
            have u2 := (hb.cell (p := ⟨gh, k * 4 + 2, none⟩) lgh).trans z2
            have u3 := (hb.cell (p := ⟨gh, k * 4 + 3, none⟩) lgh).trans z3
            go_simp
          refine OpsOK.cons (OpOK.one (d := 16) (p := (fun v w' => ∃ hh, v = .pointer (some ⟨hh, 0, none⟩) ∧ W2.heap.size ≤ hh ∧ Blk w' hh 46 [.int .i64 0, .int .i64 0, .int .i64 0, .int .i64 0])) rfl rfl (fun v w1 w2 h hb => let ⟨hh, h1, h2, h3⟩ := h; ⟨hh, h1, h2, h3.below hb h3.lt⟩) (fun gq w' hb ho hd => ?_)) ?_
          · unfold OpRel
            go_simp
            exact ⟨⟨hb.size, Blk.new _ _ _⟩, (Below.refl _ _).alloc (Nat.le_refl _) _⟩
          exact OpsOK.nil
          obtain ⟨r132, r133, r134, r135, r136, r137, r138, r139, r16, _⟩ := hR
          replace r137 : (f 137) = .int .i64 k := r137
          replace r16 : ∃ hh, (f 16) = .pointer (some ⟨hh, 0, none⟩) ∧ W2.heap.size ≤ hh ∧ Blk W3 hh 46 [.int .i64 0, .int .i64 0, .int .i64 0, .int .i64 0] := r16
          simp only [fillA, fillT, List.take_succ_cons, List.take_zero, List.drop_succ_cons, List.drop_zero, List.filterMap_cons, List.filterMap_nil, List.foldl_cons, List.foldl_nil, List.setIfInBounds_toArray, List.set_cons_zero, List.set_cons_succ, r132, r133, r134, r135, r136, r137, r138, r139]
          clear r132 r133 r134 r135 r136 r137 r138 r139
          obtain ⟨hh, r16, hhle, hbl⟩ := r16
          simp only [r16]
          clear r16
          refine wpList_store_row rfl 46 (.tmp 16) (.tmp 139) rfl hh #[.int .i64 a, .int .i64 c, .int .i64 bi, .int .i64 m] rfl rfl 46 _ hbl (by kernel_rfl) rfl (by simp [Value.oneCell']) ?_
          refine wpList_nil ?_
          have hb4 := below_row hb3 hhle #[.int .i64 a, .int .i64 c, .int .i64 bi, .int .i64 m]
          have hbl4 := Lib.hid (show Blk (W3.setRow hh #[.int .i64 a, .int .i64 c, .int .i64 bi, .int .i64 m]) hh 46 [.int .i64 a, .int .i64 c, .int .i64 bi, .int .i64 m] from Blk.row hbl [.int .i64 a, .int .i64 c, .int .i64 bi, .int .i64 m])
          generalize W3.setRow hh #[.int .i64 a, .int .i64 c, .int .i64 bi, .int .i64 m] = W4 at hb4 hbl4 ⊢
          have hx4 := Lib.hid (hx2.out.below hb4)
          have hbk4 := Lib.hid (hbk2.out.below hb4 hbk2.out.lt)
          have h04 := h02.trans (hb4.mono h02.size)
          clear hb3 hbl hb4 hbk2 hx2 z0 z1 z2 z3 hbh h02 lgh tbx
          have tbx := hx4.out.lt
          have hl72 := ok_len72 hst.out.holds
          have u0 := hbl4.out.cell (j := 0) rfl
          have u1 := hbl4.out.cell (j := 1) rfl
          have u2 := hbl4.out.cell (j := 2) rfl
          have u3 := hbl4.out.cell (j := 3) rfl
          have lhh := hbl4.out.lt
          have x2 := hx4.out.cells.2.2.1
          rw [eh'.out] at x2
          have hsl := hx4.out.own.holds.sl (by omega)
          rw [eh'.out] at hsl
          go_wp2_with fail
          clear u0 u1 u2 u3 x2
          refine (rWith _ _ sT.holds a c bi (m - 1) hsl hst.out.holds hkey).mono ?_
          rintro e W5 ⟨u, rfl, hu, h5⟩
          obtain ⟨A7, c7, rfl⟩ := hu.isSlice
          have hx5 := Lib.hid (hx4.out.below h5)
          have hu5 := Lib.hid (hu.from_ (show base ≤ W4.heap.size by omega))
          have hbk5 := Lib.hid (hbk4.out.below h5 hbk4.out.lt)
          have hbl5 := Lib.hid (hbl4.out.below h5 lhh)
          have h05 := h04.trans (h5.mono h04.size)
          clear hx4 hu hbk4 hbl4 h5 h04 hsl
          go_wp2_with (refine wp_st_holds rfl (.tmp 152) (.tmp 151) rfl rfl A7 _ c7 _ hx5.out rfl rfl hu5.out (fun w6 hx6 hst6 => ?_); refine Hid.out ?_)
          unfold Hid
          have hbk6 := Lib.hid (hst6.blk hbk5.out (hbk5.out.ne hx5.out.box (by decide)))
          have hbl6 := Lib.hid (hst6.blk hbl5.out (hbl5.out.ne hx5.out.box (by decide)))
          have h06 := h05.trans (hst6.below (B := W0.heap.size) (fun q hq => by omega) h05.size)
          have hx6' := Lib.hid hx6
          clear hx6 hst6 hx5 hu5 hbk5 hbl5 h05
          obtain ⟨gl, cl, curl, el, hgl, hbll, f0, f1, f2, f3⟩ := hx6'.out.own.lineAt (o := a) (k := c) haT hcT
          obtain ⟨go, co, curo, eo, hgo, hblo, d0, d1⟩ := hx6'.out.own.orderAt (o := a) haT
          change _ = Value.slice (some ⟨gl, 0, none⟩) (sT.order a).lines.length cl at el
          have c1 := hx6'.out.cells.2.1
          rw [eo] at c1
          rw [el] at d1
          have el' := Lib.hid el
          change w6.cell? _ = some (.int .i64 (sT.line a c).back) at f3
          have u0 := hbl6.out.cell (j := 0) rfl
          have u1 := hbl6.out.cell (j := 1) rfl
          have u2 := hbl6.out.cell (j := 2) rfl
          have u3 := hbl6.out.cell (j := 3) rfl
          have lhh := hbl6.out.lt
          have tbx := hx6'.out.lt
          have hai : (a : Int) < (sT.orders.length : Int) := by omega
          have hci : (c : Int) < ((sT.order a).lines.length : Int) := by omega
          clear f0 f1 f2 d0 el eo
          go_wp2_with fail
          go_still_tail 15, (by kernel_rfl)
          change wpList _ _ _ _ _ w6.drew
          refine wp_st_line rfl (.tmp 167) (.tmp 165) rfl rfl (i := a) (k := c) (j := 3) (y := { sT.line a c with back := (sT.line a c).back + 1 }) hx6'.out.drew haT hcT el'.out (by decide) rfl rfl rfl (fun w7 hx7 hst7 => ?_)
          refine wpList_nil ?_
          have hbk7 := Lib.hid (hst7.blk hbk6.out.drew (hbk6.out.drew.ne hbll.drew (by decide)))
          have hbl7 := Lib.hid (hst7.blk hbl6.out.drew (hbl6.out.drew.ne hbll.drew (by decide)))
          have h07 := h06.drew.trans (hst7.below (B := W0.heap.size) (fun q hq => by omega) h06.drew.size)
          have hx7' := Lib.hid hx7
          clear hx7 hst7 hx6' hbk6 hbl6 h06 u0 u1 u2 u3 lhh tbx f3 d1 c1 hbll hblo
          have u0 := hbl7.out.cell (j := 0) rfl
          have u1 := hbl7.out.cell (j := 1) rfl
          have lhh := hbl7.out.lt
          have lcb := hbk7.out.lt
          have hcc := hbk7.out.cell (cutCells_at (s := s) (b := i) (g := j) (t := t) ha4 hc3)
          have ha4i : (a : Int) < 4 := by omega
          have hc3i : (c : Int) < 3 := by omega
          go_wp2_with fail
          go_still_tail 10, (by kernel_rfl)
          change wpList _ _ _ _ _ w7.drew
          refine wpList_store_int rfl (.tmp 177) (.tmp 175) rfl rfl kb (a * 3 + c) _ (cutN s i j t a c + 1) rfl rfl hcc (hbk7.out.frozen _) (fun w8 hw8 => ?_)
          refine wpList_nil ?_
          obtain ⟨hbk8, hg8⟩ := set_row hbk7.out.drew (a * 3 + c) (.int .i64 (cutN s i j t a c + 1))
          rw [hw8] at hbk8 hg8
          have hx8 : Bx w8 base bx 31 [] _ _ := ⟨hx7'.out.drew.box.grown hg8 (fun he => by injection he with he; exact (hbk7.out.ne hx7'.out.box (by decide)) he.symm), hx7'.out.drew.own.keptBy hg8 hbk7.out.drew (by decide) (by decide) (by decide) (by decide) (by decide) (by decide), hx7'.out.ty⟩
          rw [← cutCells_step hc3 hph2.out] at hbk8
          have hx8' := Lib.hid (show Bx w8 base bx 31 [] _ (cutS s i j n (t + 1)) by rw [hph1.out]; exact hx8)
          have hbk8' := Lib.hid hbk8
          have h08 := h07.drew.grown hg8 h07.drew.size (fun q hq => by injection hq with hq; omega)
          clear u0 u1 lhh lcb hcc hx8 hbk8 hg8 hw8 hx7' hbk7 hbl7 h07
          go_wp2_with fail
          go_roundg (over s i j n - (t + 1)).toNat
          case rel => exact ⟨t + 1, _, rfl, by omega, by omega, hx8'.out, hbk8'.out, h08⟩
          case measure => rw [hgk'.out]; omega
        · rw [he]
          clear he
          have hpm0 := piece_move (seen := n) hsn.out ht0 (k := k) (by rw [hmvs]; exact hk) (by rw [hmvs]; exact hat) (by rw [hmvs]; exact hlast)
          rw [hmvs, hsT] at hpm0
          have hmr := hst.out.moveAt hk
          obtain ⟨gm, cm, curm, em, hgm, hbm, f0, f1, f2, f3⟩ := hx2.out.own.moveAt hk
          obtain ⟨mm, hmm⟩ : ∃ mm, (moveAt sT.moves k).n = mm := ⟨_, rfl⟩
          rw [hmm] at hmr f3 hpm0
          obtain ⟨m0, hm0⟩ : ∃ m0, m0 = mm - 1 := ⟨_, rfl⟩
          rw [← hm0] at hpm0
          have hm1 : 1 ≤ mm ∧ mm ≤ 200 := by omega
          have hwn : IntKind.i64.wrap (mm - 1) = m0 := by rw [hm0]; exact IntWalk.i64_in _ (by omega)
          have hmc : sT.moves.length ≤ cm := Own.cap (by have := hx2.out.own.moves; rw [em] at this; exact this)
          have p3 := hx2.out.cells.2.2.2.1
          rw [em] at p3
          have em' := Lib.hid em
          have hkn : (k : Int) < (sT.moves.length : Int) := by omega
          have hml8 := hst.out.moves8
          have lgm := hbm.lt
          have tbx := hx2.out.lt
          have hpm := Lib.hid hpm0
          have hm0' := Lib.hid hm0
          clear hmr f0 f1 f2 em hat hlast hmm hsT hmvs hhds hpm0 hm0
          go_wp2_with (refine wp_st_moveN rfl (.tmp 111) (.tmp 109) rfl rfl (k := k) (q := m0) hx2.out hk em'.out (by decide) rfl rfl (fun w3 hx3 hst3 => ?_); refine Hid.out ?_)
          unfold Hid
          obtain ⟨L, hL⟩ : ∃ L : List Move, L = sT.moves.set k { moveAt sT.moves k with n := m0 } := ⟨_, rfl⟩
          rw [← hL] at hx3 hpm
          have hLl : L.length = sT.moves.length := by rw [hL, List.length_set]
          have hLk : (moveAt L k).n = m0 := by rw [hL, moveAt_set_self hk]
          have hLe : L.eraseIdx k = sT.moves.eraseIdx k := by rw [hL, eraseIdx_set_self]
          have hbk3 := Lib.hid (hst3.blk hbk2.out (hbk2.out.ne hbm (by decide)))
          have h03 := h02.trans (hst3.below (B := W0.heap.size) (fun q hq => by omega) h02.size)
          have hx3' := Lib.hid hx3
          clear hx3 hst3 hx2 hbk2 h02 p3 f3 hbm hL lgm tbx
          obtain ⟨gm', cm', curm', em2, _, hbm, f0, f1, f2, f3⟩ := hx3'.out.own.moveAt (k := k) (show k < L.length by omega)
          rw [em'.out] at em2
          injection em2 with e1 e2 e3
          injection e1 with e1
          injection e1 with e1
          subst e1
          clear e2 e3 f0 f1 f2
          change w3.cell? _ = some (.int .i64 (moveAt L k).n) at f3
          rw [hLk] at f3
          have p3 := hx3'.out.cells.2.2.2.1
          rw [em'.out] at p3
          have lgm := hbm.lt
          have tbx := hx3'.out.lt
          have hLl' := Lib.hid hLl
          have hLe' := Lib.hid hLe
          clear hbm hLk hLl hLe
          by_cases hz : mm = 1
          · obtain rfl : m0 = 0 := by have := hm0'.out; omega
            have hz' := Lib.hid hz
            have hMv := Lib.hid (show ∀ W, Below w3.heap.size w3 W → At W W.heap.size (some ⟨gm, 0, none⟩) (L.flatMap cMove) from fun W hW => by
              have h := (hx3'.out.below hW).own.moves.sl (by show L.length ≤ _; have := hLl'.out; omega)
              rw [em'.out] at h
              exact h.at_)
            have hLn := hLl'.out
            have hlt : (L.take k).length = k := by rw [List.length_take]; omega
            have hld : (L.drop (k + 1)).length = sT.moves.length - (k + 1) := by rw [List.length_drop, hLn]
            have hba : Below w3.heap.size w3 (w3.alloc (.cells #[] 48)).drew := ((Below.refl _ _).alloc (Nat.le_refl _) _).drew
            have hown0 : Own cMove 4 48 (w3.alloc (.cells #[] 48)).drew w3.heap.size (.slice (some ⟨w3.heap.size, 0, none⟩) 0 0) [] := (Own.made0 w3 _ (Nat.le_refl _) : Own cMove 4 48 (w3.alloc (.cells #[] 48)) w3.heap.size (.slice (some ⟨w3.heap.size, 0, none⟩) 0 0) [])
            obtain ⟨v1, w1, hr1, hown1, hg1, hb1⟩ := run_app_moves _ w3.heap.size _ [] (L.take k) hown0 gm 0 cm _ (At.head (ys := (L.drop k).flatMap cMove) (by rw [← List.flatMap_append, List.take_append_drop]; exact hMv.out _ hba)) (by rw [hlt]; simp only [List.length_nil]; omega) hba.size
            rw [hlt] at hr1
            rw [List.nil_append] at hown1
            have h81 := hba.trans hb1
            obtain ⟨A1', c1', rfl⟩ := hown1.isSlice
            rw [hlt] at hr1 hown1
            have ho7 : ∃ o7, At w1 w1.heap.size (some ⟨gm, o7, none⟩) ((L.drop (k + 1)).flatMap cMove) ∧ (cm = k + 1 ∧ o7 = 0 ∨ ¬ cm = k + 1 ∧ o7 = (k + 1) * 4) := by
              by_cases hcq : cm = k + 1
              · refine ⟨0, ?_, .inl ⟨hcq, rfl⟩⟩
                have : L.drop (k + 1) = [] := List.drop_eq_nil_of_le (by omega)
                rw [this]
                exact At.nil
              · refine ⟨(k + 1) * 4, ?_, .inr ⟨hcq, rfl⟩⟩
                have h2 := hMv.out _ h81
                rw [← List.take_append_drop (k + 1) L, List.flatMap_append] at h2
                have h3 := h2.tail
                rwa [flat_length cMove 4 (fun _ => rfl), List.length_take, Nat.min_eq_left (by omega), Nat.zero_add] at h3
            obtain ⟨o7, hA7, ho7⟩ := ho7
            obtain ⟨v2, w2, hr2, hown2, hg2, hb2⟩ := run_app_moves w1 w3.heap.size (.slice A1' k c1') (L.take k) (L.drop (k + 1)) hown1 gm o7 (cm - (k + 1)) _ hA7 (by rw [hlt, hld]; omega) h81.size
            rw [hld] at hr2
            try rw [hlt] at hr2
            rw [← List.eraseIdx_eq_take_drop_succ] at hown2
            obtain ⟨A2', c2', rfl⟩ := hown2.isSlice
            have h82 := h81.trans hb2
            have h02 := h03.trans (h82.mono h03.size)
            have hx2 := hx3'.out.below h82
            have hO2 := Lib.hid (show OwnSt w2 base { V with moves := .slice A2' (L.eraseIdx k).length c2' } { sT with moves := L.eraseIdx k } from hx2.own.newMoves (World.grownBy.refl w2 _) (hown2.from_ (by have := hx3'.out.lt; omega)))
            have hbx2 := Lib.hid hx2.boxAt
            have hbk2 := Lib.hid (hbk3.out.below h82 hbk3.out.lt)
            have p3a := ((hx3'.out.below h81).cells.2.2.2.1).trans (congrArg some em'.out)
            have b3 := hx2.cells.2.2.2.1.trans (congrArg some em'.out)
            have b3f : w2.frozen? ⟨bx, 3, none⟩ = false := hx2.boxAt.blk.frozen 3
            have l81 := h81.size
            have l82 := h82.size
            have hr1' := Lib.hid hr1
            have hr2' := Lib.hid hr2
            have q1 : k ≤ cm := by omega
            have q2 : (k : Int) ≤ (cm : Int) := by omega
            have q3 : (0 : Int) ≤ (k : Int) + 1 := by omega
            have q4 : (k : Int) + 1 ≤ (sT.moves.length : Int) := by omega
            have q5 : ((k : Int) + 1).toNat = k + 1 := by omega
            have q6 : ¬ (cm = 0) := by omega
            have q7 : IntKind.i64.wrap ((k : Int) + 1) = (k : Int) + 1 := IntWalk.i64_in _ (by omega)
            have h82' := Lib.hid h82
            clear hown0 hown1 hown2 hr1 hr2 hA7 hx2 hg1 hg2 hb1 hb2 hba h81 h82 hlt hld hx3' hbk3 h03 hLn hz
            rcases ho7 with ⟨hcq, ho7⟩ | ⟨hcq, ho7⟩
            · subst ho7
              have hcq' : (cm = k + 1) = True := eq_true hcq
              clear hcq
              go_wp2_with fail
              clear f3
              go_region_law (first | refine step_append_at _ rfl (.tmp 119) (.tmp 123) 29 29 rfl (.slice (some ⟨w3.heap.size, 0, none⟩) 0 0) (.slice (some ⟨gm, 0, none⟩) k cm) (by simp [Act.eval, Act.put]) (by simp [Act.eval, Act.put]) hr1'.out ?_ | refine step_append_at _ rfl (.tmp 124) (.tmp 129) 29 29 rfl (.slice A1' k c1') (.slice (some ⟨gm, 0, none⟩) (sT.moves.length - (k + 1)) (cm - (k + 1))) (by simp [Act.eval, Act.put]) (by simp [Act.eval, Act.put]) hr2'.out ?_)
              all_goals
                clear p3 p3a b3 b3f q1 q2 q3 q4 q5 q6 q7 hcq'
                obtain ⟨hx10, hg10⟩ := Bx.set' (V := V) (V' := { V with moves := .slice A2' (L.eraseIdx k).length c2' }) (s' := { sT with moves := L.eraseIdx k }) (rest := []) (by rw [List.append_nil]; exact hbx2.out.blk) hO2.out boxT 3 (.slice A2' (L.eraseIdx k).length c2') rfl
                have hx10' := Lib.hid (show Bx (w2.setCell ⟨bx, 3, none⟩ (.slice A2' (L.eraseIdx k).length c2')) base bx 31 [] { V with moves := .slice A2' (L.eraseIdx k).length c2' } (cutS s i j n (t + 1)) by rw [hpm.out.1, if_pos hz'.out, ← hLe'.out]; exact hx10)
                have hbk10 := Lib.hid (show Blk (w2.setCell ⟨bx, 3, none⟩ (.slice A2' (L.eraseIdx k).length c2')) kb 104 (cutCells s i j (t + 1)) by rw [cutCells_same hpm.out.2]; exact hbk2.out.grown hg10 (fun he => by injection he with he; exact (hbk2.out.ne hbx2.out.blk (by decide)) he))
                have h010 := Below.grown h02 hg10 h02.size (fun k hk => by injection hk with hk; omega)
                clear hx10 hg10 hbx2 hO2 hr1' hr2' hbk2 l81 l82 h02
                generalize w2.setCell ⟨bx, 3, none⟩ (.slice A2' (L.eraseIdx k).length c2') = w10 at hx10' hbk10 h010 ⊢
                go_wp2_with fail
                go_roundg (over s i j n - (t + 1)).toNat
                case rel => exact ⟨t + 1, _, rfl, by omega, by omega, hx10'.out, hbk10.out, h010⟩
                case measure => rw [hgk'.out]; omega
            · subst ho7
              have hcq' := hcq
              clear hcq
              go_wp2_with fail
              clear f3
              go_region_law (first | refine step_append_at _ rfl (.tmp 119) (.tmp 123) 29 29 rfl (.slice (some ⟨w3.heap.size, 0, none⟩) 0 0) (.slice (some ⟨gm, 0, none⟩) k cm) (by simp [Act.eval, Act.put]) (by simp [Act.eval, Act.put]) hr1'.out ?_ | refine step_append_at _ rfl (.tmp 124) (.tmp 129) 29 29 rfl (.slice A1' k c1') (.slice (some ⟨gm, (k + 1) * 4, none⟩) (sT.moves.length - (k + 1)) (cm - (k + 1))) (by simp [Act.eval, Act.put]) (by simp [Act.eval, Act.put]) hr2'.out ?_)
              all_goals
                clear p3 p3a b3 b3f q1 q2 q3 q4 q5 q6 q7 hcq'
                obtain ⟨hx10, hg10⟩ := Bx.set' (V := V) (V' := { V with moves := .slice A2' (L.eraseIdx k).length c2' }) (s' := { sT with moves := L.eraseIdx k }) (rest := []) (by rw [List.append_nil]; exact hbx2.out.blk) hO2.out boxT 3 (.slice A2' (L.eraseIdx k).length c2') rfl
                have hx10' := Lib.hid (show Bx (w2.setCell ⟨bx, 3, none⟩ (.slice A2' (L.eraseIdx k).length c2')) base bx 31 [] { V with moves := .slice A2' (L.eraseIdx k).length c2' } (cutS s i j n (t + 1)) by rw [hpm.out.1, if_pos hz'.out, ← hLe'.out]; exact hx10)
                have hbk10 := Lib.hid (show Blk (w2.setCell ⟨bx, 3, none⟩ (.slice A2' (L.eraseIdx k).length c2')) kb 104 (cutCells s i j (t + 1)) by rw [cutCells_same hpm.out.2]; exact hbk2.out.grown hg10 (fun he => by injection he with he; exact (hbk2.out.ne hbx2.out.blk (by decide)) he))
                have h010 := Below.grown h02 hg10 h02.size (fun k hk => by injection hk with hk; omega)
                clear hx10 hg10 hbx2 hO2 hr1' hr2' hbk2 l81 l82 h02
                generalize w2.setCell ⟨bx, 3, none⟩ (.slice A2' (L.eraseIdx k).length c2') = w10 at hx10' hbk10 h010 ⊢
                go_wp2_with fail
                go_roundg (over s i j n - (t + 1)).toNat
                case rel => exact ⟨t + 1, _, rfl, by omega, by omega, hx10'.out, hbk10.out, h010⟩
                case measure => rw [hgk'.out]; omega
          · have hz0 : (m0 == 0) = false := by
              have h := hm0'.out
              simp
              omega
            have hxn := Lib.hid (show Bx w3 base bx 31 [] V (cutS s i j n (t + 1)) by rw [hpm.out.1, if_neg hz]; exact hx3'.out)
            have hbn := Lib.hid (show Blk w3 kb 104 (cutCells s i j (t + 1)) by rw [cutCells_same hpm.out.2]; exact hbk3.out)
            clear hx3' hbk3
            go_wp2_with fail
            clear p3 f3
            go_roundg (over s i j n - (t + 1)).toNat
            case rel => exact ⟨t + 1, V, rfl, by omega, by omega, hxn.out, hbn.out, h03⟩
            case measure => rw [hgk'.out]; omega
      · have hlt' := decide_eq_false hlt
        obtain rfl : t = over s i j n := by unfold over at ht1 ⊢; omega
        have hx1 := Lib.hid (show Bx W1 base bx 31 [] V (ctO p s i j n 0) from hxr.out.below h1)
        have hbk1 := Lib.hid (hbkr.out.below h1 hbkr.out.lt)
        have h01 := h0r.trans (h1.mono h0r.size)
        obtain ⟨Ao, co, hvo⟩ := hx1.out.own.ordersSlice
        rw [(ctO_facts hc'.out hf.out (Nat.zero_le _)).2.1] at hvo
        have hvo' := Lib.hid hvo
        have hfin := Lib.hid (count_ok hc'.out hf.out)
        have h4 := hsn.out.orders4
        obtain ⟨cells, hcells⟩ : ∃ cells, cells = cutCells s i j (over s i j n) := ⟨_, rfl⟩
        rw [← hcells] at hbk1
        have hcells' := Lib.hid hcells
        clear hxr hbkr h1 hBr h0r tbx hvo hst hgk' hr hcells
        go_wp2_with fail
        clear hlt' hlt
        go_loopw [17, 18] (fun o _ wr => ∃ (q : Nat) (V' : SV), V' = { V with holds := V'.holds } ∧ q ≤ s.orders.length ∧ o = .int .i64 q ∧ Bx wr base bx 31 [] V' (ctO p s i j n q) ∧ Blk wr kb 104 cells ∧ Below W0.heap.size W0 wr) (fun o _ _ => s.orders.length - (RowKit.intOf o).toNat)
        case atStart => exact ⟨0, V, rfl, Nat.zero_le _, rfl, hx1.out, hbk1.out, h01⟩
        case round =>
          clear hx1 hbk1 h01
          obtain ⟨q, V', hV, hq, rfl, hx, hbk, h0⟩ := hrel
          have hx' := Lib.hid hx
          have hbk' := Lib.hid hbk
          have hVo := Lib.hid (show V'.orders = .slice Ao s.orders.length co by rw [hV]; exact hvo'.out)
          have hV' := Lib.hid hV
          have c1 := hx.cells.2.1
          rw [hVo.out] at c1
          have tbx := hx.lt
          clear hx hbk hV
          by_cases hlt : q < s.orders.length
          · have hqi : (q : Int) < (s.orders.length : Int) := by omega
            have hq4 : q < 4 := by omega
            have hq4i : (q : Int) < 4 := by omega
            have l13 := hsn.out.lines3 hlt
            have hx0 := Lib.hid (show Bx wr base bx 31 [] V' (ctL p s i j n q 0) from hx'.out)
            clear hx'
            go_wp2_with fail
            clear c1 tbx
            go_loopw [18] (fun kv wr => ∃ (k : Nat) (V' : SV), V' = { V with holds := V'.holds } ∧ k ≤ (s.order q).lines.length ∧ kv = .int .i64 k ∧ Bx wr base bx 31 [] V' (ctL p s i j n q k) ∧ Blk wr kb 104 cells ∧ Below W0.heap.size W0 wr) (fun kv _ => (s.order q).lines.length - (RowKit.intOf kv).toNat)
            case atStart => exact ⟨0, V', hV'.out, Nat.zero_le _, rfl, hx0.out, hbk'.out, h0⟩
            case round =>
              clear hx0 hbk' h0 hVo hV' V'
              obtain ⟨k, V', hV, hkl, rfl, hx, hbk, h0⟩ := hrel
              have hx' := Lib.hid hx
              have hbk' := Lib.hid hbk
              have hVo := Lib.hid (show V'.orders = .slice Ao s.orders.length co by rw [hV]; exact hvo'.out)
              have hV' := Lib.hid hV
              obtain ⟨hrt, hlen, hlines⟩ := ctL_facts hc'.out hf.out hlt hkl
              have hrt' := Lib.hid hrt
              have hoq : q < (ctL p s i j n q k).orders.length := by rw [hlen]; exact hlt
              have hlnq := hlines q hlt
              obtain ⟨go, _, _, eo, _, _, _, z1⟩ := hx'.out.own.orderAt hoq
              obtain ⟨gl, cl, curl, el, hgl, hbll, _⟩ := hx'.out.own.lineAt (o := q) (k := 0) hoq (by rw [hlnq]; omega)
              rw [hVo.out] at eo
              injection eo with eo e2 e3
              subst eo
              clear e2 e3
              rw [el, hlnq] at z1
              rw [hlnq] at el
              have c1 := hx'.out.cells.2.1
              rw [hVo.out] at c1
              have tbx := hx'.out.lt
              have el' := Lib.hid el
              have hoq' := Lib.hid hoq
              clear hx hbk hV hrt hlen hlines hoq hlnq el hbll
              by_cases hkt : k < (s.order q).lines.length
              · have hki : (k : Int) < ((s.order q).lines.length : Int) := by omega
                have hk3 : k < 3 := by omega
                have hk3i : (k : Int) < 3 := by omega
                have hcc := hbk'.out.cell (j := q * 3 + k) (v := .int .i64 (cutN s i j (over s i j n) q k)) (by rw [hcells'.out]; exact cutCells_at hq4 hk3)
                have lcb := hbk'.out.lt
                by_cases hpos : 0 < cutN s i j (over s i j n) q k
                · have hmay := Lib.hid (ctL_may hc'.out hf.out hlt hkt hpos)
                  obtain ⟨s1, x, hs1, hxx⟩ : ∃ s1 x, (takeS p (ctL p s i j n q k) q k (cutN s i j (over s i j n) q k) i).1 = s1 ∧ (takeS p (ctL p s i j n q k) q k (cutN s i j (over s i j n) q k) i).2 = x := ⟨_, _, rfl, rfl⟩
                  have hs1c := Lib.hid (show ctL p s i j n q (k + 1) = s1 from hs1)
                  have hs1' := Lib.hid hs1
                  have hxx' := Lib.hid hxx
                  have hcc' := Lib.hid (show cells[q * 3 + k]? = some (.int .i64 (cutN s i j (over s i j n) q k)) by rw [hcells'.out]; exact cutCells_at hq4 hk3)
                  clear hs1 hxx
                  generalize cutN s i j (over s i j n) q k = nv at hmay hxx' hs1' hcc hcc' hpos
                  have hpos' := decide_eq_true hpos
                  have hbase : base ≤ wr.drew.heap.size := by show base ≤ wr.heap.size; omega
                  have hT0 : ctT W0 base bx V' (ctL p s i j n q k) s1 kb cells 0 wr.drew := ⟨⟨h0.drew, hbase, hx'.out.drew⟩, hbk'.out.drew⟩
                  have hT0' := Lib.hid hT0
                  clear hbase hT0
                  go_wp2_with fail
                  clear z1 c1 hcc lcb tbx hpos hpos'
                  refine wp_region_opsD 15 (ctT W0 base bx V' (ctL p s i j n q k) s1 kb cells) (fun k' w1 w2 => ctT W0 base bx V' (ctL p s i j n q k) s1 kb cells k' w1 → ctT W0 base bx V' (ctL p s i j n q k) s1 kb cells (k' + 1) w2) 10 14 (by decide) (by decide) (by decide) (fun o ho => by injection ho with ho; subst ho; exact ⟨⟨10, .chain⟩, by simp, rfl, rfl⟩)
                    [fun _ gq _ => gq 203 = .agg #[.slice Ab p.bins.length cb, .slice As p.sizes.length cs], fun ph gq w' => (fun (ph : Nat) (v : Value) (_ : World) => ∃ Vq : SV, v = Vq.val ∧ (ph = 0 → Vq = V')) ph (gq 204) w', fun _ gq _ => gq 205 = .int .i64 q, fun _ gq _ => gq 206 = .int .i64 k, fun _ gq _ => gq 207 = .int .i64 q, fun _ gq _ => gq 208 = .int .i64 k,
                      fun _ gq _ => gq 209 = .pointer (some ⟨kb, q * 3, none⟩), fun _ gq _ => gq 210 = .pointer (some ⟨kb, q * 3 + k, none⟩), fun _ gq _ => gq 211 = .int .i64 nv, fun _ gq _ => gq 212 = .int .i64 i,
                      fun ph gq w' => takP base V' s1 (fun v => .tuple #[v, .int .i64 x]) ph (gq 213) w', fun ph gq w' => takP base V' s1 (fun v => .tuple #[v, .int .i64 x]) ph (gq 202) w', fun ph gq w' => takP base V' s1 id ph (gq 214) w', fun _ gq _ => gq 215 = .int .i64 x, fun ph gq w' => ph = 2 ∧ True] (by kernel_rfl) (by kernel_rfl) rfl (by kernel_rfl)
                    (fun ph w1 w2 h h' => ctT_below h h') (fun k w1 w2 _ h h' => h' h) hT0'.out ?_ (fun f w2 hb2 hR => ?_)
                  simp only [List.take_succ_cons, List.take_zero]
                  refine OpsD.cons (OpD.val rfl rfl (by decide) (by decide) (fun ph gq w' hb ho hd => ?_)) ?_
                  · have e5 := ho 5 rfl
                    obtain ⟨⟨y0, y1⟩, x0, x1, x2, x3, x4, x5, x6, hbz0, hbz1⟩ := hK.out w' (hb.1.1)
                    go_simp
                  refine OpsD.cons (OpD.one (d := 204) (p := fun (ph : Nat) (v : Value) (_ : World) => ∃ Vq : SV, v = Vq.val ∧ (ph = 0 → Vq = V')) rfl rfl (by decide) (by decide) (fun ph v w1 w2 h hb => h) (fun k v w1 w2 _ h hb => by
                      obtain ⟨Vq, h1, h2⟩ := h
                      exact ⟨Vq, h1, fun h => by omega⟩) (fun ph gq w' hb ho hd => ?_)) ?_
                  · have e13 := ho 13 rfl
                    obtain ⟨Vb, hvb, hvo2, hvv⟩ := relT_box hb.1
                    clear hvo2
                    obtain ⟨b0, b1, b2, b3, b4, b5, b6⟩ := hvb.cells
                    have hvv' := Lib.hid hvv
                    clear hvv hvb
                    unfold OpRel
                    go_simp
                    exact ⟨⟨Vb, rfl, hvv'.out⟩, Below.refl _ _⟩
                  refine OpsD.cons (OpD.val rfl rfl (by decide) (by decide) (fun ph gq w' hb ho hd => ?_)) ?_
                  · have e17 := ho 17 rfl
                    go_simp
                  refine OpsD.cons (OpD.val rfl rfl (by decide) (by decide) (fun ph gq w' hb ho hd => ?_)) ?_
                  · have e18 := ho 18 rfl
                    go_simp
                  refine OpsD.cons (OpD.val rfl rfl (by decide) (by decide) (fun ph gq w' hb ho hd => ?_)) ?_
                  · have e17 := ho 17 rfl
                    go_simp
                  refine OpsD.cons (OpD.val rfl rfl (by decide) (by decide) (fun ph gq w' hb ho hd => ?_)) ?_
                  · have e18 := ho 18 rfl
                    go_simp
                  refine OpsD.cons (OpD.val rfl rfl (by decide) (by decide) (fun ph gq w' hb ho hd => ?_)) ?_
                  · have e14 := ho 14 rfl
                    have e207 : gq 207 = .int .i64 q := hd ⟨4, .data⟩ (by simp) rfl (by decide)
                    go_simp
                  refine OpsD.cons (OpD.val rfl rfl (by decide) (by decide) (fun ph gq w' hb ho hd => ?_)) ?_
                  · have e209 : gq 209 = .pointer (some ⟨kb, q * 3, none⟩) := hd ⟨6, .data⟩ (by simp) rfl (by decide)
                    have e208 : gq 208 = .int .i64 k := hd ⟨5, .data⟩ (by simp) rfl (by decide)
                    go_simp
                  refine OpsD.cons (OpD.val rfl rfl (by decide) (by decide) (fun ph gq w' hb ho hd => ?_)) ?_
                  · have e210 : gq 210 = .pointer (some ⟨kb, q * 3 + k, none⟩) := hd ⟨7, .data⟩ (by simp) rfl (by decide)
                    have hcc := hb.2.cell hcc'.out
                    go_simp
                  refine OpsD.cons (OpD.val rfl rfl (by decide) (by decide) (fun ph gq w' hb ho hd => ?_)) ?_
                  · have e2 := ho 2 rfl
                    go_simp
                  refine OpsD.cons (OpD.first (d := 213) (p := takP base V' s1 (fun v => .tuple #[v, .int .i64 x])) rfl rfl (fun ph v w1 w2 h hb => takP_below h hb) (fun v w1 w2 h hb => takP_next (Nat.le_refl _) h) (fun gq w' hb ho hd => ?_)) ?_
                  · have e203 : gq 203 = .agg #[.slice Ab p.bins.length cb, .slice As p.sizes.length cs] := hd ⟨0, .data⟩ (by simp) rfl (by decide)
                    have e204 : ∃ Vq : SV, gq 204 = Vq.val ∧ ((0 : Nat) = 0 → Vq = V') := hd ⟨1, .data⟩ (by simp) rfl (by decide)
                    have e205 : gq 205 = .int .i64 q := hd ⟨2, .data⟩ (by simp) rfl (by decide)
                    have e206 : gq 206 = .int .i64 k := hd ⟨3, .data⟩ (by simp) rfl (by decide)
                    have e211 : gq 211 = .int .i64 nv := hd ⟨8, .data⟩ (by simp) rfl (by decide)
                    have e212 : gq 212 = .int .i64 i := hd ⟨9, .data⟩ (by simp) rfl (by decide)
                    obtain ⟨Vq, e204, hVV⟩ := e204
                    obtain rfl := (hVV rfl).symm
                    have hb' := Lib.hid hb
                    clear hb hVV
                    unfold OpRel
                    go_simp
                    refine (rTake w' _ p (ctL p s i j n q k) q k nv i (hP'.out _ (hb0.trans (hb'.out.1.1.mono hb0.size))) hrt'.out hmay.out (Bx.own hb'.out.1.2.2) hb'.out.1.2.1).mono ?_
                    rintro e w9 ⟨V9, hV9, rfl, ho9, hst9⟩
                    have ho9' : OwnSt w9 base V9 s1 := by rw [← hs1'.out]; exact ho9
                    rw [hxx'.out]
                    refine ⟨_, rfl, ⟨V9, hV9, rfl, ho9'⟩, fun _ => ⟨⟨hb'.out.1.1.trans (hst9.below (B := W0.heap.size) (fun r hr => by
                      rw [el'.out] at hr
                      change some gl = some r at hr
                      injection hr with hr
                      omega) hb'.out.1.1.size), Nat.le_trans hb'.out.1.2.1 hst9.size, hst9.blk (Bx.boxAt hb'.out.1.2.2).blk ?_, V9, hV9, ho9'⟩, hst9.blk hb'.out.2 ?_⟩⟩
                    · rcases Own.notBox ((Bx.own hb'.out.1.2.2).line q hoq'.out) (Bx.boxAt hb'.out.1.2.2).blk (by decide) with h | h
                      · rw [h]; simp
                      · exact h
                    · rcases Own.notBox ((Bx.own hb'.out.1.2.2).line q hoq'.out) hb'.out.2 (by decide) with h | h
                      · rw [h]; simp
                      · exact h
                  refine OpsD.cons (OpD.one (d := 202) (p := takP base V' s1 (fun v => .tuple #[v, .int .i64 x])) rfl rfl (by decide) (by decide) (fun ph v w1 w2 h hb => takP_below h hb) (fun k v w1 w2 hk h hb => takP_next hk h) (fun ph gq w' hb ho hd => ?_)) ?_
                  · have e213 : takP base V' s1 (fun v => .tuple #[v, .int .i64 x]) ph (gq 213) w' := hd ⟨10, .data⟩ (by simp) rfl (by decide)
                    have e213' := Lib.hid e213
                    clear e213
                    unfold OpRel
                    go_simp
                    exact ⟨e213'.out, Below.refl _ _⟩
                  refine OpsD.cons (OpD.one (d := 214) (p := takP base V' s1 id) rfl rfl (by decide) (by decide) (fun ph v w1 w2 h hb => takP_below h hb) (fun k v w1 w2 hk h hb => takP_next hk h) (fun ph gq w' hb ho hd => ?_)) ?_
                  · have e202 : takP base V' s1 (fun v => .tuple #[v, .int .i64 x]) ph (gq 202) w' := hd ⟨11, .data⟩ (by simp) rfl (by decide)
                    rcases ph with _ | _ | ph
                    · exact e202.elim
                    · obtain ⟨V7, hV7, e202, ho7⟩ := e202
                      have ho7' := Lib.hid ho7
                      have hV7' := Lib.hid hV7
                      clear ho7 hV7
                      unfold OpRel
                      go_simp
                      exact ⟨⟨V7, hV7'.out, rfl, ho7'.out⟩, Below.refl _ _⟩
                    · obtain ⟨V7, e202⟩ := e202
                      unfold OpRel
                      go_simp
                      exact ⟨⟨V7, rfl⟩, Below.refl _ _⟩
                  refine OpsD.cons (OpD.val rfl rfl (by decide) (by decide) (fun ph gq w' hb ho hd => ?_)) ?_
                  · have e202 : takP base V' s1 (fun v => .tuple #[v, .int .i64 x]) ph (gq 202) w' := hd ⟨11, .data⟩ (by simp) rfl (by decide)
                    have e202b : ∃ V7 : SV, gq 202 = .tuple #[V7.val, .int .i64 x] := by
                      rcases ph with _ | _ | ph
                      · exact e202.elim
                      · obtain ⟨V7, _, h, _⟩ := e202
                        exact ⟨V7, h⟩
                      · exact e202
                    clear e202
                    obtain ⟨V7, e202⟩ := e202b
                    go_simp
                  refine OpsD.cons (OpD.second (p := fun _ _ => True) (by decide) rfl (fun gq w1 w2 h hb => trivial) (fun gq gq' w1 he h => trivial) (fun gq w' hb ho hd => ?_)) ?_
                  · have e13 := ho 13 rfl
                    have e214 : takP base V' s1 id 1 (gq 214) w' := hd ⟨12, .data⟩ (by simp) rfl (by decide)
                    obtain ⟨V7, hV7, e214, ho7⟩ := e214
                    refine opRel_put_state (.tmp 13) (.tmp 214) rfl bx V' V7 hb.1.2.2.1 e13 e214 ho7.one (fun w8 hbox8 hg8 => ?_)
                    exact ⟨trivial, fun _ => ⟨⟨hb.1.1.grown hg8 hb.1.1.size (fun r hr => by injection hr with hr; omega), Nat.le_trans hb.1.2.1 hg8.size, V7, hV7, Bx.of hbox8 (ho7.keptBy hg8 hb.1.2.2.1.blk (by decide) (by decide) (by decide) (by decide) (by decide) (by decide))⟩,
                      hb.2.grown hg8 (fun he => by injection he with he; exact (hb.2.ne hb.1.2.2.1.blk (by decide)) he)⟩⟩
                  exact OpsD.nil
                  obtain ⟨r203, ⟨Vx, r204, _⟩, r205, r206, r207, r208, r209, r210, r211, r212, ⟨V1, r213⟩, ⟨V2, r202⟩, ⟨V3, r214⟩, r215, _⟩ := hR
                  simp only [fillA, fillT, List.take_succ_cons, List.take_zero, List.drop_succ_cons, List.drop_zero, List.filterMap_cons, List.filterMap_nil, List.foldl_cons, List.foldl_nil, List.setIfInBounds_toArray, List.set_cons_zero, List.set_cons_succ, r203, r204, r205, r206, r207, r208, r209, r210, r211, r212, r213, r202, r214, r215]
                  clear r203 r204 r205 r206 r207 r208 r209 r210 r211 r212 r213 r202 r214 r215
                  refine wpList_nil ?_
                  obtain ⟨⟨h09, _, V9, hV9, hx9⟩, hbk9⟩ := hb2
                  have hV9' := Lib.hid (sv_holds hV9 hV'.out)
                  have hx9' := Lib.hid (show Bx w2 base bx 31 [] V9 (ctL p s i j n q (k + 1)) by rw [hs1c.out]; exact hx9)
                  have hbk9' := Lib.hid hbk9
                  clear hx9 hbk9 hV9 hx' hbk' hV' hVo hmay hrt' el' hs1' hs1c hxx' hT0'
                  go_wp2_with fail
                  go_roundw
                  case rel => exact ⟨k + 1, V9, hV9'.out, by omega, by go_num, hx9'.out, hbk9'.out, h09⟩
                  case measure => simp [RowKit.intOf]; omega
                · have hsk := Lib.hid (ctL_skip (p := p) hpos)
                  have hpos' := decide_eq_false hpos
                  have hx2 := Lib.hid (show Bx wr base bx 31 [] V' (ctL p s i j n q (k + 1)) by rw [hsk.out]; exact hx'.out)
                  clear hx' hpos
                  go_wp2_with fail
                  clear c1 z1 hcc lcb tbx
                  go_roundw
                  case rel => exact ⟨k + 1, V', hV'.out, by omega, by go_num, hx2.out, hbk'.out, h0⟩
                  case measure => simp [RowKit.intOf]; omega
              · obtain rfl : k = (s.order q).lines.length := by omega
                have hx2 := Lib.hid (show Bx wr base bx 31 [] V' (ctO p s i j n (q + 1)) by rw [← ctL_all hc'.out hf.out hlt]; exact hx'.out)
                clear hx'
                go_wp2_with fail
                clear c1 z1 tbx
                go_roundw
                case rel => exact ⟨q + 1, V', hV'.out, by omega, by go_num, hx2.out, hbk'.out, h0⟩
                case measure => simp [RowKit.intOf]; omega
          · obtain rfl : q = s.orders.length := by omega
            have hB0 := hb0.trans (h0.mono hb0.size)
            have hx2 := Lib.hid (show Bx wr base bx 31 [] V' (countS p s i j n) by rw [← ctO_all]; exact hx'.out)
            have hvv := hVo.out
            clear hx' hVo hV'
            obtain ⟨a0, a1, a2, a3, a4, a5, a6, a7, a8⟩ := V'
            obtain rfl : a1 = .slice Ao s.orders.length co := hvv
            have hbx9 := hR.out _ h0
            obtain ⟨b0, b1, b2, b3, b4, b5, b6⟩ := BoxAt.cells hx2.out.boxAt
            have hone9 := OwnSt.one hx2.out.own
            go_wp2_with (refine wpList_store_state rfl (.tmp 10) (.tmp 216) rfl rfl (w.heap.size + 1 + 1) nilSV (⟨a0, .slice Ao s.orders.length co, a2, a3, a4, a5, a6, a7, a8⟩ : SV) hbx9 rfl rfl hone9 (fun w9 hbox9 hg9 => ?_))
            have hO9 := OwnSt.keptBy hx2.out.own hg9 hbx9 (by decide) (by decide) (by decide) (by decide) (by decide) (by decide)
            obtain ⟨p0, p1, p2, p3, p4, p5, p6⟩ := BoxAt.cells hbox9
            have hfin9 : Below w.heap.size w w9 := Below.grown hB0 hg9 (Below.size hB0) (fun k hk => by injection hk with hk; omega)
            clear b0 b1 b2 b3 b4 b5 b6
            go_wp2_with fail
            exact bodyPost_ret (v := .tuple #[SV.val (⟨a0, .slice Ao s.orders.length co, a2, a3, a4, a5, a6, a7, a8⟩ : SV), .int .i64 0]) (by simp [results, Tryz.results21, go_sem, SV.val, p0, p1, p2, p3, p4, p5, p6]) rfl (actOk hfin.out (hO9.from_ hle) hfin9)
  · have hne : (checkState p s != 0) = true := by simpa using hc
    have hfin := Lib.hid (count_bad (b := b) (g := g) (n := n) hc)
    clear hc
    have hbx9 := hR.out _ h1
    go_wp2_with (refine wpList_store_state rfl (.tmp 10) (.tmp 24) rfl rfl (w.heap.size + 1 + 1) nilSV nilSV hbx9 rfl rfl rfl (fun w9 hbox9 hg9 => ?_))
    obtain ⟨p0, p1, p2, p3, p4, p5, p6⟩ := BoxAt.cells hbox9
    have hfin9 : Below w.heap.size w w9 := Below.grown hB1 hg9 (Below.size hB1) (fun k hk => by injection hk with hk; omega)
    go_wp2_with fail
    exact bodyPost_ret (v := .tuple #[nilSV.val, .int .i64 (checkState p s)]) (by simp [results, Tryz.results21, go_sem, SV.val, p0, p1, p2, p3, p4, p5, p6]) rfl (actErr hfin.out hfin9)
end Wh
