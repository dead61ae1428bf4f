/- Texts of the claim, joined: DoneA. -/
import Derived.Test.YtijilfghfahgjaaQ20
import Derived.Test.YtijilfghfahgjaaQ23
import Derived.Test.YtijilfghfahgjaaQ25
namespace Wh
open Go Go.RowKit Go.Shelf Go.Proofs
attribute [local go_sem] run_indexAt_letter evL_tmp evL_const evL_func

theorem pkPickE {p : Plan} {s x : State} {o k b n c : Int} (h : pick p s o k b n = (x, c)) (w : World) (v vs : Value) (hp : PlanV w w.heap.size v p) (hv : StateV w w.heap.size vs s) :
    Calls Try.prog 22 #[v, vs, .int .i64 o, .int .i64 k, .int .i64 b, .int .i64 n] w fun e w' => ∃ V : SV, e = .returned (.tuple #[V.val, .int .i64 c]) ∧ OwnSt w' w.heap.size V x ∧ Below w.heap.size w w' := by
  have := pkPick w v vs p s o k b n hp hv
  rw [h] at this
  exact this
theorem bkOpenAt {p : Plan} {s : State} (h : checkState p s = 0) (w : World) (v vs : Value) (hp : PlanV w w.heap.size v p) (hv : StateV w w.heap.size vs s) :
    Calls Try.prog 34 #[v, vs] w fun e w' => e = .returned (.tuple #[.int .i64 (openTo s s.orders.length), .int .i64 0]) ∧ Below w.heap.size w w' := by
  have := bkOpen w v vs p s hp hv
  rw [openE_ok h] at this
  exact this
def backTo (s : State) (o m : Nat) : Int := sumTo (fun k => (s.line o k).back) m
theorem backTo_succ (s : State) (o m : Nat) : backTo s o (m + 1) = backTo s o m + (s.line o m).back := rfl

set_option maxHeartbeats 20000000 in
set_option maxRecDepth 100000 in
theorem bookDoneWalk (w : World) (v vs : Value) (p : Plan) (s : State) (hp : PlanV w w.heap.size v p) (hv : StateV w w.heap.size vs s) :
    Calls Try.prog 12 #[v, vs] w fun e w' => e = .returned (.bool true) ∧ Below w.heap.size w w' := by
  by_cases hc : checkState p s = 0
  · have hra := Lib.hid (release_ok hc)
    have hR0 := Lib.hid (rel_release hc)
    generalize releaseS p s = T0 at hra hR0
    clear hc
    obtain ⟨Ab, cb, As, cs, rfl, hP', hBn, hSz, hlb, hls⟩ := openPl hp
    obtain ⟨A0, c0, A1, c1, A2, c2, A3, c3, A4, c4, A5, c5, A6, c6, rfl, hV, hN, hO, hH, hM, hI, hU, hX, hl0, hl1, hl2, hl3, hl4, hl5, hl6⟩ := openOne hv
    go_enter Try.func12, Try.ntmps12
    go_wp2_with fail
    obtain ⟨W0, hW0, hb0, hsz0, hsz1, hsE, hK⟩ := boxesTwo w p s Ab cb As cs A0 c0 A1 c1 A2 c2 A3 c3 A4 c4 A5 c5 A6 c6
    rw [hW0]
    clear hW0
    obtain ⟨⟨y0, y1⟩, x0, x1, x2, x3, x4, x5, x6, hbz0, hbz1⟩ := hK.out W0 (Below.refl W0.heap.size W0)
    go_wp2_with fail
    clear y0 y1 x0 x1 x2 x3 x4 x5 x6 hbz0 hbz1
    refine (wvRelAt hra.out _ _ _ (hP'.out _ hb0) (hV.out _ hb0)).mono ?_
    rintro e W1 ⟨V1, rfl, ho1, hb1⟩
    have hone2 := (ho1).one
    have hnb2 := newBox (W1)
    go_wp2_with (refine wpList_store_state rfl (.tmp 5) (.tmp 21) rfl rfl (World.heap (W1)).size nilSV V1 hnb2 rfl rfl hone2 (fun w2 hbox2 hg2 => ?_); refine Hid.out ?_)
    unfold Hid
    have hbb2 := newBelow hg2
    have hbl2 := hbox2.lt
    clear hone2 hnb2 hg2
    have h02 := hb1.trans (hbb2.mono hb1.size)
    have hO2 := Lib.hid (ho1.below hbb2)
    have hbox2' := Lib.hid hbox2
    have hwl : W0.heap.size ≤ W1.heap.size := hb1.size
    have hwl2 : W1.heap.size < w2.heap.size := hbl2
    clear hbox2 ho1 hb1 hbb2 hbl2
    generalize W1.heap.size = b5 at hbox2' hwl hwl2 ⊢
    have hL0 := ok_len72 (checkState_zero.1 hR0.out.check).1.holds
    obtain ⟨L0, hL⟩ : ∃ L0, T0.holds.length = L0 := ⟨_, rfl⟩
    rw [hL] at hL0
    go_wp2_with fail
    go_loopw [7, 8, 9, 10] (fun n' _ _ _ wr => ∃ (j : Nat) (T : State) (VT : SV), n' = .int .i64 j ∧ j + T.holds.length = L0 ∧ Rel1 p T ∧ BoxAt wr b5 VT ∧ OwnSt wr W0.heap.size VT T ∧ Below W0.heap.size W0 wr) (fun n' _ _ _ _ => 73 - (intOf n').toNat)
    case atStart => exact ⟨0, T0, V1, rfl, by omega, hR0.out, hbox2'.out, hO2.out, h02⟩
    case round =>
      clear hR0 hbox2' hO2 h02 hL hra hwl2
      obtain ⟨j, T, VT, rfl, hjT, hR, hbT, hOT, h0⟩ := hrel
      have hB0 := hb0.trans (h0.mono hb0.size)
      obtain ⟨Ah, ch, hvh⟩ := hOT.holds.isSlice
      obtain ⟨b0, b1, b2, b3, b4, b5', b6, b7, b8⟩ := VT
      obtain rfl : b2 = .slice Ah T.holds.length ch := hvh
      have hbT' := Lib.hid hbT
      have hOT' := Lib.hid hOT
      have hR' := Lib.hid hR
      have hblt : b5 < wr.heap.size := hbT.lt
      have hji : (j : Int) ≤ 72 := by omega
      clear hbT hOT hR
      obtain ⟨c0, c1, c2, c3, c4, c5, c6⟩ := hbT'.out.cells
      simp only at c0 c1 c2 c3 c4 c5 c6
      by_cases hh : 0 < T.holds.length
      · have hhi : (0 : Int) < (T.holds.length : Int) := by omega
        obtain ⟨gh, ch', curh, vH, _, hblkh, hcell⟩ := hOT'.out.holds.at (fun _ => rfl) hh
        rw [← hold_get] at hcell
        injection vH with vH vH2 vH3
        subst vH
        clear vH2 vH3
        obtain ⟨xo, xl, xb, xn, hx⟩ : ∃ a b c d, hold T.holds 0 = ⟨a, b, c, d⟩ := ⟨_, _, _, _, rfl⟩
        rw [hx] at hcell
        have m0 : wr.cell? ⟨gh, 0, none⟩ = some (.int .i64 xo) := hcell 0 _ rfl
        have m1 : wr.cell? ⟨gh, 1, none⟩ = some (.int .i64 xl) := hcell 1 _ rfl
        have m2 : wr.cell? ⟨gh, 2, none⟩ = some (.int .i64 xb) := hcell 2 _ rfl
        have m3 : wr.cell? ⟨gh, 3, none⟩ = some (.int .i64 xn) := hcell 3 _ rfl
        have hpf := pick_first hR'.out hh hx
        simp only at hpf
        obtain ⟨U, c, hU⟩ : ∃ U c, pick p T xo xl xb xn = (U, c) := ⟨_, _, rfl⟩
        rw [hU] at hpf
        simp only at hpf
        have hU' := Lib.hid hU
        have h0a := h0.alloc h0.size (.cells #[.int .i64 xo, .int .i64 xl, .int .i64 xb, .int .i64 xn] 63)
        have haa := Lib.hid ((Below.refl wr.heap.size wr).alloc (Nat.le_refl _) (.cells #[.int .i64 xo, .int .i64 xl, .int .i64 xb, .int .i64 xn] 63))
        have tgh := hblkh.lt
        clear hcell hx hU hblkh
        obtain ⟨⟨y0, y1⟩, x0, x1, x2, x3, x4, x5, x6, hbz0, hbz1⟩ := hK.out wr (h0)
        go_wp2_with fail
        clear y0 y1 x0 x1 x2 x3 x4 x5 x6 hbz0 hbz1
        clear m0 m1 m2 m3 tgh c0 c1 c2 c3 c4 c5 c6
        generalize wr.alloc (.cells #[.int .i64 xo, .int .i64 xl, .int .i64 xb, .int .i64 xn] 63) = W4 at h0a haa ⊢
        have hB4 := hb0.trans (h0a.mono hb0.size)
        have hvT := Lib.hid ((hOT'.out.below haa.out).view0 (check_small hR'.out.check))
        refine (pkPickE hU'.out _ _ _ (hP'.out _ hB4) hvT.out).mono ?_
        rintro e W6 ⟨V6, rfl, ho6, hb6⟩
        obtain ⟨Au, cu, hvu⟩ := ho6.holds.isSlice
        obtain ⟨u0, u1, u2, u3, u4, u5, u6, u7, u8⟩ := V6
        obtain rfl : u2 = .slice Au U.holds.length cu := hvu
        have hone7 := (ho6).one
        have hnb7 := newBox (W6)
        go_wp2_with (refine wpList_store_state rfl (.tmp 9) (.tmp 48) rfl rfl (World.heap (W6)).size nilSV (⟨u0, u1, .slice Au U.holds.length cu, u3, u4, u5, u6, u7, u8⟩ : SV) hnb7 rfl rfl hone7 (fun w7 hbox7 hg7 => ?_); refine Hid.out ?_)
        unfold Hid
        have hbb7 := newBelow hg7
        have hbl7 := hbox7.lt
        clear hone7 hnb7 hg7
        have h47 := hb6.trans (hbb7.mono hb6.size)
        have h07 := h0a.trans (h47.mono h0a.size)
        have hB7 := hb0.trans (h07.mono hb0.size)
        have hw7 := Lib.hid (haa.out.trans (h47.mono haa.out.size))
        have ho7 := Lib.hid ((ho6.below hbb7).from_ h0a.size)
        have hbox7' := Lib.hid hbox7
        clear hbox7 ho6 hb6 hbb7 h47 hvT haa h0a hB4
        rcases hpf with rfl | ⟨rfl, hlen, hRU⟩
        · go_wp2_with fail
          refine (bookBegun _).mono ?_
          rintro e W9 ⟨rfl, h9⟩
          go_wp2_with fail
          go_ret
          exact ⟨rfl, hB7.trans (h9.mono hB7.size)⟩
        · have t1 : ((U.holds.length : Int) != (T.holds.length : Int) - 1) = false := by rw [hlen]; simp; omega
          have hRU' := Lib.hid hRU
          have hlen' := Lib.hid hlen
          have hbT7 := Lib.hid (hbT'.out.below hw7.out hblt)
          have c2 : w7.cell? ⟨b5, 2, none⟩ = some (.slice (some ⟨gh, 0, none⟩) T.holds.length ch) := hbT7.out.cells.2.2.1
          obtain ⟨p0, p1, p2, p3, p4, p5, p6⟩ := hbox7'.out.cells
          simp only at p0 p1 p2 p3 p4 p5 p6
          have hone := ho7.out.one
          clear hlen hRU
          go_wp2_with (refine wpList_store_state rfl (.tmp 5) (.tmp 69) rfl rfl b5 _ (⟨u0, u1, .slice Au U.holds.length cu, u3, u4, u5, u6, u7, u8⟩ : SV) hbT7.out rfl rfl hone (fun w8 hbox8 hg8 => ?_); refine Hid.out ?_)
          unfold Hid
          have h08 := Below.grown h07 hg8 h07.size (fun k hk => by injection hk with hk; omega)
          have ho8 := Lib.hid (ho7.out.keptBy hg8 hbT7.out.blk (by decide) (by decide) (by decide) (by decide) (by decide) (by decide))
          have hbox8' := Lib.hid hbox8
          clear hbox8 hg8 p0 p1 p2 p3 p4 p5 p6 c2 hone hbT7 hbox7' ho7 hw7 t1
          go_wp2_with fail
          go_roundw
          case rel => exact ⟨j + 1, U, _, by go_num, by rw [hlen'.out]; omega, hRU'.out, hbox8'.out, ho8.out, h08⟩
          case measure => simp [intOf]; omega
      · have hT0 : T.holds = [] := List.eq_nil_of_length_eq_zero (by omega)
        have hhi : ¬ (0 : Int) < (T.holds.length : Int) := by omega
        have hT0' := Lib.hid hT0
        have hvT := Lib.hid (hOT'.out.view0 (check_small hR'.out.check))
        have hsT := Lib.hid (checkState_zero.1 hR'.out.check).1
        obtain ⟨Ao, co, hvo⟩ := hOT'.out.ordersSlice
        clear hT0 hh
        obtain ⟨⟨y0, y1⟩, x0, x1, x2, x3, x4, x5, x6, hbz0, hbz1⟩ := hK.out wr (h0)
        go_wp2_with fail
        clear y0 y1 x0 x1 x2 x3 x4 x5 x6 hbz0 hbz1
        clear c0 c1 c2 c3 c4 c5 c6
        obtain rfl : b1 = .slice Ao T.orders.length co := hvo
        refine (bkOpenAt hR'.out.check _ _ _ (hP'.out _ hB0) hvT.out).mono ?_
        rintro e W5 ⟨rfl, h5⟩
        have h4 := hsT.out.orders4
        go_wp2_with fail
        generalize hopen : openTo T T.orders.length = OP
        have hopen' := Lib.hid hopen
        clear hopen
        go_loopw [13, 14, 15, 16] (fun lk o' _ _ wt => ∃ q : Nat, q ≤ T.orders.length ∧ o' = .int .i64 q ∧ lk = .int .i64 (openTo T q) ∧ Below wr.heap.size wr wt) (fun _ o' _ _ _ => T.orders.length - (intOf o').toNat)
        case atStart => exact ⟨0, Nat.zero_le _, rfl, rfl, h5⟩
        case round =>
          clear h5
          obtain ⟨q, hq, rfl, rfl, h5⟩ := hrel
          have h05 := h0.trans (h5.mono h0.size)
          have hB5 := hb0.trans (h05.mono hb0.size)
          have hOr := openTo_range T q
          have c1 : wr.cell? ⟨b5, 1, none⟩ = some (.slice Ao T.orders.length co) := (hbT'.out.below h5 hblt).cells.2.1
          by_cases hq1 : q < T.orders.length
          · have hqi : (q : Int) < (T.orders.length : Int) := by omega
            have l13 := hsT.out.lines3 hq1
            obtain ⟨go, _, _, eo, -⟩ := (hOT'.out.below h5).orderAt hq1
            injection eo with eo e2 e3
            subst eo
            clear e2 e3
            obtain ⟨gl, cl, el, hgl⟩ := (hOT'.out.below h5).lineSlice hq1 (by omega)
            have el' := Lib.hid el
            clear el
            go_wp2_with fail
            clear c1
            have h5' := h5
            clear h5 h05 hB5
            go_loopw [15, 16] (fun bk k' wt => ∃ m : Nat, m ≤ (T.order q).lines.length ∧ k' = .int .i64 m ∧ bk = .int .i64 (backTo T q m) ∧ (0 ≤ backTo T q m ∧ backTo T q m ≤ 200 * m) ∧ Below _ _ wt) (fun _ k' _ => (T.order q).lines.length - (intOf k').toNat)
            case atStart => exact ⟨0, Nat.zero_le _, rfl, rfl, ⟨Int.le_refl _, Int.le_refl _⟩, h5'⟩
            case round =>
              clear h5'
              obtain ⟨m, hm, rfl, rfl, hbm, h5⟩ := hrel
              obtain ⟨_, _, z0, z1⟩ := (hOT'.out.below h5).orderCells hq1 rfl
              rw [el'.out] at z1
              have c1 : wr.cell? ⟨b5, 1, none⟩ = some (.slice (some ⟨go, 0, none⟩) T.orders.length co) := (hbT'.out.below h5 hblt).cells.2.1
              by_cases hm1 : m < (T.order q).lines.length
              · have hmi : (m : Int) < ((T.order q).lines.length : Int) := by omega
                obtain ⟨_, f0, f1, f2, f3⟩ := (hOT'.out.below h5).lineCells hq1 hm1 el'.out
                have hbk := (hsT.out.line hq1 hm1).2
                have hw : IntKind.i64.wrap (backTo T q m + (T.line q m).back) = backTo T q m + (T.line q m).back := IntWalk.i64_in _ (by omega)
                have hbs := Lib.hid (backTo_succ T q m)
                clear f0 f1 f2 z0
                go_wp2_with fail
                clear c1 z1 f3 hw
                go_roundw
                case rel => exact ⟨m + 1, by omega, by go_num, by rw [hbs.out], by rw [hbs.out]; omega, h5⟩
                case measure => simp [intOf]; omega
              · obtain rfl : m = (T.order q).lines.length := by omega
                have hos : openTo T (q + 1) = openTo T q + if (T.order q).kind = 2 then 0 else 1 := openTo_succ T q
                by_cases hk2 : (T.order q).kind = 2
                · have hos' := Lib.hid (show openTo T (q + 1) = openTo T q by rw [hos, if_pos hk2]; omega)
                  rw [hk2] at z0
                  clear hos hk2
                  go_wp2_with fail
                  clear c1 z0 z1
                  go_roundw
                  case rel => exact ⟨q + 1, by omega, by go_num, by rw [hos'.out], h5⟩
                  case measure => simp [intOf]; omega
                · have hos' := Lib.hid (show openTo T (q + 1) = openTo T q + 1 by rw [hos, if_neg hk2])
                  have hrd : 0 < backTo T q (T.order q).lines.length := rel_done hR'.out hT0'.out hq1 hk2
                  have t1 : ((T.order q).kind != 2) = true := by simpa using hk2
                  have t2 : (backTo T q (T.order q).lines.length == 0) = false := beq_eq_false_iff_ne.2 (by omega)
                  have hw : IntKind.i64.wrap (openTo T q + 1) = openTo T q + 1 := IntWalk.i64_in _ (by omega)
                  clear hos hk2 hrd
                  go_wp2_with fail
                  clear c1 z0 z1
                  go_roundw
                  case rel => exact ⟨q + 1, by omega, by go_num, by rw [hos'.out], h5⟩
                  case measure => simp [intOf]; omega
          · obtain rfl : q = T.orders.length := by omega
            rw [hopen'.out]
            go_wp2_with fail
            clear c1
            refine (bookBegun _).mono ?_
            rintro e W9 ⟨rfl, h9⟩
            have h59 := h5.trans (h9.mono h5.size)
            have h09 := h05.trans (h9.mono h05.size)
            have hB9 := hB5.trans (h9.mono hB5.size)
            obtain ⟨⟨y0, y1⟩, x0, x1, x2, x3, x4, x5, x6, hbz0, hbz1⟩ := hK.out W9 (h09)
            obtain ⟨c0, c1, c2, c3, c4, c5, c6⟩ := (hbT'.out.below h59 hblt).cells
            simp only at c0 c1 c2 c3 c4 c5 c6
            go_wp2_with fail
            clear y0 y1 x0 x1 x2 x3 x4 x5 x6 hbz0 hbz1
            clear c0 c1 c2 c3 c4 c5 c6
            refine (sCheckAt _ _ _ (hP'.out _ hB9) (hvT.out.grow h59) hR'.out.check).mono ?_
            rintro e W10 ⟨rfl, h10⟩
            go_wp2_with fail
            go_ret
            exact ⟨rfl, hB9.trans (h10.mono hB9.size)⟩
  · have hne : (checkState p s != 0) = true := by simpa using hc
    have hra := Lib.hid (release_bad hc)
    clear hc
    obtain ⟨Ab, cb, As, cs, rfl, hP', hBn, hSz, hlb, hls⟩ := openPl hp
    obtain ⟨A0, c0, A1, c1, A2, c2, A3, c3, A4, c4, A5, c5, A6, c6, rfl, hV, hN, hO, hH, hM, hI, hU, hX, hl0, hl1, hl2, hl3, hl4, hl5, hl6⟩ := openOne hv
    go_enter Try.func12, Try.ntmps12
    go_wp2_with fail
    obtain ⟨W0, hW0, hb0, hsz0, hsz1, hsE, hK⟩ := boxesTwo w p s Ab cb As cs A0 c0 A1 c1 A2 c2 A3 c3 A4 c4 A5 c5 A6 c6
    rw [hW0]
    clear hW0
    obtain ⟨⟨y0, y1⟩, x0, x1, x2, x3, x4, x5, x6, hbz0, hbz1⟩ := hK.out W0 (Below.refl W0.heap.size W0)
    go_wp2_with fail
    clear y0 y1 x0 x1 x2 x3 x4 x5 x6 hbz0 hbz1
    refine (wvRelAt hra.out _ _ _ (hP'.out _ hb0) (hV.out _ hb0)).mono ?_
    rintro e W1 ⟨V1, rfl, ho1, hb1⟩
    have hone2 := (ho1).one
    have hnb2 := newBox (W1)
    go_wp2_with (refine wpList_store_state rfl (.tmp 5) (.tmp 21) rfl rfl (World.heap (W1)).size nilSV V1 hnb2 rfl rfl hone2 (fun w2 hbox2 hg2 => ?_); refine Hid.out ?_)
    unfold Hid
    have hbb2 := newBelow hg2
    have hbl2 := hbox2.lt
    clear hone2 hnb2 hg2
    have hB2 := hb0.trans ((hb1.trans (hbb2.mono hb1.size)).mono hb0.size)
    clear hbox2 ho1 hb1 hbb2
    go_wp2_with fail
    refine (bookBegun _).mono ?_
    rintro e W9 ⟨rfl, h9⟩
    go_wp2_with fail
    go_ret
    exact ⟨rfl, hB2.trans (h9.mono hB2.size)⟩
end Wh
