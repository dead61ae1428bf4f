/- Texts of the claim, joined: WaveA, HoldsG. -/
import Derived.StillTailTactics
import Derived.Test.YtijilfghfahgjaaQ20
import Derived.Test.YtijilfghfahgjaaQ21
import Derived.Test.YtijilfghfahgjaaQ17
import Derived.Test.YtijilfghfahgjaaQ19
import Derived.Test.YtijilfghfahgjaaQ03
namespace Wh
open Go Go.RowKit Go.Shelf Go.Proofs
attribute [local go_sem] run_indexAt_letter evL_tmp evL_const evL_func

/-- The cells of an order, of a state whose orders stand in V. -/
theorem OwnSt.orderCells {w : World} {base : Nat} {V : SV} {s : State} (h : OwnSt w base V s) {o : Nat} (ho : o < s.orders.length) {go n c : Nat} (hv : V.orders = .slice (some ⟨go, 0, none⟩) n c) : base ≤ go ∧ go < w.heap.size ∧
    w.cell? ⟨go, o * 2, none⟩ = some (.int .i64 (s.order o).kind) ∧ w.cell? ⟨go, o * 2 + 1, none⟩ = some (V.line o) := by
  obtain ⟨g', c', cur, e1, h2, h3, z0, z1⟩ := h.orderAt ho
  rw [hv] at e1
  injection e1 with e1
  injection e1 with e1
  injection e1 with e1
  subst e1
  exact ⟨h2, h3.lt, z0, z1⟩
theorem OwnSt.lineSlice {w : World} {base : Nat} {V : SV} {s : State} (h : OwnSt w base V s) {o : Nat} (ho : o < s.orders.length) (hl : 0 < (s.order o).lines.length) : ∃ gl c, V.line o = .slice (some ⟨gl, 0, none⟩) (s.order o).lines.length c ∧ base ≤ gl := by
  obtain ⟨g, c, cur, e1, h2, _⟩ := h.lineAt ho hl
  exact ⟨g, c, e1, h2⟩
theorem OwnSt.ordersSlice {w : World} {base : Nat} {V : SV} {s : State} (h : OwnSt w base V s) : ∃ A c, V.orders = .slice A s.orders.length c := by
  obtain ⟨A, c, e⟩ := h.orders.isSlice
  exact ⟨A, c, by rw [e, ords_length h.llen]⟩

theorem sv_holds {V9 V V5 : SV} (h : V9 = { V with holds := V9.holds }) (h' : V = { V5 with holds := V.holds }) : V9 = { V5 with holds := V9.holds } := by
  rw [h'] at h
  exact h

set_option maxHeartbeats 8000000 in
set_option maxRecDepth 100000 in
theorem wvRelease (w : World) (v vs : Value) (p : Plan) (s : State) (hp : PlanV w w.heap.size v p) (hv : StateV w w.heap.size vs s) :
    Calls Try.prog 26 #[v, vs] w (ActPost (release p s) w) := by
  obtain ⟨Ab, cb, As, cs, rfl, hP', hBn, hSz, hlb, hls⟩ := openPl hp
  obtain ⟨A0, c0, A1, c1, A2, c2, A3, c3, A4, c4, A5, c5, A6, c6, rfl, hV, hN, hO, hH, hM, hI, hU, hX, hl0, hl1, hl2, hl3, hl4, hl5, hl6⟩ := openOne hv
  go_enter Try.func26, Try.ntmps26
  go_wp2_with fail
  obtain ⟨W0, hW0, hb0, hsz0, hsz1, hsE, hK, hR⟩ := boxesAct w p s Ab cb As cs A0 c0 A1 c1 A2 c2 A3 c3 A4 c4 A5 c5 A6 c6
  rw [hW0]
  clear hW0
  obtain ⟨⟨y0, y1⟩, x0, x1, x2, x3, x4, x5, x6, hbz0, hbz1⟩ := hK.out W0 (Below.refl W0.heap.size W0)
  go_wp2_with fail
  clear y0 y1 x0 x1 x2 x3 x4 x5 x6 hbz0 hbz1
  refine (sCheck _ _ _ p s (hP'.out _ hb0) (hV.out _ hb0)).mono ?_
  rintro e W1 ⟨rfl, h1⟩
  have hB1 := hb0.trans (h1.mono hb0.size)
  obtain ⟨⟨y0, y1⟩, x0, x1, x2, x3, x4, x5, x6, hbz0, hbz1⟩ := hK.out W1 (h1)
  by_cases hc : checkState p s = 0
  · have hc' := Lib.hid hc
    have hsn := Lib.hid (checkState_zero.1 hc).1
    have hfin := Lib.hid (release_ok hc)
    have h4 := hsn.out.orders4
    rw [hc]
    clear hc
    go_wp2_with fail
    clear y0 y1 x0 x1 x2 x3 x4 x5 x6 hbz0 hbz1
    refine (sOwn _ _ p s (hV.out _ hB1) hsn.out).mono ?_
    rintro e W5 ⟨_, rfl, ⟨V5, rfl, ho5⟩, h5⟩
    have hone6 := (ho5).one
    have hnb6 := newBox (W5)
    go_wp2_with (refine wpList_store_state rfl (.tmp 7) (.tmp 22) rfl rfl (World.heap (W5)).size nilSV V5 hnb6 rfl rfl hone6 (fun w6 hbox6 hg6 => ?_); refine Hid.out ?_)
    unfold Hid
    have hbb6 := newBelow hg6
    have hbl6 := hbox6.lt
    clear hone6 hnb6 hg6
    have hx6 := Lib.hid (Bx.of hbox6 (ho5.below hbb6))
    have h06 := h1.trans ((h5.trans (hbb6.mono h5.size)).mono h1.size)
    have hle : w.heap.size ≤ W1.heap.size := hB1.size
    have hle0 : W0.heap.size ≤ W1.heap.size := h1.size
    have hle5 : W1.heap.size ≤ W5.heap.size := h5.size
    clear hbox6 ho5 hbb6 h5 hbl6 h1 hB1
    generalize W1.heap.size = base at hx6 hle hle0 hle5
    generalize W5.heap.size = bx at hx6 hle5 ⊢
    obtain ⟨Ao, co, hvo⟩ := hx6.out.own.ordersSlice
    have hvo' := Lib.hid hvo
    have c1 := hx6.out.cells.2.1
    rw [hvo] at c1
    clear hvo
    go_wp2_with fail
    clear c1
    go_loopw [26, 8, 9, 10] (fun i _ _ _ wr => ∃ n : Nat, n ≤ s.orders.length ∧ i = .int .i64 n ∧ Bx wr base bx 31 [] V5 (freedN s n) ∧ Below W0.heap.size W0 wr) (fun i _ _ _ _ => s.orders.length - (intOf i).toNat)
    case atStart => exact ⟨0, Nat.zero_le _, rfl, by rw [freedN_zero]; exact hx6.out, h06⟩
    case round =>
      clear hx6 h06
      obtain ⟨n, hn, rfl, hx, h0⟩ := hrel
      have hx' := Lib.hid hx
      clear hx
      by_cases hlt : n < s.orders.length
      · have hni : (n : Int) < (s.orders.length : Int) := by omega
        have hltn : n < (freedN s n).orders.length := by rw [freedN_len]; exact hlt
        have l13 := hsn.out.lines3 hlt
        obtain ⟨go, _, _, eo, -⟩ := hx'.out.own.orderAt hltn
        rw [hvo'.out] at eo
        injection eo with eo e2 e3
        subst eo
        clear e2 e3
        obtain ⟨hgo, hgol, z0, z1⟩ := hx'.out.own.orderCells hltn hvo'.out
        rw [freedN_order hlt] at z0
        have c1 := hx'.out.cells.2.1
        rw [hvo'.out] at c1
        clear hltn
        by_cases hk : (s.order n).kind = 0
        · have hq : ((s.order n).kind == 0) = true := by simpa using hk
          have hk' := Lib.hid hk
          clear hk
          go_wp2_with (refine wp_st_kind rfl (.tmp 40) (.const (.int .i64 1)) rfl rfl (i := n) (q := 1) hx'.out (by rw [freedN_len]; exact hlt) hvo'.out rfl rfl (fun w7 hx7 hst7 => ?_); refine Hid.out ?_)
          unfold Hid
          rw [freedK_zero hlt] at hx7
          have h07 := h0.trans (hst7.below (B := W0.heap.size) (fun q hq => by omega) h0.size)
          have hx7' := Lib.hid hx7
          clear hst7 hx7 z0 z1 c1 hq hx'
          obtain ⟨_, _, z0, z1⟩ := hx7'.out.own.orderCells (by rw [freedK_len]; exact hlt) hvo'.out
          obtain ⟨gl, cl, e1, hgl⟩ := hx7'.out.own.lineSlice (o := n) (by rw [freedK_len]; exact hlt) (by rw [freedK_lines hlt]; omega)
          rw [freedK_lines hlt] at e1
          have e1' := Lib.hid e1
          rw [e1] at z1
          clear e1 z0
          go_wp2_with fail
          clear z1
          go_loopw [46, 10] (fun i _ wr => ∃ k : Nat, k ≤ (s.order n).lines.length ∧ i = .int .i64 k ∧ Bx wr base bx 31 [] V5 (freedK s n k) ∧ Below W0.heap.size W0 wr) (fun i _ _ => (s.order n).lines.length - (intOf i).toNat)
          case atStart => exact ⟨0, Nat.zero_le _, rfl, hx7'.out, h07⟩
          case round =>
            clear hx7' h07 h0
            obtain ⟨k, hkl, rfl, hx, h0⟩ := hrel
            have hx' := Lib.hid hx
            clear hx
            by_cases hkt : k < (s.order n).lines.length
            · have hki : (k : Int) < ((s.order n).lines.length : Int) := by omega
              have hon : n < (freedK s n k).orders.length := by rw [freedK_len]; exact hlt
              have hkn : k < ((freedK s n k).order n).lines.length := by rw [freedK_lines hlt]; exact hkt
              obtain ⟨_, _, _, z1⟩ := hx'.out.own.orderCells hon hvo'.out
              rw [e1'.out] at z1
              obtain ⟨hgll, f0, f1, f2, f3⟩ := hx'.out.own.lineCells hon hkn e1'.out
              rw [freedK_line hlt hkt] at f1
              have hx'd := Lib.hid hx'.out.drew
              clear f0 f2 f3
              go_wp2_with fail
              go_still_tail 15, (by kernel_rfl)
              change wpList _ _ _ _ _ wr.drew
              refine wp_st_line rfl (.tmp 63) (.tmp 61) rfl rfl (j := 3) (y := { s.line n k with back := (s.line n k).want }) hx'd.out hon hkn e1'.out (by decide) (by rw [freedK_line hlt hkt]; rfl) rfl rfl (fun w9 hx9 hst9 => ?_)
              refine wpList_nil ?_
              rw [freedK_succ hlt hkt] at hx9
              have h09 := h0.drew.trans (hst9.below (B := W0.heap.size) (fun q hq => by omega) h0.drew.size)
              have hx9' := Lib.hid hx9
              clear hst9 hx9 z1 f1 hx' hx'd hon hkn
              go_wp2_with fail
              go_roundw
              case rel => exact ⟨k + 1, by omega, by go_num, hx9'.out, h09⟩
              case measure => simp [intOf]; omega
            · obtain rfl : k = (s.order n).lines.length := by omega
              have hx2 := Lib.hid (show Bx wr base bx 31 [] V5 (freedN s (n + 1)) by rw [← freedK_all hlt hk'.out]; exact hx'.out)
              go_wp2_with fail
              go_roundw
              case rel => exact ⟨n + 1, by omega, by go_num, hx2.out, h0⟩
              case measure => simp [intOf]; omega
        · have hq : ((s.order n).kind == 0) = false := by simpa using hk
          have hx2 := Lib.hid (show Bx wr base bx 31 [] V5 (freedN s (n + 1)) by rw [freedN_skip hlt hk]; exact hx'.out)
          clear hk
          go_wp2_with fail
          go_roundw
          case rel => exact ⟨n + 1, by omega, by go_num, hx2.out, h0⟩
          case measure => simp [intOf]; omega
      · obtain rfl : n = s.orders.length := by omega
        have hx6 := Lib.hid (show Bx wr base bx 31 [] V5 (takeOrders p 0 (freedS s)) by rw [← freedN_all]; exact hx'.out)
        have c1 := hx'.out.cells.2.1
        rw [hvo'.out] at c1
        clear hx'
        go_wp2_with fail
        clear c1
        have h06 := h0
        clear h0
        go_loopw [69, 11, 12, 13] (fun i _ _ _ wr => ∃ (n : Nat) (V : SV), V = { V5 with holds := V.holds } ∧ n ≤ s.orders.length ∧ i = .int .i64 n ∧ Bx wr base bx 31 [] V (takeOrders p n (freedS s)) ∧ Below W0.heap.size W0 wr) (fun i _ _ _ _ => s.orders.length - (intOf i).toNat)
        case atStart => exact ⟨0, V5, rfl, Nat.zero_le _, rfl, hx6.out, h06⟩
        case round =>
          clear hx6 h06
          obtain ⟨n, V, hV5, hn, rfl, hx, h0⟩ := hrel
          have hx' := Lib.hid hx
          have hVo := Lib.hid (show V.orders = .slice Ao s.orders.length co by rw [hV5]; exact hvo'.out)
          have hV5' := Lib.hid hV5
          clear hx hV5
          by_cases hlt : n < s.orders.length
          · have hni : (n : Int) < (s.orders.length : Int) := by omega
            have l13 := hsn.out.lines3 hlt
            obtain ⟨hrt, hlen, hlines⟩ := relO_facts (p := p) hc'.out hn
            have hltn : n < (takeOrders p n (freedS s)).orders.length := by rw [hlen]; exact hlt
            have hln := hlines n hlt
            obtain ⟨go, _, _, eo, -⟩ := hx'.out.own.orderAt hltn
            rw [hVo.out] at eo
            injection eo with eo e2 e3
            subst eo
            clear e2 e3
            obtain ⟨hgo, hgol, z0, z1⟩ := hx'.out.own.orderCells hltn hVo.out
            obtain ⟨gl, cl, e1, hgl⟩ := hx'.out.own.lineSlice hltn (by rw [hln]; omega)
            rw [hln] at e1
            rw [e1] at z1
            have e1' := Lib.hid e1
            have hl0 := Lib.hid h0
            generalize hkd : ((takeOrders p n (freedS s)).order n).kind = kd at z0
            have hkd' := Lib.hid hkd
            clear hkd hrt hlen hlines hltn hln e1
            by_cases hk : kd = 1
            · subst hk
              have h0a := h0.alloc h0.size (.cells #[.int .i64 1, .slice (some ⟨gl, 0, none⟩) (s.order n).lines.length cl] 53)
              have hxa := Lib.hid (hx'.out.below ((Below.refl wr.heap.size wr).alloc (Nat.le_refl _) (.cells #[.int .i64 1, .slice (some ⟨gl, 0, none⟩) (s.order n).lines.length cl] 53)))
              go_wp2_with fail
              clear z0 z1 h0 hl0 hx'
              generalize wr.heap.size = wo
              generalize wr.alloc (.cells #[.int .i64 1, .slice (some ⟨gl, 0, none⟩) (s.order n).lines.length cl] 53) = wa at h0a hxa ⊢
              go_loopw [80, 13] (fun i _ wr => ∃ (k : Nat) (V : SV), V = { V5 with holds := V.holds } ∧ k ≤ (s.order n).lines.length ∧ i = .int .i64 k ∧ Bx wr base bx 31 [] V (relK p s n k) ∧ Below W0.heap.size W0 wr) (fun i _ _ => (s.order n).lines.length - (intOf i).toNat)
              case atStart => exact ⟨0, V, hV5'.out, Nat.zero_le _, rfl, hxa.out, h0a⟩
              case round =>
                clear hxa h0a hVo hV5' e1' V
                obtain ⟨k, V, hV5, hkl, rfl, hx, h0⟩ := hrel
                have hx' := Lib.hid hx
                have hVo := Lib.hid (show V.orders = .slice (some ⟨go, 0, none⟩) s.orders.length co by rw [hV5]; exact hvo'.out)
                have hV5' := Lib.hid hV5
                clear hx hV5
                by_cases hkt : k < (s.order n).lines.length
                · have hki : (k : Int) < ((s.order n).lines.length : Int) := by omega
                  obtain ⟨hrt, hlen, _, hln⟩ := relK_facts hc'.out hlt hkd'.out hkl
                  have hmay := Lib.hid (relK_may hc'.out hlt hkd'.out hkt)
                  have hrt' := Lib.hid hrt
                  have hon : n < (relK p s n k).orders.length := by rw [hlen]; exact hlt
                  have hkn : k < ((relK p s n k).order n).lines.length := by rw [hln]; exact hkt
                  obtain ⟨_, _, _, z1⟩ := hx'.out.own.orderCells hon hVo.out
                  obtain ⟨gl2, cl2, e1, hgl2⟩ := hx'.out.own.lineSlice hon (by rw [hln]; omega)
                  rw [hln] at e1
                  rw [e1] at z1
                  obtain ⟨hgll, f0, f1, f2, f3⟩ := hx'.out.own.lineCells hon hkn e1
                  have c1 := hx'.out.cells.2.1
                  rw [hVo.out] at c1
                  have hxd := Lib.hid hx'.out.drew
                  have hBd := hb0.trans (h0.drew.mono hb0.size)
                  have e1' := Lib.hid e1
                  obtain ⟨⟨y0, y1⟩, x0, x1, x2, x3, x4, x5, x6, hbz0, hbz1⟩ := hK.out wr (h0)
                  clear f0 f1 f2 hrt hlen hln hon hkn e1 x0 x1 x2 x3 x4 x5 x6 hbz0
                  go_wp2_with fail
                  go_still_tail 13, (by kernel_rfl)
                  change wpList _ _ _ _ _ wr.drew
                  clear y0 y1 hbz1 z1 f3 c1
                  go_wp2_with fail
                  refine (alHold wr.drew _ p (relK p s n k) n k _ (-1) (hP'.out _ hBd) hrt'.out hmay.out hxd.out (by have := h0.size; show base ≤ wr.heap.size; omega)).mono ?_
                  rintro e w9 ⟨rfl, V9, hV9, hx9, hst9⟩
                  have h09 := h0.drew.trans (hst9.below (B := W0.heap.size) (fun q hq => by
                    rcases hq with rfl | hq
                    · omega
                    · rw [e1'.out] at hq
                      change some gl2 = some q at hq
                      injection hq with hq
                      omega) h0.drew.size)
                  have hV9' := Lib.hid (sv_holds hV9 hV5'.out)
                  have hx9' := Lib.hid (show Bx w9 base bx 31 [] V9 (relK p s n (k + 1)) from hx9)
                  clear hx9 hst9 hV9 hxd hx' hV5' hVo hmay hrt' e1'
                  go_wp2_with fail
                  go_roundw
                  case rel => exact ⟨k + 1, V9, hV9'.out, by omega, by go_num, hx9'.out, h09⟩
                  case measure => simp [intOf]; omega
                · obtain rfl : k = (s.order n).lines.length := by omega
                  have hx2 := Lib.hid (show Bx wr base bx 31 [] V (takeOrders p (n + 1) (freedS s)) by rw [← relO_yes hc'.out hlt hkd'.out]; exact hx'.out)
                  go_wp2_with fail
                  go_roundw
                  case rel => exact ⟨n + 1, V, hV5'.out, by omega, by go_num, hx2.out, h0⟩
                  case measure => simp [intOf]; omega
            · have hq : (kd != 1) = true := by simpa using hk
              have h0a := h0.alloc h0.size (.cells #[.int .i64 kd, .slice (some ⟨gl, 0, none⟩) (s.order n).lines.length cl] 53)
              have hxa := Lib.hid (show Bx _ base bx 31 [] V (takeOrders p (n + 1) (freedS s)) by rw [relO_no (by rw [hkd'.out]; exact hk)]; exact (hx'.out.below ((Below.refl wr.heap.size wr).alloc (Nat.le_refl _) (.cells #[.int .i64 kd, .slice (some ⟨gl, 0, none⟩) (s.order n).lines.length cl] 53))))
              clear hk
              go_wp2_with fail
              go_roundw
              case rel => exact ⟨n + 1, V, hV5'.out, by omega, by go_num, hxa.out, h0a⟩
              case measure => simp [intOf]; omega
          · obtain rfl : n = s.orders.length := by omega
            have hB0 := hb0.trans (h0.mono hb0.size)
            have hx2 := Lib.hid (show Bx wr base bx 31 [] V (releaseS p s) from hx'.out)
            clear hx'
            have hbx9 := hR.out _ h0
            obtain ⟨b0, b1, b2, b3, b4, b5, b6⟩ := BoxAt.cells hx2.out.boxAt
            have hone9 := OwnSt.one hx2.out.own
            go_wp2_with (refine wpList_store_state rfl (.tmp 4) (.tmp 99) rfl rfl (w.heap.size + 1 + 1) nilSV V hbx9 rfl rfl hone9 (fun w9 hbox9 hg9 => ?_))
            have hO9 := OwnSt.keptBy hx2.out.own hg9 hbx9 (by decide) (by decide) (by decide) (by decide) (by decide) (by decide)
            obtain ⟨p0, p1, p2, p3, p4, p5, p6⟩ := BoxAt.cells hbox9
            have hfin9 : Below w.heap.size w w9 := Below.grown hB0 hg9 (Below.size hB0) (fun k hk => by injection hk with hk; omega)
            clear b0 b1 b2 b3 b4 b5 b6
            go_wp2_with fail
            exact bodyPost_ret (v := .tuple #[SV.val V, .int .i64 0]) (by simp [results, Try.results26, go_sem, SV.val, p0, p1, p2, p3, p4, p5, p6]) rfl (actOk hfin.out (hO9.from_ hle) hfin9)
  · have hne : (checkState p s != 0) = true := by simpa using hc
    have hfin := Lib.hid (release_bad hc)
    clear hc
    have hbx9 := hR.out _ h1
    go_wp2_with (refine wpList_store_state rfl (.tmp 4) (.tmp 19) rfl rfl (w.heap.size + 1 + 1) nilSV nilSV hbx9 rfl rfl rfl (fun w9 hbox9 hg9 => ?_))
    obtain ⟨p0, p1, p2, p3, p4, p5, p6⟩ := BoxAt.cells hbox9
    have hfin9 : Below w.heap.size w w9 := Below.grown hB1 hg9 (Below.size hB1) (fun k hk => by injection hk with hk; omega)
    go_wp2_with fail
    exact bodyPost_ret (v := .tuple #[nilSV.val, .int .i64 (checkState p s)]) (by simp [results, Try.results26, go_sem, SV.val, p0, p1, p2, p3, p4, p5, p6]) rfl (actErr hfin.out hfin9)
end Wh
namespace Wh
open Go Go.RowKit Go.Shelf Go.Proofs
attribute [local go_sem] run_indexAt_letter

set_option maxHeartbeats 8000000 in
set_option maxRecDepth 10000 in
theorem rWith (w : World) (v : Value) (l : List Hold) (o ln b n : Int) (hv : Sl cHold w w.heap.size v l) (hok : holdsOk l = true) (hkey : keyOk o ln b) :
    Calls Try.prog 62 #[v, .int .i64 o, .int .i64 ln, .int .i64 b, .int .i64 n] w (Gives (fun u w' => Own cHold 4 63 w' w.heap.size u (withHold l ⟨o, ln, b, n⟩)) w) := by
  obtain ⟨A, c, rfl, _, hA⟩ := hv
  obtain ⟨x, hx⟩ : ∃ x : Hold, x = ⟨o, ln, b, n⟩ := ⟨_, rfl⟩
  have hlen := ok_length hok
  have hkx : keyOk x.order x.line x.bin := by rw [hx]; exact hkey
  have hr := (holdsOk_iff.1 hok).2
  have hkl : ∀ k, k < l.length → keyOk (hold l k).order (hold l k).line (hold l k).bin := fun k hk => ok_key hok hk
  have ho : o = x.order := by rw [hx]
  have hln : ln = x.line := by rw [hx]
  have hbb : b = x.bin := by rw [hx]
  have hnn : n = x.n := by rw [hx]
  rw [← hx]
  subst ho hln hbb hnn
  have hb0 : Below w.heap.size w (w.alloc (.cells #[.int .i64 (x).order, .int .i64 (x).line, .int .i64 (x).bin, .int .i64 (x).n] 63)) := (Below.refl _ _).alloc (Nat.le_refl _) _
  have hkx' := Lib.hid hkx
  have hkl' := Lib.hid hkl
  have hr' := Lib.hid hr
  clear hx hkey hkx hkl hr hok
  go_enter Try.func62, Try.ntmps62
  go_wp2_with fail
  obtain ⟨W0, hW0⟩ : ∃ W0, W0 = w.alloc (.cells #[.int .i64 (x).order, .int .i64 (x).line, .int .i64 (x).bin, .int .i64 (x).n] 63) := ⟨_, rfl⟩
  have hWr : w.alloc (.cells #[.int .i64 (x).order, .int .i64 (x).line, .int .i64 (x).bin, .int .i64 (x).n] 63) = W0 := hW0.symm
  simp only [hWr] at hb0 ⊢
  have hF : ∀ W, Below W0.heap.size W0 W → ∀ k, k < l.length → (okA A ∧ ablk A < W.heap.size ∧ W.cell? ⟨ablk A, aoff A + k * 4, none⟩ = some (.int .i64 (hold l k).order) ∧ W.cell? ⟨ablk A, aoff A + k * 4 + 1, none⟩ = some (.int .i64 (hold l k).line) ∧
      W.cell? ⟨ablk A, aoff A + k * 4 + 2, none⟩ = some (.int .i64 (hold l k).bin) ∧ W.cell? ⟨ablk A, aoff A + k * 4 + 3, none⟩ = some (.int .i64 (hold l k).n)) := fun W hW k hk => by
    have hB := hb0.trans (hW.mono hb0.size)
    exact (hA.up hB hB.size).hold hk
  have hX : ∀ W, Below W0.heap.size W0 W → (w.heap.size < W.heap.size ∧ W.cell? ⟨w.heap.size, 0, none⟩ = some (.int .i64 x.order) ∧ W.cell? ⟨w.heap.size, 1, none⟩ = some (.int .i64 x.line) ∧ W.cell? ⟨w.heap.size, 2, none⟩ = some (.int .i64 x.bin) ∧ W.cell? ⟨w.heap.size, 3, none⟩ = some (.int .i64 x.n)) := fun W hW => by
    have hsz : w.heap.size < W0.heap.size := by rw [hW0]; simp
    exact ⟨Nat.lt_of_lt_of_le hsz hW.size, (hW.cell (p := ⟨w.heap.size, 0, none⟩) hsz).trans (by rw [hW0]; simp), (hW.cell (p := ⟨w.heap.size, 1, none⟩) hsz).trans (by rw [hW0]; simp), (hW.cell (p := ⟨w.heap.size, 2, none⟩) hsz).trans (by rw [hW0]; simp), (hW.cell (p := ⟨w.heap.size, 3, none⟩) hsz).trans (by rw [hW0]; simp)⟩
  have hF' := Lib.hid hF
  have hX' := Lib.hid hX
  have hbase : w.heap.size ≤ W0.heap.size := hb0.size
  clear hF hX hW0 hWr hA
  have hd0 : (x.n == 0) = doneTo l x 0 := by rw [(withTo_zero l x).2, Bool.eq_iff_iff]; simp
  rw [hd0]
  clear hd0
  go_loopw [12, 13, 14] (fun u d i wr => ∃ k : Nat, k ≤ l.length ∧ i = .int .i64 k ∧ d = .bool (doneTo l x k) ∧ Own cHold 4 63 wr W0.heap.size u (withTo l x k) ∧ Below W0.heap.size W0 wr) (fun _ _ i _ => l.length - (intOf i).toNat)
  case atStart => exact ⟨0, Nat.zero_le _, rfl, rfl, by rw [(withTo_zero l x).1]; exact Own.nil, Below.refl _ _⟩
  case round =>
    obtain ⟨k, hk, rfl, rfl, hown, hbw⟩ := hrel
    have hwl := withTo_length l x k
    by_cases hlt : k < l.length
    · have hwl1 := withTo_length l x (k + 1)
      obtain ⟨hAok, hAb, b0, b1, b2, b3⟩ := hF'.out wr hbw k hlt
      obtain ⟨hBz, y0, y1, y2, y3⟩ := hX'.out wr hbw
      have q0 := fun o d os => cells_wld (w := wr) (b := w.heap.size) hBz o d os
      have qA := fun o d os => cells_wld (w := wr) (b := ablk A) hAb o d os
      cases hd : doneTo l x k
      · rcases Int.lt_trichotomy (place (hold l k)) (place x) with hp | hp | hp
        · obtain ⟨hw1, hd1⟩ := with_less_step hr'.out hlt hp
          rw [hd] at hd1
          have hw1' := Lib.hid hw1
          have hd1' := Lib.hid hd1
          have hp1 : ¬ (place x ≤ place (hold l k)) := by omega
          have hnb : (place (hold l k) != place x) = true := by simp; omega
          clear hw1 hd1 hd hp
          go_wp2_with fail
          refine wp_region_wld (by kernel_rfl) (by kernel_rfl) ?_
          repeat (go_big_quiet_step ((go_at_call 104; refine calls_wld (rPlace _ _ (by first | exact hkx'.out | exact hkl'.out k hlt)))))
          refine wpQuiet_nil ?_
          intro W2 hw'
          have hb2 := below_of_cls hw'
          clear hw'
          have hbw2 := hbw.trans (hb2.mono hbw.size)
          have hown2 := hown.below hb2
          clear q0 qA b0 b1 b2 b3 y0 y1 y2 y3
          obtain ⟨hAok4, hAb4, b0, b1, b2, b3⟩ := hF'.out W2 hbw2 k hlt
          obtain ⟨hBz4, y0, y1, y2, y3⟩ := hX'.out W2 hbw2
          have q0 := fun o d os => cells_wld (w := W2) (b := w.heap.size) hBz4 o d os
          have qA := fun o d os => cells_wld (w := W2) (b := ablk A) hAb4 o d os
          go_wp2_with fail
          refine wp_region_wld (by kernel_rfl) (by kernel_rfl) ?_
          repeat (go_big_quiet_step ((go_at_call 104; refine calls_wld (rPlace _ _ (by first | exact hkx'.out | exact hkl'.out k hlt)))))
          refine wpQuiet_nil ?_
          intro W5 hw'
          have hb5 := below_of_cls hw'
          clear hw'
          have hbw5 := hbw2.trans (hb5.mono hbw2.size)
          have hown5 := hown2.below hb5
          clear q0 qA b0 b1 b2 b3 y0 y1 y2 y3
          obtain ⟨hAok6, hAb6, b0, b1, b2, b3⟩ := hF'.out W5 hbw5 k hlt
          go_wp2_with (at_builtin; refine Hid.out ?_)
          unfold Hid
          refine wpList_push _ rfl (.tmp 52) (.tmp 57) 28 63 rfl W0.heap.size _ 4 32 Try.underlying28 infoHold rfl (by decide) (by decide) _ (withTo l x k) (hold l k) rfl (hown5.alloc _) ⟨W5.heap.size, 0, none⟩ 1 rfl rfl (cells_new _ _ _) (oneHold _) (by omega) (by have := hbw5.size; simp; omega) ?_
          intro v7 w7 hown7 hg7 hat7 hbel7
          have hbw7 := (hbw5.alloc hbw5.size (.cells #[.int .i64 (hold l k).order, .int .i64 (hold l k).line, .int .i64 (hold l k).bin, .int .i64 (hold l k).n] 63)).trans hbel7
          go_wp2_with fail
          go_roundw
          case rel => exact ⟨k + 1, by omega, by go_num, by rw [hd1'.out], by rw [hw1'.out]; exact hown7, hbw7⟩
          case measure => simp [intOf]; omega
        · have hw1 := with_eq_new hlt hp hd
          have hd1 := done_at hlt (show place x ≤ place (hold l k) by omega)
          have hw1' := Lib.hid hw1
          have hd1' := Lib.hid hd1
          have hnb : (place (hold l k) != place x) = false := by simp; omega
          have hp1 : place x ≤ place (hold l k) := by omega
          clear hw1 hd1 hd hp
          go_wp2_with fail
          refine wp_region_wld (by kernel_rfl) (by kernel_rfl) ?_
          repeat (go_big_quiet_step ((go_at_call 104; refine calls_wld (rPlace _ _ (by first | exact hkx'.out | exact hkl'.out k hlt)))))
          refine wpQuiet_nil ?_
          intro W2 hw'
          have hb2 := below_of_cls hw'
          clear hw'
          have hbw2 := hbw.trans (hb2.mono hbw.size)
          have hown2 := hown.below hb2
          clear q0 qA b0 b1 b2 b3 y0 y1 y2 y3
          obtain ⟨hBz2, y0, y1, y2, y3⟩ := hX'.out W2 hbw2
          go_wp2_with (at_builtin; refine Hid.out ?_)
          unfold Hid
          refine wpList_push _ rfl (.tmp 40) (.tmp 42) 28 63 rfl W0.heap.size _ 4 32 Try.underlying28 infoHold rfl (by decide) (by decide) _ (withTo l x k) x rfl (hown2.alloc _) ⟨W2.heap.size, 0, none⟩ 1 rfl rfl (cells_new _ _ _) (oneHold x) (by omega) (by have := hbw2.size; simp; omega) ?_
          intro v3 w3 hown3 hg3 hat3 hbel3
          have hbw3 := (hbw2.alloc hbw2.size (.cells #[.int .i64 (x).order, .int .i64 (x).line, .int .i64 (x).bin, .int .i64 (x).n] 63)).trans hbel3
          clear y0 y1 y2 y3
          obtain ⟨hAok4, hAb4, b0, b1, b2, b3⟩ := hF'.out w3 hbw3 k hlt
          obtain ⟨hBz4, y0, y1, y2, y3⟩ := hX'.out w3 hbw3
          have q0 := fun o d os => cells_wld (w := w3) (b := w.heap.size) hBz4 o d os
          have qA := fun o d os => cells_wld (w := w3) (b := ablk A) hAb4 o d os
          go_wp2_with fail
          refine wp_region_wld (by kernel_rfl) (by kernel_rfl) ?_
          repeat (go_big_quiet_step ((go_at_call 104; refine calls_wld (rPlace _ _ (by first | exact hkx'.out | exact hkl'.out k hlt)))))
          refine wpQuiet_nil ?_
          intro W5 hw'
          have hb5 := below_of_cls hw'
          clear hw'
          have hbw5 := hbw3.trans (hb5.mono hbw3.size)
          have hown5 := hown3.below hb5
          clear q0 qA b0 b1 b2 b3 y0 y1 y2 y3
          go_wp2_with fail
          go_roundw
          case rel => exact ⟨k + 1, by omega, by go_num, by rw [hd1'.out], by rw [hw1'.out]; exact hown5, hbw5⟩
          case measure => simp [intOf]; omega
        · have hw1 := with_more_new hlt hp hd
          have hd1 := done_at hlt (show place x ≤ place (hold l k) by omega)
          have hwl2 : (withTo l x k ++ [x]).length ≤ 146 := by rw [List.length_append]; simp; omega
          have hw1' := Lib.hid hw1
          have hd1' := Lib.hid hd1
          have hp1 : place x ≤ place (hold l k) := by omega
          have hnb : (place (hold l k) != place x) = true := by simp; omega
          clear hw1 hd1 hd hp
          go_wp2_with fail
          refine wp_region_wld (by kernel_rfl) (by kernel_rfl) ?_
          repeat (go_big_quiet_step ((go_at_call 104; refine calls_wld (rPlace _ _ (by first | exact hkx'.out | exact hkl'.out k hlt)))))
          refine wpQuiet_nil ?_
          intro W2 hw'
          have hb2 := below_of_cls hw'
          clear hw'
          have hbw2 := hbw.trans (hb2.mono hbw.size)
          have hown2 := hown.below hb2
          clear q0 qA b0 b1 b2 b3 y0 y1 y2 y3
          obtain ⟨hBz2, y0, y1, y2, y3⟩ := hX'.out W2 hbw2
          go_wp2_with (at_builtin; refine Hid.out ?_)
          unfold Hid
          refine wpList_push _ rfl (.tmp 40) (.tmp 42) 28 63 rfl W0.heap.size _ 4 32 Try.underlying28 infoHold rfl (by decide) (by decide) _ (withTo l x k) x rfl (hown2.alloc _) ⟨W2.heap.size, 0, none⟩ 1 rfl rfl (cells_new _ _ _) (oneHold x) (by omega) (by have := hbw2.size; simp; omega) ?_
          intro v3 w3 hown3 hg3 hat3 hbel3
          have hbw3 := (hbw2.alloc hbw2.size (.cells #[.int .i64 (x).order, .int .i64 (x).line, .int .i64 (x).bin, .int .i64 (x).n] 63)).trans hbel3
          clear y0 y1 y2 y3
          obtain ⟨hAok4, hAb4, b0, b1, b2, b3⟩ := hF'.out w3 hbw3 k hlt
          obtain ⟨hBz4, y0, y1, y2, y3⟩ := hX'.out w3 hbw3
          have q0 := fun o d os => cells_wld (w := w3) (b := w.heap.size) hBz4 o d os
          have qA := fun o d os => cells_wld (w := w3) (b := ablk A) hAb4 o d os
          go_wp2_with fail
          refine wp_region_wld (by kernel_rfl) (by kernel_rfl) ?_
          repeat (go_big_quiet_step ((go_at_call 104; refine calls_wld (rPlace _ _ (by first | exact hkx'.out | exact hkl'.out k hlt)))))
          refine wpQuiet_nil ?_
          intro W5 hw'
          have hb5 := below_of_cls hw'
          clear hw'
          have hbw5 := hbw3.trans (hb5.mono hbw3.size)
          have hown5 := hown3.below hb5
          clear q0 qA b0 b1 b2 b3 y0 y1 y2 y3
          obtain ⟨hAok6, hAb6, b0, b1, b2, b3⟩ := hF'.out W5 hbw5 k hlt
          go_wp2_with (at_builtin; refine Hid.out ?_)
          unfold Hid
          refine wpList_push _ rfl (.tmp 52) (.tmp 57) 28 63 rfl W0.heap.size _ 4 32 Try.underlying28 infoHold rfl (by decide) (by decide) _ (withTo l x k ++ [x]) (hold l k) rfl (hown5.alloc _) ⟨W5.heap.size, 0, none⟩ 1 rfl rfl (cells_new _ _ _) (oneHold _) (by omega) (by have := hbw5.size; simp; omega) ?_
          intro v7 w7 hown7 hg7 hat7 hbel7
          have hbw7 := (hbw5.alloc hbw5.size (.cells #[.int .i64 (hold l k).order, .int .i64 (hold l k).line, .int .i64 (hold l k).bin, .int .i64 (hold l k).n] 63)).trans hbel7
          go_wp2_with fail
          go_roundw
          case rel => exact ⟨k + 1, by omega, by go_num, by rw [hd1'.out], by rw [hw1'.out]; exact hown7, hbw7⟩
          case measure => simp [intOf]; omega
      · rcases Int.lt_trichotomy (place (hold l k)) (place x) with hp | hp | hp
        · obtain ⟨hw1, hd1⟩ := with_less_step hr'.out hlt hp
          rw [hd] at hd1
          have hw1' := Lib.hid hw1
          have hd1' := Lib.hid hd1
          have hp1 : ¬ (place x ≤ place (hold l k)) := by omega
          have hnb : (place (hold l k) != place x) = true := by simp; omega
          clear hw1 hd1 hd hp
          go_wp2_with fail
          refine wp_region_wld (by kernel_rfl) (by kernel_rfl) ?_
          repeat (go_big_quiet_step ((go_at_call 104; refine calls_wld (rPlace _ _ (by first | exact hkx'.out | exact hkl'.out k hlt)))))
          refine wpQuiet_nil ?_
          intro W2 hw'
          have hb2 := below_of_cls hw'
          clear hw'
          have hbw2 := hbw.trans (hb2.mono hbw.size)
          have hown2 := hown.below hb2
          clear q0 qA b0 b1 b2 b3 y0 y1 y2 y3
          obtain ⟨hAok4, hAb4, b0, b1, b2, b3⟩ := hF'.out W2 hbw2 k hlt
          obtain ⟨hBz4, y0, y1, y2, y3⟩ := hX'.out W2 hbw2
          have q0 := fun o d os => cells_wld (w := W2) (b := w.heap.size) hBz4 o d os
          have qA := fun o d os => cells_wld (w := W2) (b := ablk A) hAb4 o d os
          go_wp2_with fail
          refine wp_region_wld (by kernel_rfl) (by kernel_rfl) ?_
          repeat (go_big_quiet_step ((go_at_call 104; refine calls_wld (rPlace _ _ (by first | exact hkx'.out | exact hkl'.out k hlt)))))
          refine wpQuiet_nil ?_
          intro W5 hw'
          have hb5 := below_of_cls hw'
          clear hw'
          have hbw5 := hbw2.trans (hb5.mono hbw2.size)
          have hown5 := hown2.below hb5
          clear q0 qA b0 b1 b2 b3 y0 y1 y2 y3
          obtain ⟨hAok6, hAb6, b0, b1, b2, b3⟩ := hF'.out W5 hbw5 k hlt
          go_wp2_with (at_builtin; refine Hid.out ?_)
          unfold Hid
          refine wpList_push _ rfl (.tmp 52) (.tmp 57) 28 63 rfl W0.heap.size _ 4 32 Try.underlying28 infoHold rfl (by decide) (by decide) _ (withTo l x k) (hold l k) rfl (hown5.alloc _) ⟨W5.heap.size, 0, none⟩ 1 rfl rfl (cells_new _ _ _) (oneHold _) (by omega) (by have := hbw5.size; simp; omega) ?_
          intro v7 w7 hown7 hg7 hat7 hbel7
          have hbw7 := (hbw5.alloc hbw5.size (.cells #[.int .i64 (hold l k).order, .int .i64 (hold l k).line, .int .i64 (hold l k).bin, .int .i64 (hold l k).n] 63)).trans hbel7
          go_wp2_with fail
          go_roundw
          case rel => exact ⟨k + 1, by omega, by go_num, by rw [hd1'.out], by rw [hw1'.out]; exact hown7, hbw7⟩
          case measure => simp [intOf]; omega
        · have hw1 := with_eq_old hr'.out hlt hp hd
          have hd1 := done_at hlt (show place x ≤ place (hold l k) by omega)
          have hw1' := Lib.hid hw1
          have hd1' := Lib.hid hd1
          have hnb : (place (hold l k) != place x) = false := by simp; omega
          have hp1 : place x ≤ place (hold l k) := by omega
          clear hw1 hd1 hd hp
          go_wp2_with fail
          refine wp_region_wld (by kernel_rfl) (by kernel_rfl) ?_
          repeat (go_big_quiet_step ((go_at_call 104; refine calls_wld (rPlace _ _ (by first | exact hkx'.out | exact hkl'.out k hlt)))))
          refine wpQuiet_nil ?_
          intro W2 hw'
          have hb2 := below_of_cls hw'
          clear hw'
          have hbw2 := hbw.trans (hb2.mono hbw.size)
          have hown2 := hown.below hb2
          clear q0 qA b0 b1 b2 b3 y0 y1 y2 y3
          obtain ⟨hAok4, hAb4, b0, b1, b2, b3⟩ := hF'.out W2 hbw2 k hlt
          obtain ⟨hBz4, y0, y1, y2, y3⟩ := hX'.out W2 hbw2
          have q0 := fun o d os => cells_wld (w := W2) (b := w.heap.size) hBz4 o d os
          have qA := fun o d os => cells_wld (w := W2) (b := ablk A) hAb4 o d os
          go_wp2_with fail
          refine wp_region_wld (by kernel_rfl) (by kernel_rfl) ?_
          repeat (go_big_quiet_step ((go_at_call 104; refine calls_wld (rPlace _ _ (by first | exact hkx'.out | exact hkl'.out k hlt)))))
          refine wpQuiet_nil ?_
          intro W5 hw'
          have hb5 := below_of_cls hw'
          clear hw'
          have hbw5 := hbw2.trans (hb5.mono hbw2.size)
          have hown5 := hown2.below hb5
          clear q0 qA b0 b1 b2 b3 y0 y1 y2 y3
          go_wp2_with fail
          go_roundw
          case rel => exact ⟨k + 1, by omega, by go_num, by rw [hd1'.out], by rw [hw1'.out]; exact hown5, hbw5⟩
          case measure => simp [intOf]; omega
        · have hw1 := with_more_old hlt hp hd
          have hd1 := done_at hlt (show place x ≤ place (hold l k) by omega)
          have hw1' := Lib.hid hw1
          have hd1' := Lib.hid hd1
          have hp1 : place x ≤ place (hold l k) := by omega
          have hnb : (place (hold l k) != place x) = true := by simp; omega
          clear hw1 hd1 hd hp
          go_wp2_with fail
          refine wp_region_wld (by kernel_rfl) (by kernel_rfl) ?_
          repeat (go_big_quiet_step ((go_at_call 104; refine calls_wld (rPlace _ _ (by first | exact hkx'.out | exact hkl'.out k hlt)))))
          refine wpQuiet_nil ?_
          intro W2 hw'
          have hb2 := below_of_cls hw'
          clear hw'
          have hbw2 := hbw.trans (hb2.mono hbw.size)
          have hown2 := hown.below hb2
          clear q0 qA b0 b1 b2 b3 y0 y1 y2 y3
          obtain ⟨hAok4, hAb4, b0, b1, b2, b3⟩ := hF'.out W2 hbw2 k hlt
          obtain ⟨hBz4, y0, y1, y2, y3⟩ := hX'.out W2 hbw2
          have q0 := fun o d os => cells_wld (w := W2) (b := w.heap.size) hBz4 o d os
          have qA := fun o d os => cells_wld (w := W2) (b := ablk A) hAb4 o d os
          go_wp2_with fail
          refine wp_region_wld (by kernel_rfl) (by kernel_rfl) ?_
          repeat (go_big_quiet_step ((go_at_call 104; refine calls_wld (rPlace _ _ (by first | exact hkx'.out | exact hkl'.out k hlt)))))
          refine wpQuiet_nil ?_
          intro W5 hw'
          have hb5 := below_of_cls hw'
          clear hw'
          have hbw5 := hbw2.trans (hb5.mono hbw2.size)
          have hown5 := hown2.below hb5
          clear q0 qA b0 b1 b2 b3 y0 y1 y2 y3
          obtain ⟨hAok6, hAb6, b0, b1, b2, b3⟩ := hF'.out W5 hbw5 k hlt
          go_wp2_with (at_builtin; refine Hid.out ?_)
          unfold Hid
          refine wpList_push _ rfl (.tmp 52) (.tmp 57) 28 63 rfl W0.heap.size _ 4 32 Try.underlying28 infoHold rfl (by decide) (by decide) _ (withTo l x k) (hold l k) rfl (hown5.alloc _) ⟨W5.heap.size, 0, none⟩ 1 rfl rfl (cells_new _ _ _) (oneHold _) (by omega) (by have := hbw5.size; simp; omega) ?_
          intro v7 w7 hown7 hg7 hat7 hbel7
          have hbw7 := (hbw5.alloc hbw5.size (.cells #[.int .i64 (hold l k).order, .int .i64 (hold l k).line, .int .i64 (hold l k).bin, .int .i64 (hold l k).n] 63)).trans hbel7
          go_wp2_with fail
          go_roundw
          case rel => exact ⟨k + 1, by omega, by go_num, by rw [hd1'.out], by rw [hw1'.out]; exact hown7, hbw7⟩
          case measure => simp [intOf]; omega
    · obtain rfl : k = l.length := by omega
      obtain ⟨hBz, y0, y1, y2, y3⟩ := hX'.out wr hbw
      cases hd : doneTo l x l.length
      · have hfin := Lib.hid (with_end_new hd)
        clear hd
        go_wp2_with (at_builtin; refine Hid.out ?_)
        unfold Hid
        refine wpList_push _ rfl (.tmp 61) (.tmp 63) 28 63 rfl W0.heap.size _ 4 32 Try.underlying28 infoHold rfl (by decide) (by decide) _ (withTo l x l.length) x rfl (hown.alloc _) ⟨wr.heap.size, 0, none⟩ 1 rfl rfl (cells_new _ _ _) (oneHold x) (by omega) (by have := hbw.size; simp; omega) ?_
        intro v9 w9 hown9 hg9 hat9 hbel9
        go_wp2_with fail
        go_ret
        refine ⟨_, rfl, ?_, hb0.trans (((hbw.alloc hbw.size (.cells #[.int .i64 (x).order, .int .i64 (x).line, .int .i64 (x).bin, .int .i64 (x).n] 63)).trans hbel9).mono hbase)⟩
        rw [hfin.out]
        exact hown9.from_ hbase
      · have hfin := Lib.hid (with_end_old hd)
        clear hd
        go_wp2_with fail
        go_ret
        refine ⟨_, rfl, ?_, hb0.trans (hbw.mono hbase)⟩
        rw [hfin.out]
        exact hown.from_ hbase

end Wh
