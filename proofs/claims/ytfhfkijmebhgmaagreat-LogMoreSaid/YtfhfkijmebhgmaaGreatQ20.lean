/- Texts of the claim, joined: WaveA, RelB. -/
import Derived.StillTailTactics
import Derived.Test.YtfhfkijmebhgmaaGreatQ18
import Derived.Test.YtfhfkijmebhgmaaGreatQ19
import Derived.Test.YtfhfkijmebhgmaaGreatQ14
import Derived.Test.YtfhfkijmebhgmaaGreatQ06
namespace Wh
open Go Go.RowKit Go.Shelf Go.Proofs
attribute [local go_sem] run_indexAt_letter evL_tmp evL_const evL_func

/-- The cells of an order, of a state whose orders stand in V. -/
theorem OwnSt.orderCells {w : World} {base : Nat} {V : SV} {s : State} (h : OwnSt w base V s) {o : Nat} (ho : o < s.orders.length) {go n c : Nat} (hv : V.orders = .slice (some ⟨go, 0, none⟩) n c) : base ≤ go ∧ go < w.heap.size ∧
    w.cell? ⟨go, o * 2, none⟩ = some (.int .i64 (s.order o).kind) ∧ w.cell? ⟨go, o * 2 + 1, none⟩ = some (V.line o) := by
  obtain ⟨g', c', cur, e1, h2, h3, z0, z1⟩ := h.orderAt ho
  rw [hv] at e1
  injection e1 with e1
  injection e1 with e1
  injection e1 with e1
  subst e1
  exact ⟨h2, h3.lt, z0, z1⟩
theorem OwnSt.lineSlice {w : World} {base : Nat} {V : SV} {s : State} (h : OwnSt w base V s) {o : Nat} (ho : o < s.orders.length) (hl : 0 < (s.order o).lines.length) : ∃ gl c, V.line o = .slice (some ⟨gl, 0, none⟩) (s.order o).lines.length c ∧ base ≤ gl := by
  obtain ⟨g, c, cur, e1, h2, _⟩ := h.lineAt ho hl
  exact ⟨g, c, e1, h2⟩
theorem OwnSt.ordersSlice {w : World} {base : Nat} {V : SV} {s : State} (h : OwnSt w base V s) : ∃ A c, V.orders = .slice A s.orders.length c := by
  obtain ⟨A, c, e⟩ := h.orders.isSlice
  exact ⟨A, c, by rw [e, ords_length h.llen]⟩

theorem sv_holds {V9 V V5 : SV} (h : V9 = { V with holds := V9.holds }) (h' : V = { V5 with holds := V.holds }) : V9 = { V5 with holds := V9.holds } := by
  rw [h'] at h
  exact h

set_option maxHeartbeats 8000000 in
set_option maxRecDepth 100000 in
theorem wvRelease (w : World) (v vs : Value) (p : Plan) (s : State) (hp : PlanV w w.heap.size v p) (hv : StateV w w.heap.size vs s) :
    Calls Tryz.prog 46 #[v, vs] w (ActPost (release p s) w) := by
  obtain ⟨Ab, cb, As, cs, rfl, hP', hBn, hSz, hlb, hls⟩ := openPl hp
  obtain ⟨A0, c0, A1, c1, A2, c2, A3, c3, A4, c4, A5, c5, A6, c6, rfl, hV, hN, hO, hH, hM, hI, hU, hX, hl0, hl1, hl2, hl3, hl4, hl5, hl6⟩ := openOne hv
  go_enter Tryz.func46, Tryz.ntmps46
  go_wp2_with fail
  obtain ⟨W0, hW0, hb0, hsz0, hsz1, hsE, hK, hR⟩ := boxesAct w p s Ab cb As cs A0 c0 A1 c1 A2 c2 A3 c3 A4 c4 A5 c5 A6 c6
  rw [hW0]
  clear hW0
  obtain ⟨⟨y0, y1⟩, x0, x1, x2, x3, x4, x5, x6, hbz0, hbz1⟩ := hK.out W0 (Below.refl W0.heap.size W0)
  go_wp2_with fail
  clear y0 y1 x0 x1 x2 x3 x4 x5 x6 hbz0 hbz1
  refine (sCheck _ _ _ p s (hP'.out _ hb0) (hV.out _ hb0)).mono ?_
  rintro e W1 ⟨rfl, h1⟩
  have hB1 := hb0.trans (h1.mono hb0.size)
  obtain ⟨⟨y0, y1⟩, x0, x1, x2, x3, x4, x5, x6, hbz0, hbz1⟩ := hK.out W1 (h1)
  by_cases hc : checkState p s = 0
  · have hc' := Lib.hid hc
    have hsn := Lib.hid (checkState_zero.1 hc).1
    have hfin := Lib.hid (release_ok hc)
    have h4 := hsn.out.orders4
    rw [hc]
    clear hc
    go_wp2_with fail
    clear y0 y1 x0 x1 x2 x3 x4 x5 x6 hbz0 hbz1
    refine (sOwn _ _ p s (hV.out _ hB1) hsn.out).mono ?_
    rintro e W5 ⟨_, rfl, ⟨V5, rfl, ho5⟩, h5⟩
    have hone6 := (ho5).one
    have hnb6 := newBox (W5)
    go_wp2_with (refine wpList_store_state rfl (.tmp 7) (.tmp 22) rfl rfl (World.heap (W5)).size nilSV V5 hnb6 rfl rfl hone6 (fun w6 hbox6 hg6 => ?_); refine Hid.out ?_)
    unfold Hid
    have hbb6 := newBelow hg6
    have hbl6 := hbox6.lt
    clear hone6 hnb6 hg6
    have hx6 := Lib.hid (Bx.of hbox6 (ho5.below hbb6))
    have h06 := h1.trans ((h5.trans (hbb6.mono h5.size)).mono h1.size)
    have hle : w.heap.size ≤ W1.heap.size := hB1.size
    have hle0 : W0.heap.size ≤ W1.heap.size := h1.size
    have hle5 : W1.heap.size ≤ W5.heap.size := h5.size
    clear hbox6 ho5 hbb6 h5 hbl6 h1 hB1
    generalize W1.heap.size = base at hx6 hle hle0 hle5
    generalize W5.heap.size = bx at hx6 hle5 ⊢
    obtain ⟨Ao, co, hvo⟩ := hx6.out.own.ordersSlice
    have hvo' := Lib.hid hvo
    have c1 := hx6.out.cells.2.1
    rw [hvo] at c1
    clear hvo
    go_wp2_with fail
    clear c1
    go_loopw [26, 8, 9, 10] (fun i _ _ _ wr => ∃ n : Nat, n ≤ s.orders.length ∧ i = .int .i64 n ∧ Bx wr base bx 31 [] V5 (freedN s n) ∧ Below W0.heap.size W0 wr) (fun i _ _ _ _ => s.orders.length - (intOf i).toNat)
    case atStart => exact ⟨0, Nat.zero_le _, rfl, by rw [freedN_zero]; exact hx6.out, h06⟩
    case round =>
      clear hx6 h06
      obtain ⟨n, hn, rfl, hx, h0⟩ := hrel
      have hx' := Lib.hid hx
      clear hx
      by_cases hlt : n < s.orders.length
      · have hni : (n : Int) < (s.orders.length : Int) := by omega
        have hltn : n < (freedN s n).orders.length := by rw [freedN_len]; exact hlt
        have l13 := hsn.out.lines3 hlt
        obtain ⟨go, _, _, eo, -⟩ := hx'.out.own.orderAt hltn
        rw [hvo'.out] at eo
        injection eo with eo e2 e3
        subst eo
        clear e2 e3
        obtain ⟨hgo, hgol, z0, z1⟩ := hx'.out.own.orderCells hltn hvo'.out
        rw [freedN_order hlt] at z0
        have c1 := hx'.out.cells.2.1
        rw [hvo'.out] at c1
        clear hltn
        by_cases hk : (s.order n).kind = 0
        · have hq : ((s.order n).kind == 0) = true := by simpa using hk
          have hk' := Lib.hid hk
          clear hk
          go_wp2_with (refine wp_st_kind rfl (.tmp 40) (.const (.int .i64 1)) rfl rfl (i := n) (q := 1) hx'.out (by rw [freedN_len]; exact hlt) hvo'.out rfl rfl (fun w7 hx7 hst7 => ?_); refine Hid.out ?_)
          unfold Hid
          rw [freedK_zero hlt] at hx7
          have h07 := h0.trans (hst7.below (B := W0.heap.size) (fun q hq => by omega) h0.size)
          have hx7' := Lib.hid hx7
          clear hst7 hx7 z0 z1 c1 hq hx'
          obtain ⟨_, _, z0, z1⟩ := hx7'.out.own.orderCells (by rw [freedK_len]; exact hlt) hvo'.out
          obtain ⟨gl, cl, e1, hgl⟩ := hx7'.out.own.lineSlice (o := n) (by rw [freedK_len]; exact hlt) (by rw [freedK_lines hlt]; omega)
          rw [freedK_lines hlt] at e1
          have e1' := Lib.hid e1
          rw [e1] at z1
          clear e1 z0
          go_wp2_with fail
          clear z1
          go_loopw [46, 10] (fun i _ wr => ∃ k : Nat, k ≤ (s.order n).lines.length ∧ i = .int .i64 k ∧ Bx wr base bx 31 [] V5 (freedK s n k) ∧ Below W0.heap.size W0 wr) (fun i _ _ => (s.order n).lines.length - (intOf i).toNat)
          case atStart => exact ⟨0, Nat.zero_le _, rfl, hx7'.out, h07⟩
          case round =>
            clear hx7' h07 h0
            obtain ⟨k, hkl, rfl, hx, h0⟩ := hrel
            have hx' := Lib.hid hx
            clear hx
            by_cases hkt : k < (s.order n).lines.length
            · have hki : (k : Int) < ((s.order n).lines.length : Int) := by omega
              have hon : n < (freedK s n k).orders.length := by rw [freedK_len]; exact hlt
              have hkn : k < ((freedK s n k).order n).lines.length := by rw [freedK_lines hlt]; exact hkt
              obtain ⟨_, _, _, z1⟩ := hx'.out.own.orderCells hon hvo'.out
              rw [e1'.out] at z1
              obtain ⟨hgll, f0, f1, f2, f3⟩ := hx'.out.own.lineCells hon hkn e1'.out
              rw [freedK_line hlt hkt] at f1
              have hx'd := Lib.hid hx'.out.drew
              clear f0 f2 f3
              go_wp2_with fail
              go_still_tail 15, (by kernel_rfl)
              change wpList _ _ _ _ _ wr.drew
              refine wp_st_line rfl (.tmp 63) (.tmp 61) rfl rfl (j := 3) (y := { s.line n k with back := (s.line n k).want }) hx'd.out hon hkn e1'.out (by decide) (by rw [freedK_line hlt hkt]; rfl) rfl rfl (fun w9 hx9 hst9 => ?_)
              refine wpList_nil ?_
              rw [freedK_succ hlt hkt] at hx9
              have h09 := h0.drew.trans (hst9.below (B := W0.heap.size) (fun q hq => by omega) h0.drew.size)
              have hx9' := Lib.hid hx9
              clear hst9 hx9 z1 f1 hx' hx'd hon hkn
              go_wp2_with fail
              go_roundw
              case rel => exact ⟨k + 1, by omega, by go_num, hx9'.out, h09⟩
              case measure => simp [intOf]; omega
            · obtain rfl : k = (s.order n).lines.length := by omega
              have hx2 := Lib.hid (show Bx wr base bx 31 [] V5 (freedN s (n + 1)) by rw [← freedK_all hlt hk'.out]; exact hx'.out)
              go_wp2_with fail
              go_roundw
              case rel => exact ⟨n + 1, by omega, by go_num, hx2.out, h0⟩
              case measure => simp [intOf]; omega
        · have hq : ((s.order n).kind == 0) = false := by simpa using hk
          have hx2 := Lib.hid (show Bx wr base bx 31 [] V5 (freedN s (n + 1)) by rw [freedN_skip hlt hk]; exact hx'.out)
          clear hk
          go_wp2_with fail
          go_roundw
          case rel => exact ⟨n + 1, by omega, by go_num, hx2.out, h0⟩
          case measure => simp [intOf]; omega
      · obtain rfl : n = s.orders.length := by omega
        have hx6 := Lib.hid (show Bx wr base bx 31 [] V5 (takeOrders p 0 (freedS s)) by rw [← freedN_all]; exact hx'.out)
        have c1 := hx'.out.cells.2.1
        rw [hvo'.out] at c1
        clear hx'
        go_wp2_with fail
        clear c1
        have h06 := h0
        clear h0
        go_loopw [69, 11, 12, 13] (fun i _ _ _ wr => ∃ (n : Nat) (V : SV), V = { V5 with holds := V.holds } ∧ n ≤ s.orders.length ∧ i = .int .i64 n ∧ Bx wr base bx 31 [] V (takeOrders p n (freedS s)) ∧ Below W0.heap.size W0 wr) (fun i _ _ _ _ => s.orders.length - (intOf i).toNat)
        case atStart => exact ⟨0, V5, rfl, Nat.zero_le _, rfl, hx6.out, h06⟩
        case round =>
          clear hx6 h06
          obtain ⟨n, V, hV5, hn, rfl, hx, h0⟩ := hrel
          have hx' := Lib.hid hx
          have hVo := Lib.hid (show V.orders = .slice Ao s.orders.length co by rw [hV5]; exact hvo'.out)
          have hV5' := Lib.hid hV5
          clear hx hV5
          by_cases hlt : n < s.orders.length
          · have hni : (n : Int) < (s.orders.length : Int) := by omega
            have l13 := hsn.out.lines3 hlt
            obtain ⟨hrt, hlen, hlines⟩ := relO_facts (p := p) hc'.out hn
            have hltn : n < (takeOrders p n (freedS s)).orders.length := by rw [hlen]; exact hlt
            have hln := hlines n hlt
            obtain ⟨go, _, _, eo, -⟩ := hx'.out.own.orderAt hltn
            rw [hVo.out] at eo
            injection eo with eo e2 e3
            subst eo
            clear e2 e3
            obtain ⟨hgo, hgol, z0, z1⟩ := hx'.out.own.orderCells hltn hVo.out
            obtain ⟨gl, cl, e1, hgl⟩ := hx'.out.own.lineSlice hltn (by rw [hln]; omega)
            rw [hln] at e1
            rw [e1] at z1
            have e1' := Lib.hid e1
            have hl0 := Lib.hid h0
            generalize hkd : ((takeOrders p n (freedS s)).order n).kind = kd at z0
            have hkd' := Lib.hid hkd
            clear hkd hrt hlen hlines hltn hln e1
            by_cases hk : kd = 1
            · subst hk
              have h0a := h0.alloc h0.size (.cells #[.int .i64 1, .slice (some ⟨gl, 0, none⟩) (s.order n).lines.length cl] 42)
              have hxa := Lib.hid (hx'.out.below ((Below.refl wr.heap.size wr).alloc (Nat.le_refl _) (.cells #[.int .i64 1, .slice (some ⟨gl, 0, none⟩) (s.order n).lines.length cl] 42)))
              go_wp2_with fail
              clear z0 z1 h0 hl0 hx'
              generalize wr.heap.size = wo
              generalize wr.alloc (.cells #[.int .i64 1, .slice (some ⟨gl, 0, none⟩) (s.order n).lines.length cl] 42) = wa at h0a hxa ⊢
              go_loopw [80, 13] (fun i _ wr => ∃ (k : Nat) (V : SV), V = { V5 with holds := V.holds } ∧ k ≤ (s.order n).lines.length ∧ i = .int .i64 k ∧ Bx wr base bx 31 [] V (relK p s n k) ∧ Below W0.heap.size W0 wr) (fun i _ _ => (s.order n).lines.length - (intOf i).toNat)
              case atStart => exact ⟨0, V, hV5'.out, Nat.zero_le _, rfl, hxa.out, h0a⟩
              case round =>
                clear hxa h0a hVo hV5' e1' V
                obtain ⟨k, V, hV5, hkl, rfl, hx, h0⟩ := hrel
                have hx' := Lib.hid hx
                have hVo := Lib.hid (show V.orders = .slice (some ⟨go, 0, none⟩) s.orders.length co by rw [hV5]; exact hvo'.out)
                have hV5' := Lib.hid hV5
                clear hx hV5
                by_cases hkt : k < (s.order n).lines.length
                · have hki : (k : Int) < ((s.order n).lines.length : Int) := by omega
                  obtain ⟨hrt, hlen, _, hln⟩ := relK_facts hc'.out hlt hkd'.out hkl
                  have hmay := Lib.hid (relK_may hc'.out hlt hkd'.out hkt)
                  have hrt' := Lib.hid hrt
                  have hon : n < (relK p s n k).orders.length := by rw [hlen]; exact hlt
                  have hkn : k < ((relK p s n k).order n).lines.length := by rw [hln]; exact hkt
                  obtain ⟨_, _, _, z1⟩ := hx'.out.own.orderCells hon hVo.out
                  obtain ⟨gl2, cl2, e1, hgl2⟩ := hx'.out.own.lineSlice hon (by rw [hln]; omega)
                  rw [hln] at e1
                  rw [e1] at z1
                  obtain ⟨hgll, f0, f1, f2, f3⟩ := hx'.out.own.lineCells hon hkn e1
                  have c1 := hx'.out.cells.2.1
                  rw [hVo.out] at c1
                  have hxd := Lib.hid hx'.out.drew
                  have hBd := hb0.trans (h0.drew.mono hb0.size)
                  have e1' := Lib.hid e1
                  obtain ⟨⟨y0, y1⟩, x0, x1, x2, x3, x4, x5, x6, hbz0, hbz1⟩ := hK.out wr (h0)
                  clear f0 f1 f2 hrt hlen hln hon hkn e1 x0 x1 x2 x3 x4 x5 x6 hbz0
                  go_wp2_with fail
                  go_still_tail 13, (by kernel_rfl)
                  change wpList _ _ _ _ _ wr.drew
                  clear y0 y1 hbz1 z1 f3 c1
                  go_wp2_with fail
                  refine (alHold wr.drew _ p (relK p s n k) n k _ (-1) (hP'.out _ hBd) hrt'.out hmay.out hxd.out (by have := h0.size; show base ≤ wr.heap.size; omega)).mono ?_
                  rintro e w9 ⟨rfl, V9, hV9, hx9, hst9⟩
                  have h09 := h0.drew.trans (hst9.below (B := W0.heap.size) (fun q hq => by
                    rcases hq with rfl | hq
                    · omega
                    · rw [e1'.out] at hq
                      change some gl2 = some q at hq
                      injection hq with hq
                      omega) h0.drew.size)
                  have hV9' := Lib.hid (sv_holds hV9 hV5'.out)
                  have hx9' := Lib.hid (show Bx w9 base bx 31 [] V9 (relK p s n (k + 1)) from hx9)
                  clear hx9 hst9 hV9 hxd hx' hV5' hVo hmay hrt' e1'
                  go_wp2_with fail
                  go_roundw
                  case rel => exact ⟨k + 1, V9, hV9'.out, by omega, by go_num, hx9'.out, h09⟩
                  case measure => simp [intOf]; omega
                · obtain rfl : k = (s.order n).lines.length := by omega
                  have hx2 := Lib.hid (show Bx wr base bx 31 [] V (takeOrders p (n + 1) (freedS s)) by rw [← relO_yes hc'.out hlt hkd'.out]; exact hx'.out)
                  go_wp2_with fail
                  go_roundw
                  case rel => exact ⟨n + 1, V, hV5'.out, by omega, by go_num, hx2.out, h0⟩
                  case measure => simp [intOf]; omega
            · have hq : (kd != 1) = true := by simpa using hk
              have h0a := h0.alloc h0.size (.cells #[.int .i64 kd, .slice (some ⟨gl, 0, none⟩) (s.order n).lines.length cl] 42)
              have hxa := Lib.hid (show Bx _ base bx 31 [] V (takeOrders p (n + 1) (freedS s)) by rw [relO_no (by rw [hkd'.out]; exact hk)]; exact (hx'.out.below ((Below.refl wr.heap.size wr).alloc (Nat.le_refl _) (.cells #[.int .i64 kd, .slice (some ⟨gl, 0, none⟩) (s.order n).lines.length cl] 42))))
              clear hk
              go_wp2_with fail
              go_roundw
              case rel => exact ⟨n + 1, V, hV5'.out, by omega, by go_num, hxa.out, h0a⟩
              case measure => simp [intOf]; omega
          · obtain rfl : n = s.orders.length := by omega
            have hB0 := hb0.trans (h0.mono hb0.size)
            have hx2 := Lib.hid (show Bx wr base bx 31 [] V (releaseS p s) from hx'.out)
            clear hx'
            have hbx9 := hR.out _ h0
            obtain ⟨b0, b1, b2, b3, b4, b5, b6⟩ := BoxAt.cells hx2.out.boxAt
            have hone9 := OwnSt.one hx2.out.own
            go_wp2_with (refine wpList_store_state rfl (.tmp 4) (.tmp 99) rfl rfl (w.heap.size + 1 + 1) nilSV V hbx9 rfl rfl hone9 (fun w9 hbox9 hg9 => ?_))
            have hO9 := OwnSt.keptBy hx2.out.own hg9 hbx9 (by decide) (by decide) (by decide) (by decide) (by decide) (by decide)
            obtain ⟨p0, p1, p2, p3, p4, p5, p6⟩ := BoxAt.cells hbox9
            have hfin9 : Below w.heap.size w w9 := Below.grown hB0 hg9 (Below.size hB0) (fun k hk => by injection hk with hk; omega)
            clear b0 b1 b2 b3 b4 b5 b6
            go_wp2_with fail
            exact bodyPost_ret (v := .tuple #[SV.val V, .int .i64 0]) (by simp [results, Tryz.results46, go_sem, SV.val, p0, p1, p2, p3, p4, p5, p6]) rfl (actOk hfin.out (hO9.from_ hle) hfin9)
  · have hne : (checkState p s != 0) = true := by simpa using hc
    have hfin := Lib.hid (release_bad hc)
    clear hc
    have hbx9 := hR.out _ h1
    go_wp2_with (refine wpList_store_state rfl (.tmp 4) (.tmp 19) rfl rfl (w.heap.size + 1 + 1) nilSV nilSV hbx9 rfl rfl rfl (fun w9 hbox9 hg9 => ?_))
    obtain ⟨p0, p1, p2, p3, p4, p5, p6⟩ := BoxAt.cells hbox9
    have hfin9 : Below w.heap.size w w9 := Below.grown hB1 hg9 (Below.size hB1) (fun k hk => by injection hk with hk; omega)
    go_wp2_with fail
    exact bodyPost_ret (v := .tuple #[nilSV.val, .int .i64 (checkState p s)]) (by simp [results, Tryz.results46, go_sem, SV.val, p0, p1, p2, p3, p4, p5, p6]) rfl (actErr hfin.out hfin9)
end Wh
namespace Wh
open Go Go.RowKit
section
variable {P : Program} {l : List Oper} {n : Nat} {R : Nat → (Nat → Value) → World → Prop} {Q : Exit → Act → World → Prop} {a : Act} {w : World}
/-- What is to be shown of one operation: the one that breaks J may use it. -/
def StepBrk (P : Program) (l : List Oper) (n : Nat) (R : Nat → (Nat → Value) → World → Prop) (Q : Exit → Act → World → Prop) (a : Act) (T J : World → Prop) (Eb : World → World → Prop) (brk i : Nat) (o : Oper) : Prop :=
  ∀ f w', T w' → (i = brk → J w') → Deps n R f w' o →
    o.wp P (fillA a (l.take n) f) w' (fun a' w'' => ∃ v, a' = (fillA a (l.take n) f).put o.dst v ∧ R i (updO f o.dst v) w'' ∧ ((i ≠ brk ∧ Below w'.heap.size w' w'') ∨ (i = brk ∧ Eb w' w''))) Q
theorem brk_run {T J : World → Prop} {Eb : World → World → Prop} {brk : Nat} (hT1 : ∀ w1 w2, T w1 → Below w1.heap.size w1 w2 → T w2) (hT2 : ∀ w1 w2, T w1 → Eb w1 w2 → T w2) (hJ : ∀ w1 w2, J w1 → Below w1.heap.size w1 w2 → J w2) (hle : n ≤ l.length) (hwait : ∀ listed, HeadInv .any l.toArray n listed → ∀ i, i < n → listed.getD i true = false → ∀ t, n ≤ t → t ∉ Region.ready .any l.toArray listed) (hseq : Region.seqB .any l.toArray (l.length - n) n (heads l.length n) = true)
    (hg : ∀ i o, i < n → l[i]? = some o → o.guard = none) (hnd : ((l.take n).filterMap (·.dst)).Nodup) (hback : ∀ i o, i < n → l[i]? = some o → ∀ e ∈ o.after, Region.binds .any e = true → e.on < i)
    (hst : ∀ i g w1 w2, R i g w1 → Below w1.heap.size w1 w2 → R i g w2) (hst2 : ∀ i g w1 w2, i ≠ brk → R i g w1 → Eb w1 w2 → R i g w2) (hsup : ∀ i g g' w, (∀ j o d, Anc l j i → l[j]? = some o → o.dst = some d → g d = g' d) → R i g w → R i g' w) (hsteps : ∀ i o, i < n → l[i]? = some o → StepBrk P l n R Q a T J Eb brk i o)
    (hend : ∀ f w', T w' → (∀ i, i < n → R i f w') → wpList P l.toArray Q (l.drop n) (fillA a (l.take n) f) w') :
    ∀ (k : Nat) (listed : Array Bool) (f : Nat → Value) (w' : World), HeadInv .any l.toArray n listed → unl listed n = k → T w' → (listed.getD brk false = false → J w') → (∀ i, i < n → listed.getD i false = true → R i f w') →
      wpAny P .any l.toArray Q (k + (l.length - n)) listed (fillA a (l.take n) f) w'
  | 0, listed, f, w', inv, hk, hb, _, hR => by
    have hsz : listed.size = l.length := by rw [inv.size]; simp
    have he : listed = heads l.length n := by
      apply Array.ext_getElem?
      intro i
      unfold heads
      rw [Array.getElem?_append]
      simp only [Array.size_replicate]
      by_cases hi : i < n
      · rw [if_pos hi]
        have h1 := unl_zero hk hi
        have h2 : i < listed.size := by omega
        simp [hi, h2, Array.getD] at h1 ⊢
        exact h1
      · rw [if_neg hi]
        by_cases hl : i < l.length
        · have h1 := inv.tail i (by omega) (by simpa using hl)
          have h2 : i < listed.size := by omega
          have h3 : i - n < l.length - n := by omega
          simp [h2, h3, Array.getD] at h1 ⊢
          exact h1
        · rw [Array.getElem?_eq_none (by omega), Array.getElem?_eq_none (by simp; omega)]
    have hd : l.length - n = (l.drop n).length := by simp
    rw [Nat.zero_add, hd]
    refine wpAny_of_seq (l.drop n) n listed _ w' (fun j => by simp [List.getElem?_drop]) (by rw [he, ← hd]; exact hseq) (hend f w' hb fun i hin => hR i hin ?_)
    have h1 := unl_zero hk hin
    have h2 : i < listed.size := by omega
    simp [h2, Array.getD] at h1 ⊢
    exact h1
  | k + 1, listed, f, w', inv, hk, hb, hJw, hR => by
    have hsz : listed.size = l.length := by rw [inv.size]; simp
    obtain ⟨i0, hi0, hu0⟩ := unl_pos (show 0 < unl listed n by omega)
    have hne : ∀ i, i < n → listed.getD i true = false → Region.ready .any l.toArray listed ≠ [] := by
      intro i
      induction i using Nat.strongRecOn with
      | _ i ih =>
        intro hin hu
        have hil : i < l.length := by omega
        by_cases hall : ∀ e ∈ (l[i]).after, Region.binds .any e = true → listed.getD e.on false = true
        · have : i ∈ Region.ready .any l.toArray listed := mem_ready.2 ⟨hu, l[i], by simp [hil], hall⟩
          intro h0
          rw [h0] at this
          cases this
        · simp only [Classical.not_forall] at hall
          obtain ⟨e, he, hbd, hno⟩ := hall
          have hlt := hback i l[i] hin (by simp [hil]) e he hbd
          exact ih e.on hlt (by omega) (getD_in (by omega) (by simpa using hno))
    rw [show k + 1 + (l.length - n) = (k + (l.length - n)) + 1 by omega]
    refine ⟨fun h0 => absurd h0 (hne i0 hi0 hu0), fun i hi => ?_⟩
    have hin : i < n := by
      rcases Nat.lt_or_ge i n with h | h
      · exact h
      · exact absurd hi (hwait listed inv i0 hi0 hu0 i h)
    obtain ⟨hu, o, ho, hall⟩ := mem_ready.1 hi
    have ho' : l[i]? = some o := by simpa using ho
    have hgd := hg i o hin ho'
    have h1 := hsteps i o hin ho' f w' hb (fun e => hJw (by rw [← e]; exact getD_both hu)) fun e he hbd hen => hR e.on hen (hall e he hbd)
    unfold wpOp
    simp only [ho]
    rw [if_pos (by simp [Region.wanted, hgd])]
    refine .inl (Oper.wp_mono ?_ h1)
    rintro a' w'' ⟨v, rfl, hv, hbw⟩
    have hcount : unl (listed.setIfInBounds i true) n = k := by
      have := unl_set hu n
      rw [if_pos hin] at this
      omega
    have hb2 : T w'' := by
      rcases hbw with ⟨_, hbw⟩ | ⟨_, hbw⟩
      · exact hT1 _ _ hb hbw
      · exact hT2 _ _ hb hbw
    have hJ2 : (listed.setIfInBounds i true).getD brk false = false → J w'' := fun h => by
      rcases hbw with ⟨hne, hbw⟩ | ⟨rfl, _⟩
      · rw [getD_set_ne false hne] at h
        exact hJ _ _ (hJw h) hbw
      · rw [getD_set_self false (lt_of_unl hu)] at h
        cases h
    have hanc : ∀ j k, Anc l j k → k < n → listed.getD k false = true → j < n ∧ listed.getD j false = true := by
      intro j k h
      induction h with
      | self => exact fun h1 h2 => ⟨h1, h2⟩
      | back ho he hbd hon _ ih =>
        intro h1 h2
        subst hon
        have := hback _ _ h1 ho _ he hbd
        exact ih (by omega) (inv.closed _ _ (by simpa using ho) h2 _ he hbd)
    have hfin : (fillA a (l.take n) f).put o.dst v = fillA a (l.take n) (updO f o.dst v) := by
      cases hdst : o.dst with
      | none => rfl
      | some d0 =>
        unfold fillA Act.put updO
        simp only
        rw [fillT_put (dst_mem ho' hin hdst)]
    rw [hfin]
    refine brk_run hT1 hT2 hJ hle hwait hseq hg hnd hback hst hst2 hsup hsteps hend k _ (updO f o.dst v) w'' (inv.set hi hin) hcount hb2 hJ2 fun j hjn hl => ?_
    by_cases hij : i = j
    · subst hij
      exact hv
    · rw [getD_set_ne false hij] at hl
      refine hsup j f _ _ (fun j' oj d haj hoj hd => ?_) (by
        rcases hbw with ⟨_, hbw⟩ | ⟨rfl, hbw⟩
        · exact hst _ _ _ _ (hR j hjn hl) hbw
        · exact hst2 _ _ _ _ (fun e => hij e.symm) (hR j hjn hl) hbw)
      obtain ⟨hjn', hlj'⟩ := hanc _ _ haj hjn hl
      cases hdst : o.dst with
      | none => rfl
      | some d0 =>
        have hne : i ≠ j' := fun e => by
          subst e
          rw [getD_both hu] at hlj'
          cases hlj'
        have hdd := dst_ne hnd ho' hin hdst hoj hjn' hd hne
        unfold updO upd
        simp only
        rw [if_neg (fun e => hdd e.symm)]

theorem any_brk (n : Nat) (T J : World → Prop) (Eb : World → World → Prop) (brk : Nat) (R : Nat → (Nat → Value) → World → Prop) (hB : relB l n = true) (hT1 : ∀ w1 w2, T w1 → Below w1.heap.size w1 w2 → T w2) (hT2 : ∀ w1 w2, T w1 → Eb w1 w2 → T w2) (hJ : ∀ w1 w2, J w1 → Below w1.heap.size w1 w2 → J w2) (hT0 : T w.drew) (hJ0 : J w.drew)
    (hst : ∀ i g w1 w2, R i g w1 → Below w1.heap.size w1 w2 → R i g w2) (hst2 : ∀ i g w1 w2, i ≠ brk → R i g w1 → Eb w1 w2 → R i g w2)
    (hsup : ∀ i g g' w, (∀ j o d, Anc l j i → l[j]? = some o → o.dst = some d → g d = g' d) → R i g w → R i g' w) (hsteps : ∀ i o, i < n → l[i]? = some o → StepBrk P l n R Q a T J Eb brk i o)
    (hend : ∀ f w', T w' → (∀ i, i < n → R i f w') → wpList P l.toArray Q (l.drop n) (fillA a (l.take n) f) w') : wpAny P .any l.toArray Q l.toArray.size (Array.replicate l.toArray.size false) a w.drew := by
  simp only [relB, Bool.and_eq_true, Bool.or_eq_true, decide_eq_true_eq, List.all_eq_true] at hB
  obtain ⟨⟨⟨⟨hw, hseq⟩, hg⟩, hnd⟩, hback⟩ := hB
  have hle : n ≤ l.length := by rcases hw with h | h <;> omega
  have hat : ∀ i o, i < n → l[i]? = some o → o ∈ l.take n := fun i o hin hi => by
    rw [List.mem_iff_getElem?]
    exact ⟨i, by rw [List.getElem?_take]; simp [hin, hi]⟩
  have H := brk_run (P := P) (Q := Q) (a := a) hT1 hT2 hJ hle ?_ hseq (fun i o hin hi => by simpa using hg o (hat i o hin hi)) hnd ?_ hst hst2 hsup hsteps hend n (Array.replicate l.toArray.size false) (fun d => a.tmps.getD d undef) w.drew
    ⟨by simp, fun j oj _ hl => (by rw [getD_replicate_false] at hl; cases hl), fun t _ ht => getD_in (by simpa using ht) (getD_replicate_false _ _)⟩ ?_ hT0 (fun _ => hJ0) (fun i _ hl => by rw [getD_replicate_false] at hl; cases hl)
  · have e : fillA a (l.take n) (fun d => a.tmps.getD d undef) = a := by
      unfold fillA
      rw [fillT_self]
    rw [e] at H
    have hs : n + (l.length - n) = l.toArray.size := by simp; omega
    rw [hs] at H
    exact H
  · intro listed inv i hin hu t ht hr
    rcases hw with h | ⟨⟨h1, h2⟩, h3⟩
    · obtain ⟨_, o, ho, _⟩ := mem_ready.1 hr
      have := (Array.getElem?_eq_some_iff.1 ho).1
      simp at this
      omega
    · exact tail_waits h2 h3 (by simpa using h1) inv (n - i) i rfl hin hu t ht hr
  · intro i o hin hi e he hbd
    have := hback i (List.mem_range.2 hin)
    rw [hi] at this
    simp only [Option.map_some, Option.getD_some, Array.all_eq_true_iff_forall_mem, Bool.or_eq_true, Bool.not_eq_true', decide_eq_true_eq] at this
    rcases this e he with h | h
    · rw [h] at hbd; cases hbd
    · exact h
  · have key : ∀ m, m ≤ l.length → unl (Array.replicate l.toArray.size false) m = m := by
      intro m
      induction m with
      | zero => intro _; rfl
      | succ m ih =>
        intro hm
        have := ih (by omega)
        unfold unl at this ⊢
        have hml : m < l.length := by omega
        rw [List.range_succ, List.countP_append, this]
        simp [hml]
    exact key n hle
theorem OpRel.mono {P : Program} {o : Oper} {ev : Operand → Value} {w : World} {K K' : Value → World → Prop} (hk : ∀ v w, K v w → K' v w) (h : OpRel P o ev w K) : OpRel P o ev w K' := by
  unfold OpRel at *
  generalize (execOp ev o).run P w = r at *
  cases r with
  | ok n w' =>
    cases n <;> simp only at h ⊢
    case value v => exact hk _ _ h
    case skip => exact hk _ _ h
    case enter f args => exact h.mono fun e w'' ⟨v, he, h⟩ => ⟨v, he, hk _ _ h⟩
  | halt x w' => exact h
theorem StepBrk.of {T J : World → Prop} {Eb : World → World → Prop} {brk : Nat} {i : Nat} {o : Oper} (hi : i < n) (hB : relB l n = true) (hsz : ((l.take n).filterMap (·.dst)).all (fun d => decide (d < a.tmps.size)) = true)
    (hsup : ∀ i g g' w, (∀ j o d, Anc l j i → l[j]? = some o → o.dst = some d → g d = g' d) → R i g w → R i g' w)
    (h : ∀ (g : Nat → Value) w', T w' → (i = brk → J w') → (∀ d, ((l.take n).filterMap (·.dst)).contains d = false → g d = a.tmps.getD d undef) → Deps n R g w' o → OpRel P o (evL g) w' fun v w'' => R i (updO g o.dst v) w'' ∧ ((i ≠ brk ∧ Below w'.heap.size w' w'') ∨ (i = brk ∧ Eb w' w''))) :
    StepBrk P l n R Q a T J Eb brk i o := by
  simp only [relB, Bool.and_eq_true, Bool.or_eq_true, decide_eq_true_eq, List.all_eq_true] at hB
  obtain ⟨_, hback⟩ := hB
  have hback' : ∀ k oe, k < n → l[k]? = some oe → ∀ e ∈ oe.after, Region.binds .any e = true → e.on < k := fun k oe hk hoe e he hbd => by
    have := hback k (List.mem_range.2 hk)
    rw [hoe] at this
    simp only [Option.map_some, Option.getD_some, Array.all_eq_true_iff_forall_mem, Bool.or_eq_true, Bool.not_eq_true', decide_eq_true_eq] at this
    rcases this e he with h | h
    · rw [h] at hbd; cases hbd
    · exact h
  have hanc : ∀ j k, Anc l j k → k < n → j < n := by
    intro j k h
    induction h with
    | self => exact id
    | back ho he hbd hon _ ih =>
      intro h1
      subst hon
      have := hback' _ _ h1 ho _ he hbd
      exact ih (by omega)
  have hsz' : ∀ d ∈ (l.take n).filterMap (·.dst), d < a.tmps.size := fun d hd => by
    have := List.all_eq_true.1 hsz d hd
    simpa using this
  intro f w' hb hj hd
  have hg : ∀ d ∈ (l.take n).filterMap (·.dst), (fillA a (l.take n) f).tmps.getD d undef = f d := fun d hd => by
    have h1 := fillT_get ((l.take n).filterMap (·.dst)) f a.tmps d
    rw [if_pos (hsz' d hd), if_pos hd] at h1
    unfold fillA
    simp only [Array.getD_eq_getD_getElem?, h1, Option.getD_some]
  have ho : ∀ d, ((l.take n).filterMap (·.dst)).contains d = false → (fillA a (l.take n) f).tmps.getD d undef = a.tmps.getD d undef := fun d hd => by
    have h1 := fillT_get ((l.take n).filterMap (·.dst)) f a.tmps d
    have h2 : d ∉ (l.take n).filterMap (·.dst) := by simpa using hd
    rw [if_neg h2] at h1
    unfold fillA
    simp only [Array.getD_eq_getD_getElem?, h1]
    by_cases hl : d < a.tmps.size
    · rw [if_pos hl]
    · rw [if_neg hl, Array.getElem?_eq_none (Nat.le_of_not_lt hl)]
  have key := h (fun d => (fillA a (l.take n) f).tmps.getD d undef) w' hb hj ho (fun e he hbd hen => hsup e.on f _ _ (fun j oj d haj hoj hdj => (hg d (dst_mem hoj (hanc _ _ haj hen) hdj)).symm) (hd e he hbd hen))
  rw [← evL_eval] at key
  refine Oper.wp_mono ?_ key.wp
  rintro a' w'' ⟨v, rfl, hr, hbw⟩
  refine ⟨v, rfl, hsup i _ _ _ (fun j oj d haj hoj hdj => ?_) hr, hbw⟩
  have hjn := hanc _ _ haj hi
  have hmem := dst_mem hoj hjn hdj
  cases hdst : o.dst with
  | none => exact hg d hmem
  | some d0 =>
    unfold updO upd
    simp only
    split
    · rfl
    · exact hg d hmem

/-- One operation: what it says stays, hangs on what came before it alone, and comes. -/
def OpBrk (P : Program) (l : List Oper) (n : Nat) (Rs : List RelP) (a : Act) (T J : World → Prop) (Eb : World → World → Prop) (brk i : Nat) (o : Oper) (p : RelP) : Prop :=
  (∀ g w1 w2, p g w1 → Below w1.heap.size w1 w2 → p g w2) ∧ (i ≠ brk → ∀ g w1 w2, p g w1 → Eb w1 w2 → p g w2) ∧ (∀ g g' w, (∀ j o d, Anc l j i → l[j]? = some o → o.dst = some d → g d = g' d) → p g w → p g' w) ∧
  ∀ g w', T w' → (i = brk → J w') → (∀ d, ((l.take n).filterMap (·.dst)).contains d = false → g d = a.tmps.getD d undef) → Deps n (atR Rs) g w' o →
    OpRel P o (evL g) w' fun v w'' => p (updO g o.dst v) w'' ∧ ((i ≠ brk ∧ Below w'.heap.size w' w'') ∨ (i = brk ∧ Eb w' w''))
def OpsBrk (P : Program) (l : List Oper) (n : Nat) (Rs : List RelP) (a : Act) (T J : World → Prop) (Eb : World → World → Prop) (brk : Nat) : Nat → List Oper → List RelP → Prop
  | _, [], _ => True
  | _, _ :: _, [] => False
  | i, o :: r, p :: ps => OpBrk P l n Rs a T J Eb brk i o p ∧ OpsBrk P l n Rs a T J Eb brk (i + 1) r ps
section
variable {Rs : List RelP} {T J : World → Prop} {Eb : World → World → Prop} {brk : Nat}
theorem OpsBrk.at : ∀ {r : List Oper} {ps : List RelP} {k : Nat}, OpsBrk P l n Rs a T J Eb brk k r ps → ∀ {j : Nat} {o : Oper}, r[j]? = some o → OpBrk P l n Rs a T J Eb brk (k + j) o (ps.getD j (fun _ _ => True))
  | [], _, _, _, _, _, h => by simp at h
  | _ :: _, [], _, h, _, _, _ => h.elim
  | x :: r, p :: ps, k, h, 0, o, hj => by
    simp at hj
    subst hj
    exact h.1
  | x :: r, p :: ps, k, h, j + 1, o, hj => by
    have := OpsBrk.at h.2 (j := j) (o := o) (by simpa using hj)
    rw [show k + 1 + j = k + (j + 1) by omega] at this
    simpa using this
theorem OpsBrk.nil {i : Nat} {ps : List RelP} : OpsBrk P l n Rs a T J Eb brk i [] ps := by cases ps <;> trivial
theorem OpsBrk.cons {i : Nat} {o : Oper} {r : List Oper} {p : RelP} {ps : List RelP} (h : OpBrk P l n Rs a T J Eb brk i o p) (h' : OpsBrk P l n Rs a T J Eb brk (i + 1) r ps) : OpsBrk P l n Rs a T J Eb brk i (o :: r) (p :: ps) := ⟨h, h'⟩
end
theorem any_opsB (n : Nat) (T J : World → Prop) (Eb : World → World → Prop) (brk : Nat) (Rs : List RelP) (hB : relB l n = true) (hn : Rs.length = n) (hsz : ((l.take n).filterMap (·.dst)).all (fun d => decide (d < a.tmps.size)) = true)
    (hT1 : ∀ w1 w2, T w1 → Below w1.heap.size w1 w2 → T w2) (hT2 : ∀ w1 w2, T w1 → Eb w1 w2 → T w2) (hJ : ∀ w1 w2, J w1 → Below w1.heap.size w1 w2 → J w2) (hT0 : T w.drew) (hJ0 : J w.drew)
    (hops : OpsBrk P l n Rs a T J Eb brk 0 (l.take n) Rs) (hend : ∀ f w', T w' → AllR Rs f w' → wpList P l.toArray Q (l.drop n) (fillA a (l.take n) f) w') : wpAny P .any l.toArray Q l.toArray.size (Array.replicate l.toArray.size false) a w.drew := by
  have hle : n ≤ l.length := by
    have := hB
    simp only [relB, Bool.and_eq_true, Bool.or_eq_true, decide_eq_true_eq] at this
    rcases this.1.1.1.1 with h | h <;> omega
  have hat : ∀ i, i < n → ∃ o, l[i]? = some o ∧ OpBrk P l n Rs a T J Eb brk i o (atR Rs i) := fun i hi => by
    have hil : i < l.length := by omega
    refine ⟨l[i], by simp [hil], ?_⟩
    have := hops.at (j := i) (o := l[i]) (by rw [List.getElem?_take]; simp [hi, hil])
    rwa [Nat.zero_add] at this
  have htriv : ∀ i g w, ¬ i < n → atR Rs i g w := fun i g w hi => by
    unfold atR
    rw [List.getD_eq_getElem?_getD, List.getElem?_eq_none (by omega)]
    trivial
  have hsup : ∀ i g g' w, (∀ j o d, Anc l j i → l[j]? = some o → o.dst = some d → g d = g' d) → atR Rs i g w → atR Rs i g' w := fun i g g' w1 he h => by
    by_cases hi : i < n
    · obtain ⟨o, _, _, _, h2, _⟩ := hat i hi
      exact h2 g g' w1 he h
    · exact htriv i g' w1 hi
  refine any_brk n T J Eb brk (atR Rs) hB hT1 hT2 hJ hT0 hJ0 (fun i g w1 w2 h hb => ?_) (fun i g w1 w2 hne h hb => ?_) hsup (fun i o hi ho => ?_) (fun f w' hb hR => hend f w' hb (AllR.of fun i hi => hR i (by omega)))
  · by_cases hi : i < n
    · obtain ⟨o, _, h1, _⟩ := hat i hi
      exact h1 g w1 w2 h hb
    · exact htriv i g w2 hi
  · by_cases hi : i < n
    · obtain ⟨o, _, _, h1, _⟩ := hat i hi
      exact h1 hne g w1 w2 h hb
    · exact htriv i g w2 hi
  · obtain ⟨o', ho', _, _, _, h3⟩ := hat i hi
    rw [ho] at ho'
    injection ho' with ho'
    subst ho'
    exact StepBrk.of hi hB hsz hsup h3
theorem wp_region_opsB (n : Nat) (T J : World → Prop) (Eb : World → World → Prop) (brk : Nat) (Rs : List RelP) {id : Nat} (hm : P.follows .mixedOrders = true) (hB : relB l n = true) (hn : Rs.length = n) (hsz : ((l.take n).filterMap (·.dst)).all (fun d => decide (d < a.tmps.size)) = true)
    (hT1 : ∀ w1 w2, T w1 → Below w1.heap.size w1 w2 → T w2) (hT2 : ∀ w1 w2, T w1 → Eb w1 w2 → T w2) (hJ : ∀ w1 w2, J w1 → Below w1.heap.size w1 w2 → J w2) (hT0 : T w.drew) (hJ0 : J w.drew)
    (hops : OpsBrk P l n Rs a T J Eb brk 0 (l.take n) Rs) (hend : ∀ f w', T w' → AllR Rs f w' → wpList P l.toArray Q (l.drop n) (fillA a (l.take n) f) w') : (Code.region id l.toArray true).wp P Q a w :=
  wp_region_any hm (any_opsB n T J Eb brk Rs hB hn hsz hT1 hT2 hJ hT0 hJ0 hops hend)
section
variable {Rs : List RelP} {T J : World → Prop} {Eb : World → World → Prop} {brk : Nat}
theorem OpBrk.val {i d : Nat} {o : Oper} {c : Value} (hi : l[i]? = some o) (ho : o.dst = some d) (hne : i ≠ brk)
    (h : ∀ g w', T w' → (∀ d, ((l.take n).filterMap (·.dst)).contains d = false → g d = a.tmps.getD d undef) → Deps n (atR Rs) g w' o → (execOp (evL g) o).run P w' = .ok (.value c) w') :
    OpBrk P l n Rs a T J Eb brk i o (fun g _ => g d = c) := by
  refine ⟨fun _ _ _ h _ => h, fun _ _ _ _ h _ => h, fun g g' _ he h => (he i o d (Anc.self i) hi ho).symm.trans h, fun g w' hb _ hout hd => ?_⟩
  unfold OpRel
  rw [h g w' hb hout hd]
  refine ⟨?_, .inl ⟨hne, Below.refl _ _⟩⟩
  rw [ho]
  unfold updO upd
  simp
theorem OpBrk.one {i d : Nat} {o : Oper} {p : Value → World → Prop} (hi : l[i]? = some o) (ho : o.dst = some d) (hne : i ≠ brk) (hst : ∀ v w1 w2, p v w1 → Below w1.heap.size w1 w2 → p v w2) (hst2 : ∀ v w1 w2, p v w1 → Eb w1 w2 → p v w2)
    (h : ∀ g w', T w' → (∀ d, ((l.take n).filterMap (·.dst)).contains d = false → g d = a.tmps.getD d undef) → Deps n (atR Rs) g w' o → OpRel P o (evL g) w' fun v w'' => p v w'' ∧ Below w'.heap.size w' w'') :
    OpBrk P l n Rs a T J Eb brk i o (fun g w => p (g d) w) := by
  refine ⟨fun g w1 w2 h hb => hst _ _ _ h hb, fun _ g w1 w2 h hb => hst2 _ _ _ h hb, fun g g' w1 he h => ?_, fun g w' hb _ hout hd => ?_⟩
  · show p (g' d) w1
    rw [← he i o d (Anc.self i) hi ho]
    exact h
  · have h1 := h g w' hb hout hd
    rw [ho]
    have e : ∀ v, updO g (some d) v d = v := fun v => by unfold updO upd; simp
    simp only [e]
    exact OpRel.mono (fun v w'' h => ⟨h.1, .inl ⟨hne, h.2⟩⟩) h1
end
end
end Wh
