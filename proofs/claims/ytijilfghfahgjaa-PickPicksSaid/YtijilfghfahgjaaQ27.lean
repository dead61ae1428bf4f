/- Texts of the claim, joined: WaveB. -/
import Derived.Test.YtijilfghfahgjaaQ22
import Derived.Test.YtijilfghfahgjaaQ23
import Derived.Test.YtijilfghfahgjaaQ24
import Derived.Test.YtijilfghfahgjaaQ26
namespace Wh
open Go Go.RowKit Go.Shelf Go.Proofs
attribute [local go_sem] run_indexAt_letter evL_tmp evL_const evL_func

theorem opRel_put_state {o : Oper} {ev : Operand → Value} {w : World} {K : Value → World → Prop} (x y : Operand) (ho : o.op = .store 31 x y) (b : Nat) (V V' : SV) (hbox : BoxAt w b V) (hx : ev x = .pointer (some ⟨b, 0, none⟩)) (hy : ev y = V'.val) (h1 : V'.cells.all (fun u => u.oneCell') = true)
    (h : ∀ w', BoxAt w' b V' → w.grownBy w' (some b) → K undef w') : OpRel Try.prog o ev w K := by
  have hr := run_storeVar_row (P := Try.prog) w b 31 31 V.cells.toArray V'.cells.toArray hbox (by kernel_rfl) rfl (by simpa using h1)
  have hk := h _ (hbox.blk.row V'.cells) (grown_row w b V'.cells.toArray)
  have hy' : ev y = .agg V'.cells.toArray := hy
  unfold OpRel execOp
  simp only [ho, hx, hy', Instr.storeAt, Instr.sureAddr, Sem.run_bind, Sem.run_pure, Result.andThen_ok, hr]
  exact hk
/-- What stands before the taking, behind it, and behind the storing. -/
def relA (base bx : Nat) (V : SV) (s s1 : State) : Nat → World → Prop
  | 0, w => Bx w base bx 31 [] V s
  | 1, w => BoxAt w bx V ∧ ∃ V9 : SV, V9 = { V with holds := V9.holds } ∧ OwnSt w base V9 s1
  | _, w => ∃ V9 : SV, V9 = { V with holds := V9.holds } ∧ Bx w base bx 31 [] V9 s1
def relT (W : World) (base bx : Nat) (V : SV) (s s1 : State) (ph : Nat) (w : World) : Prop := Below W.heap.size W w ∧ base ≤ w.heap.size ∧ relA base bx V s s1 ph w
section
variable {W w w1 w2 : World} {base bx ph : Nat} {V : SV} {s s1 : State}
theorem relT_below (h : relT W base bx V s s1 ph w1) (hb : Below w1.heap.size w1 w2) : relT W base bx V s s1 ph w2 := by
  obtain ⟨h1, h2, h3⟩ := h
  refine ⟨h1.trans (hb.mono h1.size), Nat.le_trans h2 hb.size, ?_⟩
  rcases ph with _ | _ | ph
  · exact Bx.below h3 hb
  · obtain ⟨h4, V9, h5, h6⟩ := h3
    exact ⟨h4.below hb h4.lt, V9, h5, h6.below hb⟩
  · obtain ⟨V9, h5, h6⟩ := h3
    exact ⟨V9, h5, h6.below hb⟩
theorem relT_box (h : relT W base bx V s s1 ph w) : ∃ Vb : SV, BoxAt w bx Vb ∧ Vb.orders = V.orders ∧ (ph = 0 → Vb = V) := by
  obtain ⟨h1, h2, h3⟩ := h
  rcases ph with _ | _ | ph
  · exact ⟨V, Bx.boxAt h3, rfl, fun _ => rfl⟩
  · exact ⟨V, h3.1, rfl, fun h => by omega⟩
  · obtain ⟨V9, h5, h6⟩ := h3
    exact ⟨V9, h6.boxAt, by rw [h5], fun h => by omega⟩
theorem relT_own (h : relT W base bx V s s1 ph w) : ∃ (Vo : SV) (sq : State), OwnSt w base Vo sq ∧ Vo.orders = V.orders ∧ Vo.line = V.line ∧ (sq = s ∨ sq = s1) ∧ (ph = 0 → sq = s) := by
  obtain ⟨h1, h2, h3⟩ := h
  rcases ph with _ | _ | ph
  · exact ⟨V, s, Bx.own h3, rfl, rfl, .inl rfl, fun _ => rfl⟩
  · obtain ⟨h4, V9, h5, h6⟩ := h3
    exact ⟨V9, s1, h6, by rw [h5], by rw [h5]; rfl, .inr rfl, fun h => by omega⟩
  · obtain ⟨V9, h5, h6⟩ := h3
    exact ⟨V9, s1, h6.own, by rw [h5], by rw [h5]; rfl, .inr rfl, fun h => by omega⟩
end
def takP (base : Nat) (V : SV) (s1 : State) (f : Value → Value) : Nat → Value → World → Prop
  | 0, _, _ => False
  | 1, v, w => ∃ V9 : SV, V9 = { V with holds := V9.holds } ∧ v = f V9.val ∧ OwnSt w base V9 s1
  | _, v, _ => ∃ V9 : SV, v = f V9.val
theorem takP_below {base : Nat} {V : SV} {s1 : State} {f : Value → Value} {ph : Nat} {v : Value} {w1 w2 : World} (h : takP base V s1 f ph v w1) (hb : Below w1.heap.size w1 w2) : takP base V s1 f ph v w2 := by
  rcases ph with _ | _ | ph
  · exact h
  · obtain ⟨V9, h5, h6, h7⟩ := h
    exact ⟨V9, h5, h6, h7.below hb⟩
  · exact h
theorem takP_next {base : Nat} {V : SV} {s1 : State} {f : Value → Value} {k : Nat} {v : Value} {w1 w2 : World} (hk : k ≤ 1) (h : takP base V s1 f k v w1) : takP base V s1 f (k + 1) v w2 := by
  rcases (show k = 0 ∨ k = 1 by omega) with rfl | rfl
  · exact h.elim
  · obtain ⟨V9, h5, h6, h7⟩ := h
    exact ⟨V9, h6⟩

set_option maxHeartbeats 8000000 in
set_option maxRecDepth 100000 in
theorem rReleaseOf (w : World) (v vs : Value) (p : Plan) (s : State) (hp : PlanV w w.heap.size v p) (hv : StateV w w.heap.size vs s) :
    Calls Try.prog 28 #[v, vs] w (ActPost (release p s) w) := by
  obtain ⟨Ab, cb, As, cs, rfl, hP', hBn, hSz, hlb, hls⟩ := openPl hp
  obtain ⟨A0, c0, A1, c1, A2, c2, A3, c3, A4, c4, A5, c5, A6, c6, rfl, hV, hN, hO, hH, hM, hI, hU, hX, hl0, hl1, hl2, hl3, hl4, hl5, hl6⟩ := openOne hv
  go_enter Try.func28, Try.ntmps28
  go_wp2_with fail
  obtain ⟨W0, hW0, hb0, hsz0, hsz1, hsE, hK, hR⟩ := boxesAct w p s Ab cb As cs A0 c0 A1 c1 A2 c2 A3 c3 A4 c4 A5 c5 A6 c6
  rw [hW0]
  clear hW0
  obtain ⟨⟨y0, y1⟩, x0, x1, x2, x3, x4, x5, x6, hbz0, hbz1⟩ := hK.out W0 (Below.refl W0.heap.size W0)
  go_wp2_with fail
  clear y0 y1 x0 x1 x2 x3 x4 x5 x6 hbz0 hbz1
  refine (rCheckState _ _ _ p s (hP'.out _ hb0) (hV.out _ hb0)).mono ?_
  rintro e W1 ⟨rfl, h1⟩
  have hB1 := hb0.trans (h1.mono hb0.size)
  obtain ⟨⟨y0, y1⟩, x0, x1, x2, x3, x4, x5, x6, hbz0, hbz1⟩ := hK.out W1 (h1)
  by_cases hc : checkState p s = 0
  · have hc' := Lib.hid hc
    have hsn := Lib.hid (checkState_zero.1 hc).1
    have hfin := Lib.hid (release_ok hc)
    have h4 := hsn.out.orders4
    rw [hc]
    clear hc
    go_wp2_with fail
    clear y0 y1 x0 x1 x2 x3 x4 x5 x6 hbz0 hbz1
    refine (rOwnState _ _ p s (hV.out _ hB1) hsn.out).mono ?_
    rintro e W5 ⟨_, rfl, ⟨V5, rfl, ho5⟩, h5⟩
    have hone6 := (ho5).one
    have hnb6 := newBox (W5)
    go_wp2_with (refine wpList_store_state rfl (.tmp 7) (.tmp 20) rfl rfl (World.heap (W5)).size nilSV V5 hnb6 rfl rfl hone6 (fun w6 hbox6 hg6 => ?_); refine Hid.out ?_)
    unfold Hid
    have hbb6 := newBelow hg6
    have hbl6 := hbox6.lt
    clear hone6 hnb6 hg6
    have hx6 := Lib.hid (Bx.of hbox6 (ho5.below hbb6))
    have h06 := h1.trans ((h5.trans (hbb6.mono h5.size)).mono h1.size)
    have hle : w.heap.size ≤ W1.heap.size := hB1.size
    have hle0 : W0.heap.size ≤ W1.heap.size := h1.size
    have hle5 : W1.heap.size ≤ W5.heap.size := h5.size
    clear hbox6 ho5 hbb6 h5 hbl6 h1 hB1
    generalize W1.heap.size = base at hx6 hle hle0 hle5
    generalize W5.heap.size = bx at hx6 hle5 ⊢
    obtain ⟨Ao, co, hvo⟩ := hx6.out.own.ordersSlice
    have hvo' := Lib.hid hvo
    clear hvo
    go_wp2_with fail
    go_loopw [8, 9] (fun i _ wr => ∃ n : Nat, n ≤ s.orders.length ∧ i = .int .i64 n ∧ Bx wr base bx 31 [] V5 (freedN s n) ∧ Below W0.heap.size W0 wr) (fun i _ _ => s.orders.length - (intOf i).toNat)
    case atStart => exact ⟨0, Nat.zero_le _, rfl, by rw [freedN_zero]; exact hx6.out, h06⟩
    case round =>
      clear hx6 h06
      obtain ⟨n, hn, rfl, hx, h0⟩ := hrel
      have hx' := Lib.hid hx
      clear hx
      have c1 := hx'.out.cells.2.1
      rw [hvo'.out] at c1
      by_cases hlt : n < s.orders.length
      · have hni : (n : Int) < (s.orders.length : Int) := by omega
        have hltn : n < (freedN s n).orders.length := by rw [freedN_len]; exact hlt
        have l13 := hsn.out.lines3 hlt
        obtain ⟨go, _, _, eo, -⟩ := hx'.out.own.orderAt hltn
        rw [hvo'.out] at eo
        injection eo with eo e2 e3
        subst eo
        clear e2 e3
        obtain ⟨hgo, hgol, z0, z1⟩ := hx'.out.own.orderCells hltn hvo'.out
        rw [freedN_order hlt] at z0
        clear hltn
        by_cases hk : (s.order n).kind = 0
        · have hq : ((s.order n).kind != 0) = false := by simpa using hk
          have hk' := Lib.hid hk
          clear hk
          go_wp2_with (refine wp_st_kind rfl (.tmp 39) (.const (.int .i64 1)) rfl rfl (i := n) (q := 1) hx'.out (by rw [freedN_len]; exact hlt) hvo'.out rfl rfl (fun w7 hx7 hst7 => ?_); refine Hid.out ?_)
          unfold Hid
          rw [freedK_zero hlt] at hx7
          have h07 := h0.trans (hst7.below (B := W0.heap.size) (fun q hq => by omega) h0.size)
          have hx7' := Lib.hid hx7
          clear hst7 hx7 z0 z1 c1 hq hx'
          obtain ⟨gl, cl, e1, hgl⟩ := hx7'.out.own.lineSlice (o := n) (by rw [freedK_len]; exact hlt) (by rw [freedK_lines hlt]; omega)
          rw [freedK_lines hlt] at e1
          have e1' := Lib.hid e1
          clear e1
          go_wp2_with fail
          go_loopw [9] (fun i wr => ∃ k : Nat, k ≤ (s.order n).lines.length ∧ i = .int .i64 k ∧ Bx wr base bx 31 [] V5 (freedK s n k) ∧ Below W0.heap.size W0 wr) (fun i _ => (s.order n).lines.length - (intOf i).toNat)
          case atStart => exact ⟨0, Nat.zero_le _, rfl, hx7'.out, h07⟩
          case round =>
            clear hx7' h07 h0
            obtain ⟨k, hkl, rfl, hx, h0⟩ := hrel
            have hx' := Lib.hid hx
            clear hx
            have hon : n < (freedK s n k).orders.length := by rw [freedK_len]; exact hlt
            obtain ⟨_, _, _, z1⟩ := hx'.out.own.orderCells hon hvo'.out
            rw [e1'.out] at z1
            have c1 := hx'.out.cells.2.1
            rw [hvo'.out] at c1
            have hon' := Lib.hid hon
            clear hon
            by_cases hkt : k < (s.order n).lines.length
            · have hki : (k : Int) < ((s.order n).lines.length : Int) := by omega
              have hkn : k < ((freedK s n k).order n).lines.length := by rw [freedK_lines hlt]; exact hkt
              obtain ⟨hgll, f0, f1, f2, f3⟩ := hx'.out.own.lineCells hon'.out hkn e1'.out
              rw [freedK_line hlt hkt] at f1
              have hx'd := Lib.hid hx'.out.drew
              have hkn' := Lib.hid hkn
              clear f0 f2 f3 hkn
              go_wp2_with fail
              go_still_tail 19, (by kernel_rfl)
              change wpList _ _ _ _ _ wr.drew
              refine wp_st_line rfl (.tmp 69) (.tmp 67) rfl rfl (j := 3) (y := { s.line n k with back := (s.line n k).want }) hx'd.out hon'.out hkn'.out e1'.out (by decide) (by rw [freedK_line hlt hkt]; rfl) rfl rfl (fun w9 hx9 hst9 => ?_)
              refine wpList_nil ?_
              rw [freedK_succ hlt hkt] at hx9
              have h09 := h0.drew.trans (hst9.below (B := W0.heap.size) (fun q hq => by omega) h0.drew.size)
              have hx9' := Lib.hid hx9
              clear hst9 hx9 z1 f1 c1 hx' hx'd
              go_wp2_with fail
              go_roundw
              case rel => exact ⟨k + 1, by omega, by go_num, hx9'.out, h09⟩
              case measure => simp [intOf]; omega
            · obtain rfl : k = (s.order n).lines.length := by omega
              have hx2 := Lib.hid (show Bx wr base bx 31 [] V5 (freedN s (n + 1)) by rw [← freedK_all hlt hk'.out]; exact hx'.out)
              go_wp2_with fail
              go_roundw
              case rel => exact ⟨n + 1, by omega, by go_num, hx2.out, h0⟩
              case measure => simp [intOf]; omega
        · have hq : ((s.order n).kind != 0) = true := by simpa using hk
          have hx2 := Lib.hid (show Bx wr base bx 31 [] V5 (freedN s (n + 1)) by rw [freedN_skip hlt hk]; exact hx'.out)
          clear hk
          go_wp2_with fail
          go_roundw
          case rel => exact ⟨n + 1, by omega, by go_num, hx2.out, h0⟩
          case measure => simp [intOf]; omega
      · obtain rfl : n = s.orders.length := by omega
        have hx6 := Lib.hid (show Bx wr base bx 31 [] V5 (takeOrders p 0 (freedS s)) by rw [← freedN_all]; exact hx'.out)
        clear hx'
        go_wp2_with fail
        clear c1
        have h06 := h0
        clear h0
        go_loopw [10, 11] (fun i _ wr => ∃ (n : Nat) (V : SV), V = { V5 with holds := V.holds } ∧ n ≤ s.orders.length ∧ i = .int .i64 n ∧ Bx wr base bx 31 [] V (takeOrders p n (freedS s)) ∧ Below W0.heap.size W0 wr) (fun i _ _ => s.orders.length - (intOf i).toNat)
        case atStart => exact ⟨0, V5, rfl, Nat.zero_le _, rfl, hx6.out, h06⟩
        case round =>
          clear hx6 h06
          obtain ⟨n, V, hV5, hn, rfl, hx, h0⟩ := hrel
          have hx' := Lib.hid hx
          have hVo := Lib.hid (show V.orders = .slice Ao s.orders.length co by rw [hV5]; exact hvo'.out)
          have hV5' := Lib.hid hV5
          have c1 := hx.cells.2.1
          rw [hVo.out] at c1
          clear hx hV5
          by_cases hlt : n < s.orders.length
          · have hni : (n : Int) < (s.orders.length : Int) := by omega
            have l13 := hsn.out.lines3 hlt
            obtain ⟨hrt, hlen, hlines⟩ := relO_facts (p := p) hc'.out hn
            have hltn : n < (takeOrders p n (freedS s)).orders.length := by rw [hlen]; exact hlt
            have hln := hlines n hlt
            obtain ⟨go, _, _, eo, -⟩ := hx'.out.own.orderAt hltn
            rw [hVo.out] at eo
            injection eo with eo e2 e3
            subst eo
            clear e2 e3
            have hkd0 : ∃ kd, ((takeOrders p n (freedS s)).order n).kind = kd := ⟨_, rfl⟩
            obtain ⟨kd, hkd⟩ := hkd0
            have hkd' := Lib.hid hkd
            obtain ⟨gl, cl, e1, hgl⟩ := hx'.out.own.lineSlice hltn (by rw [hln]; omega)
            rw [hln] at e1
            have e1' := Lib.hid e1
            have hgo := (hx'.out.own.orderCells hltn hVo.out).1
            have h06 := h0
            have hx6 := hx'
            clear hkd hrt hlen hlines hltn hln e1 h0 hx'
            go_wp2_with fail
            clear c1
            by_cases hk : kd = 1
            · subst hk
              go_loopw [11] (fun i wr => ∃ (k : Nat) (V : SV), V = { V5 with holds := V.holds } ∧ k ≤ (s.order n).lines.length ∧ i = .int .i64 k ∧ Bx wr base bx 31 [] V (relK p s n k) ∧ Below W0.heap.size W0 wr) (fun i _ => (s.order n).lines.length - (intOf i).toNat)
              case atStart => exact ⟨0, V, hV5'.out, Nat.zero_le _, rfl, hx6.out, h06⟩
              case round =>
                clear hx6 h06 hVo hV5' e1' V
                obtain ⟨k, V, hV5, hkl, rfl, hx, h0⟩ := hrel
                have hx' := Lib.hid hx
                have hVo := Lib.hid (show V.orders = .slice (some ⟨go, 0, none⟩) s.orders.length co by rw [hV5]; exact hvo'.out)
                have hV5' := Lib.hid hV5
                clear hx hV5
                obtain ⟨hrt, hlen, hkk, hln⟩ := relK_facts hc'.out hlt hkd'.out hkl
                have hrt' := Lib.hid hrt
                have hon : n < (relK p s n k).orders.length := by rw [hlen]; exact hlt
                obtain ⟨_, _, z0, z1⟩ := hx'.out.own.orderCells hon hVo.out
                rw [hkk, hkd'.out] at z0
                obtain ⟨gl2, cl2, e1, hgl2⟩ := hx'.out.own.lineSlice hon (by rw [hln]; omega)
                rw [hln] at e1
                rw [e1] at z1
                have e1' := Lib.hid e1
                obtain ⟨b0, c1, b2, b3, b4, b5, b6⟩ := hx'.out.cells
                rw [hVo.out] at c1
                have hon' := Lib.hid hon
                have hln' := Lib.hid hln
                have hlen0 := Lib.hid hlen
                clear hrt hlen hkk hln hon e1
                by_cases hkt : k < (s.order n).lines.length
                · have hki : (k : Int) < ((s.order n).lines.length : Int) := by omega
                  have hkn : k < ((relK p s n k).order n).lines.length := by rw [hln'.out]; exact hkt
                  have hmay := Lib.hid (relK_may hc'.out hlt hkd'.out hkt)
                  obtain ⟨hgll, f0, f1, f2, f3⟩ := hx'.out.own.lineCells hon'.out hkn e1'.out
                  have hxd := Lib.hid hx'.out.drew
                  have hBd := hb0.trans (h0.drew.mono hb0.size)
                  have hbs : bx < wr.heap.size := hx'.out.lt
                  have hkk2 : k + 1 ≤ (s.order n).lines.length := hkt
                  obtain ⟨_, hlen1, _, hln1⟩ := relK_facts hc'.out hlt hkd'.out hkk2
                  have hfr : ∃ s1 x, relK p s n (k + 1) = s1 ∧ (takeS p (relK p s n k) n k ((relK p s n k).line n k).back (-1)).2 = x := ⟨_, _, rfl, rfl⟩
                  obtain ⟨s1, x, hs1, hxx⟩ := hfr
                  have hs1' := Lib.hid hs1
                  have hxx' := Lib.hid hxx
                  rw [hs1] at hlen1 hln1
                  have hlen1' := Lib.hid hlen1
                  have hln1' := Lib.hid hln1
                  have hbase : base ≤ wr.drew.heap.size := by show base ≤ wr.heap.size; omega
                  have hT0 : relT W0 base bx V (relK p s n k) s1 0 wr.drew := ⟨h0.drew, hbase, hxd.out⟩
                  have hT0' := Lib.hid hT0
                  have hrd : ∀ ph w', relT W0 base bx V (relK p s n k) s1 ph w' → ∃ Vb : SV, BoxAt w' bx Vb ∧ Vb.orders = .slice (some ⟨go, 0, none⟩) s.orders.length co ∧ (ph = 0 → Vb = V) := fun ph w' h => by
                    obtain ⟨Vb, h1, h2, h3⟩ := relT_box h
                    exact ⟨Vb, h1, h2.trans hVo.out, h3⟩
                  have hrl : ∀ ph w', relT W0 base bx V (relK p s n k) s1 ph w' → w'.cell? ⟨go, n * 2 + 1, none⟩ = some (.slice (some ⟨gl2, 0, none⟩) (s.order n).lines.length cl2) ∧ ∃ q, w'.cell? ⟨gl2, k * 4 + 3, none⟩ = some (.int .i64 q) ∧ (ph = 0 → q = ((relK p s n k).line n k).back) := fun ph w' h => by
                    obtain ⟨Vo, sq, h1, h2, h3, h4, h5⟩ := relT_own h
                    have hq1 : sq.orders.length = s.orders.length := by
                      rcases h4 with rfl | rfl
                      · exact hlen0.out
                      · exact hlen1'.out
                    have hq2 : (sq.order n).lines.length = (s.order n).lines.length := by
                      rcases h4 with rfl | rfl
                      · exact hln'.out
                      · exact hln1'.out
                    obtain ⟨_, _, _, z1⟩ := h1.orderCells (by rw [hq1]; exact hlt) (h2.trans hVo.out)
                    have el : Vo.line n = .slice (some ⟨gl2, 0, none⟩) (s.order n).lines.length cl2 := by rw [h3]; exact e1'.out
                    rw [el] at z1
                    obtain ⟨_, _, _, _, f3⟩ := h1.lineCells (by rw [hq1]; exact hlt) (by rw [hq2]; exact hkt) el
                    exact ⟨z1, _, f3, fun h0 => by rw [h5 h0]⟩
                  have hrd' := Lib.hid hrd
                  have hrl' := Lib.hid hrl
                  clear hs1 hxx hlen1 hln1 hT0 hrd hrl f0 f1 f2 f3 hkn b0 b2 b3 b4 b5 b6 hbase
                  go_wp2_with fail
                  clear z0 z1 c1
                  refine wp_region_opsD 19 (relT W0 base bx V (relK p s n k) s1) (fun k' w1 w2 => relT W0 base bx V (relK p s n k) s1 k' w1 → relT W0 base bx V (relK p s n k) s1 (k' + 1) w2) 14 18 (by decide) (by decide) (by decide) (fun o ho => by injection ho with ho; subst ho; exact ⟨⟨14, .chain⟩, by simp, rfl, rfl⟩)
                    [fun _ gq _ => gq 98 = .agg #[.slice Ab p.bins.length cb, .slice As p.sizes.length cs], fun ph gq w' => (fun (ph : Nat) (v : Value) (_ : World) => ∃ V' : SV, v = V'.val ∧ (ph = 0 → V' = V)) ph (gq 99) w', fun _ gq _ => gq 100 = .int .i64 n, fun _ gq _ => gq 101 = .int .i64 k,
                      fun _ gq _ => gq 102 = .pointer (some ⟨bx, 1, none⟩), fun _ gq _ => gq 103 = .slice (some ⟨go, 0, none⟩) s.orders.length co, fun _ gq _ => gq 104 = .int .i64 n, fun _ gq _ => gq 105 = .pointer (some ⟨go, n * 2, none⟩), fun _ gq _ => gq 106 = .pointer (some ⟨go, n * 2 + 1, none⟩),
                      fun _ gq _ => gq 107 = .slice (some ⟨gl2, 0, none⟩) (s.order n).lines.length cl2, fun _ gq _ => gq 108 = .int .i64 k, fun _ gq _ => gq 109 = .pointer (some ⟨gl2, k * 4, none⟩), fun _ gq _ => gq 110 = .pointer (some ⟨gl2, k * 4 + 3, none⟩),
                      fun ph gq w' => (fun (ph : Nat) (v : Value) (_ : World) => ∃ q, v = .int .i64 q ∧ (ph = 0 → q = ((relK p s n k).line n k).back)) ph (gq 111) w',
                      fun ph gq w' => takP base V s1 (fun v => .tuple #[v, .int .i64 x]) ph (gq 112) w', fun ph gq w' => takP base V s1 (fun v => .tuple #[v, .int .i64 x]) ph (gq 97) w', fun ph gq w' => takP base V s1 id ph (gq 113) w', fun _ gq _ => gq 114 = .int .i64 x, fun ph gq w' => ph = 2 ∧ True] (by kernel_rfl) (by kernel_rfl) rfl (by kernel_rfl)
                    (fun ph w1 w2 h h' => relT_below h h') (fun k w1 w2 _ h h' => h' h) hT0'.out ?_ (fun f w2 hb2 hR => ?_)
                  simp only [List.take_succ_cons, List.take_zero]
                  refine OpsD.cons (OpD.val rfl rfl (by decide) (by decide) (fun ph gq w' hb ho hd => ?_)) ?_
                  · have e2 := ho 2 rfl
                    obtain ⟨⟨y0, y1⟩, x0, x1, x2, x3, x4, x5, x6, hbz0, hbz1⟩ := hK.out w' (hb.1)
                    go_simp
                  refine OpsD.cons (OpD.one (d := 99) (p := fun (ph : Nat) (v : Value) (_ : World) => ∃ V' : SV, v = V'.val ∧ (ph = 0 → V' = V)) rfl rfl (by decide) (by decide) (fun ph v w1 w2 h hb => h) (fun k v w1 w2 _ h hb => by
                      obtain ⟨V', h1, h2⟩ := h
                      exact ⟨V', h1, fun h => by omega⟩) (fun ph gq w' hb ho hd => ?_)) ?_
                  · have e7 := ho 7 rfl
                    obtain ⟨Vb, hvb, hvo2, hvv⟩ := hrd'.out ph w' hb
                    have hvo2' := Lib.hid hvo2
                    clear hvo2
                    obtain ⟨b0, b1, b2, b3, b4, b5, b6⟩ := hvb.cells
                    have hvv' := Lib.hid hvv
                    clear hvv hvb
                    unfold OpRel
                    go_simp
                    exact ⟨⟨Vb, by first | rfl | (unfold SV.val; rw [hvo2'.out]), hvv'.out⟩, Below.refl _ _⟩
                  refine OpsD.cons (OpD.val rfl rfl (by decide) (by decide) (fun ph gq w' hb ho hd => ?_)) ?_
                  · have e10 := ho 10 rfl
                    go_simp
                  refine OpsD.cons (OpD.val rfl rfl (by decide) (by decide) (fun ph gq w' hb ho hd => ?_)) ?_
                  · have e11 := ho 11 rfl
                    go_simp
                  refine OpsD.cons (OpD.val rfl rfl (by decide) (by decide) (fun ph gq w' hb ho hd => ?_)) ?_
                  · have e7 := ho 7 rfl
                    go_simp
                  refine OpsD.cons (OpD.val rfl rfl (by decide) (by decide) (fun ph gq w' hb ho hd => ?_)) ?_
                  · have e102 : gq 102 = .pointer (some ⟨bx, 1, none⟩) := hd ⟨4, .data⟩ (by simp) rfl (by decide)
                    obtain ⟨Vb, hvb, hvo2, hvv⟩ := hrd'.out ph w' hb
                    have c1 := hvb.cells.2.1
                    rw [hvo2] at c1
                    clear hvv hvb hvo2
                    go_simp
                  refine OpsD.cons (OpD.val rfl rfl (by decide) (by decide) (fun ph gq w' hb ho hd => ?_)) ?_
                  · have e10 := ho 10 rfl
                    go_simp
                  refine OpsD.cons (OpD.val rfl rfl (by decide) (by decide) (fun ph gq w' hb ho hd => ?_)) ?_
                  · have e103 : gq 103 = .slice (some ⟨go, 0, none⟩) s.orders.length co := hd ⟨5, .data⟩ (by simp) rfl (by decide)
                    have e104 : gq 104 = .int .i64 n := hd ⟨6, .data⟩ (by simp) rfl (by decide)
                    go_simp
                  refine OpsD.cons (OpD.val rfl rfl (by decide) (by decide) (fun ph gq w' hb ho hd => ?_)) ?_
                  · have e105 : gq 105 = .pointer (some ⟨go, n * 2, none⟩) := hd ⟨7, .data⟩ (by simp) rfl (by decide)
                    go_simp
                  refine OpsD.cons (OpD.val rfl rfl (by decide) (by decide) (fun ph gq w' hb ho hd => ?_)) ?_
                  · have e106 : gq 106 = .pointer (some ⟨go, n * 2 + 1, none⟩) := hd ⟨8, .data⟩ (by simp) rfl (by decide)
                    obtain ⟨z1, _⟩ := hrl'.out ph w' hb
                    go_simp
                  refine OpsD.cons (OpD.val rfl rfl (by decide) (by decide) (fun ph gq w' hb ho hd => ?_)) ?_
                  · have e11 := ho 11 rfl
                    go_simp
                  refine OpsD.cons (OpD.val rfl rfl (by decide) (by decide) (fun ph gq w' hb ho hd => ?_)) ?_
                  · have e107 : gq 107 = .slice (some ⟨gl2, 0, none⟩) (s.order n).lines.length cl2 := hd ⟨9, .data⟩ (by simp) rfl (by decide)
                    have e108 : gq 108 = .int .i64 k := hd ⟨10, .data⟩ (by simp) rfl (by decide)
                    go_simp
                  refine OpsD.cons (OpD.val rfl rfl (by decide) (by decide) (fun ph gq w' hb ho hd => ?_)) ?_
                  · have e109 : gq 109 = .pointer (some ⟨gl2, k * 4, none⟩) := hd ⟨11, .data⟩ (by simp) rfl (by decide)
                    go_simp
                  refine OpsD.cons (OpD.one (d := 111) (p := fun (ph : Nat) (v : Value) (_ : World) => ∃ q, v = .int .i64 q ∧ (ph = 0 → q = ((relK p s n k).line n k).back)) rfl rfl (by decide) (by decide) (fun ph v w1 w2 h hb => h) (fun k v w1 w2 _ h hb => by
                      obtain ⟨V', h1, h2⟩ := h
                      exact ⟨V', h1, fun h => by omega⟩) (fun ph gq w' hb ho hd => ?_)) ?_
                  · have e110 : gq 110 = .pointer (some ⟨gl2, k * 4 + 3, none⟩) := hd ⟨12, .data⟩ (by simp) rfl (by decide)
                    obtain ⟨_, q, f3, hvv⟩ := hrl'.out ph w' hb
                    have hvv' := Lib.hid hvv
                    clear hvv
                    unfold OpRel
                    go_simp
                    exact ⟨hvv'.out, Below.refl _ _⟩
                  refine OpsD.cons (OpD.first (d := 112) (p := takP base V s1 (fun v => .tuple #[v, .int .i64 x])) rfl rfl (fun ph v w1 w2 h hb => takP_below h hb) (fun v w1 w2 h hb => takP_next (Nat.le_refl _) h) (fun gq w' hb ho hd => ?_)) ?_
                  · have e98 : gq 98 = .agg #[.slice Ab p.bins.length cb, .slice As p.sizes.length cs] := hd ⟨0, .data⟩ (by simp) rfl (by decide)
                    have e99 : ∃ V' : SV, gq 99 = V'.val ∧ ((0 : Nat) = 0 → V' = V) := hd ⟨1, .data⟩ (by simp) rfl (by decide)
                    have e100 : gq 100 = .int .i64 n := hd ⟨2, .data⟩ (by simp) rfl (by decide)
                    have e101 : gq 101 = .int .i64 k := hd ⟨3, .data⟩ (by simp) rfl (by decide)
                    have e111 : ∃ q, gq 111 = .int .i64 q ∧ ((0 : Nat) = 0 → q = ((relK p s n k).line n k).back) := hd ⟨13, .data⟩ (by simp) rfl (by decide)
                    obtain ⟨V', e99, hVV⟩ := e99
                    obtain ⟨q, e111, hqq⟩ := e111
                    obtain rfl := (hVV rfl).symm
                    obtain rfl := (hqq rfl).symm
                    have hb' := Lib.hid hb
                    clear hb hVV hqq
                    unfold OpRel
                    go_simp
                    refine (rTake w' _ p (relK p s n k) n k _ (-1) (hP'.out _ (hb0.trans (hb'.out.1.mono hb0.size))) hrt'.out hmay.out (Bx.own hb'.out.2.2) hb'.out.2.1).mono ?_
                    rintro e w9 ⟨V9, hV9, rfl, ho9, hst9⟩
                    have ho9' : OwnSt w9 base V9 s1 := by rw [← hs1'.out]; exact ho9
                    rw [hxx'.out]
                    refine ⟨_, rfl, ⟨V9, hV9, rfl, ho9'⟩, fun _ => ⟨hb'.out.1.trans (hst9.below (B := W0.heap.size) (fun q hq => by
                      rw [e1'.out] at hq
                      change some gl2 = some q at hq
                      injection hq with hq
                      omega) hb'.out.1.size), Nat.le_trans hb'.out.2.1 hst9.size, hst9.blk (Bx.boxAt hb'.out.2.2).blk ?_, V9, hV9, ho9'⟩⟩
                    rcases Own.notBox ((Bx.own hb'.out.2.2).line n hon'.out) (Bx.boxAt hb'.out.2.2).blk (by decide) with h | h
                    · rw [h]; simp
                    · exact h
                  refine OpsD.cons (OpD.one (d := 97) (p := takP base V s1 (fun v => .tuple #[v, .int .i64 x])) rfl rfl (by decide) (by decide) (fun ph v w1 w2 h hb => takP_below h hb) (fun k v w1 w2 hk h hb => takP_next hk h) (fun ph gq w' hb ho hd => ?_)) ?_
                  · have e112 : takP base V s1 (fun v => .tuple #[v, .int .i64 x]) ph (gq 112) w' := hd ⟨14, .data⟩ (by simp) rfl (by decide)
                    have e112' := Lib.hid e112
                    clear e112
                    unfold OpRel
                    go_simp
                    exact ⟨e112'.out, Below.refl _ _⟩
                  refine OpsD.cons (OpD.one (d := 113) (p := takP base V s1 id) rfl rfl (by decide) (by decide) (fun ph v w1 w2 h hb => takP_below h hb) (fun k v w1 w2 hk h hb => takP_next hk h) (fun ph gq w' hb ho hd => ?_)) ?_
                  · have e97 : takP base V s1 (fun v => .tuple #[v, .int .i64 x]) ph (gq 97) w' := hd ⟨15, .data⟩ (by simp) rfl (by decide)
                    rcases ph with _ | _ | ph
                    · exact e97.elim
                    · obtain ⟨V7, hV7, e97, ho7⟩ := e97
                      have ho7' := Lib.hid ho7
                      have hV7' := Lib.hid hV7
                      clear ho7 hV7
                      unfold OpRel
                      go_simp
                      exact ⟨⟨V7, hV7'.out, rfl, ho7'.out⟩, Below.refl _ _⟩
                    · obtain ⟨V7, e97⟩ := e97
                      unfold OpRel
                      go_simp
                      exact ⟨⟨V7, rfl⟩, Below.refl _ _⟩
                  refine OpsD.cons (OpD.val rfl rfl (by decide) (by decide) (fun ph gq w' hb ho hd => ?_)) ?_
                  · have e97 : takP base V s1 (fun v => .tuple #[v, .int .i64 x]) ph (gq 97) w' := hd ⟨15, .data⟩ (by simp) rfl (by decide)
                    have e97b : ∃ V7 : SV, gq 97 = .tuple #[V7.val, .int .i64 x] := by
                      rcases ph with _ | _ | ph
                      · exact e97.elim
                      · obtain ⟨V7, _, h, _⟩ := e97
                        exact ⟨V7, h⟩
                      · exact e97
                    clear e97
                    obtain ⟨V7, e97⟩ := e97b
                    go_simp
                  refine OpsD.cons (OpD.second (p := fun _ _ => True) (by decide) rfl (fun gq w1 w2 h hb => trivial) (fun gq gq' w1 he h => trivial) (fun gq w' hb ho hd => ?_)) ?_
                  · have e7 := ho 7 rfl
                    have e113 : takP base V s1 id 1 (gq 113) w' := hd ⟨16, .data⟩ (by simp) rfl (by decide)
                    obtain ⟨V7, hV7, e113, ho7⟩ := e113
                    refine opRel_put_state (.tmp 7) (.tmp 113) rfl bx V V7 hb.2.2.1 e7 e113 ho7.one (fun w8 hbox8 hg8 => ?_)
                    exact ⟨trivial, fun _ => ⟨hb.1.grown hg8 hb.1.size (fun q hq => by injection hq with hq; omega), Nat.le_trans hb.2.1 hg8.size, V7, hV7, Bx.of hbox8 (ho7.keptBy hg8 hb.2.2.1.blk (by decide) (by decide) (by decide) (by decide) (by decide) (by decide))⟩⟩
                  exact OpsD.nil
                  obtain ⟨r98, ⟨V0, r99, _⟩, r100, r101, r102, r103, r104, r105, r106, r107, r108, r109, r110, ⟨q0, r111, _⟩, ⟨V1, r112⟩, ⟨V2, r97⟩, ⟨V3, r113⟩, r114, _⟩ := hR
                  simp only [fillA, fillT, List.take_succ_cons, List.take_zero, List.drop_succ_cons, List.drop_zero, List.filterMap_cons, List.filterMap_nil, List.foldl_cons, List.foldl_nil, List.setIfInBounds_toArray, List.set_cons_zero, List.set_cons_succ, r98, r99, r100, r101, r102, r103, r104, r105, r106, r107, r108, r109, r110, r111, r112, r97, r113, r114]
                  clear r98 r99 r100 r101 r102 r103 r104 r105 r106 r107 r108 r109 r110 r111 r112 r97 r113 r114
                  refine wpList_nil ?_
                  obtain ⟨h09, _, V9, hV9, hx9⟩ := hb2
                  have hV9' := Lib.hid (sv_holds hV9 hV5'.out)
                  have hx9' := Lib.hid (show Bx w2 base bx 31 [] V9 (relK p s n (k + 1)) by rw [hs1'.out]; exact hx9)
                  clear hx9 hV9 hxd hx' hV5' hVo hmay hrt' e1' hs1' hxx' hT0' hrd' hrl' hlen1' hln1'
                  go_wp2_with fail
                  go_roundw
                  case rel => exact ⟨k + 1, V9, hV9'.out, by omega, by go_num, hx9'.out, h09⟩
                  case measure => simp [intOf]; omega
                · obtain rfl : k = (s.order n).lines.length := by omega
                  have hx2 := Lib.hid (show Bx wr base bx 31 [] V (takeOrders p (n + 1) (freedS s)) by rw [← relO_yes hc'.out hlt hkd'.out]; exact hx'.out)
                  go_wp2_with fail
                  go_roundw
                  case rel => exact ⟨n + 1, V, hV5'.out, by omega, by go_num, hx2.out, h0⟩
                  case measure => simp [intOf]; omega
            · have hko : (kd == 1) = false := by simpa using hk
              have hkx := Lib.hid hk
              clear hk
              go_loopw [11] (fun i wr => i = .int .i64 0 ∧ Bx wr base bx 31 [] V (takeOrders p n (freedS s)) ∧ Below W0.heap.size W0 wr) (fun i _ => 0)
              case atStart => exact ⟨rfl, hx6.out, h06⟩
              case round =>
                clear hx6 h06
                obtain ⟨rfl, hx, h0⟩ := hrel
                have hx' := Lib.hid hx
                clear hx
                obtain ⟨hrt, hlen, hlines⟩ := relO_facts (p := p) hc'.out hn
                have hltn : n < (takeOrders p n (freedS s)).orders.length := by rw [hlen]; exact hlt
                obtain ⟨_, _, z0, z1⟩ := hx'.out.own.orderCells hltn hVo.out
                rw [hkd'.out] at z0
                rw [e1'.out] at z1
                have c1 := hx'.out.cells.2.1
                rw [hVo.out] at c1
                have hl0 : (0 : Int) < ((s.order n).lines.length : Int) := by omega
                have hx2 := Lib.hid (show Bx wr base bx 31 [] V (takeOrders p (n + 1) (freedS s)) by rw [relO_no (by rw [hkd'.out]; exact hkx.out)]; exact hx'.out)
                clear hrt hlen hlines hltn
                go_wp2_with fail
                go_roundw
                case rel => exact ⟨n + 1, V, hV5'.out, by omega, by go_num, hx2.out, h0⟩
                case measure => simp [intOf]; omega
          · obtain rfl : n = s.orders.length := by omega
            have hB0 := hb0.trans (h0.mono hb0.size)
            have hx2 := Lib.hid (show Bx wr base bx 31 [] V (releaseS p s) from hx'.out)
            have hvv := hVo.out
            clear hx' hVo hV5'
            obtain ⟨a0, a1, a2, a3, a4, a5, a6, a7, a8⟩ := V
            obtain rfl : a1 = .slice Ao s.orders.length co := hvv
            have hbx9 := hR.out _ h0
            obtain ⟨b0, b1, b2, b3, b4, b5, b6⟩ := BoxAt.cells hx2.out.boxAt
            have hone9 := OwnSt.one hx2.out.own
            go_wp2_with (refine wpList_store_state rfl (.tmp 4) (.tmp 115) rfl rfl (w.heap.size + 1 + 1) nilSV (⟨a0, .slice Ao s.orders.length co, a2, a3, a4, a5, a6, a7, a8⟩ : SV) hbx9 rfl rfl hone9 (fun w9 hbox9 hg9 => ?_))
            have hO9 := OwnSt.keptBy hx2.out.own hg9 hbx9 (by decide) (by decide) (by decide) (by decide) (by decide) (by decide)
            obtain ⟨p0, p1, p2, p3, p4, p5, p6⟩ := BoxAt.cells hbox9
            have hfin9 : Below w.heap.size w w9 := Below.grown hB0 hg9 (Below.size hB0) (fun k hk => by injection hk with hk; omega)
            clear b0 b1 b2 b3 b4 b5 b6
            go_wp2_with fail
            exact bodyPost_ret (v := .tuple #[SV.val (⟨a0, .slice Ao s.orders.length co, a2, a3, a4, a5, a6, a7, a8⟩ : SV), .int .i64 0]) (by simp [results, Try.results28, go_sem, SV.val, p0, p1, p2, p3, p4, p5, p6]) rfl (actOk hfin.out (hO9.from_ hle) hfin9)
  · have hne : (checkState p s != 0) = true := by simpa using hc
    have hfin := Lib.hid (release_bad hc)
    clear hc
    have hbx9 := hR.out _ h1
    go_wp2_with (refine wpList_store_state rfl (.tmp 4) (.tmp 17) rfl rfl (w.heap.size + 1 + 1) nilSV nilSV hbx9 rfl rfl rfl (fun w9 hbox9 hg9 => ?_))
    obtain ⟨p0, p1, p2, p3, p4, p5, p6⟩ := BoxAt.cells hbox9
    have hfin9 : Below w.heap.size w w9 := Below.grown hB1 hg9 (Below.size hB1) (fun k hk => by injection hk with hk; omega)
    go_wp2_with fail
    exact bodyPost_ret (v := .tuple #[nilSV.val, .int .i64 (checkState p s)]) (by simp [results, Try.results28, go_sem, SV.val, p0, p1, p2, p3, p4, p5, p6]) rfl (actErr hfin.out hfin9)
end Wh
