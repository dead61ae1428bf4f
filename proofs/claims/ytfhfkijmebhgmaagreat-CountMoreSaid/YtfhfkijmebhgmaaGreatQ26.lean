/- Texts of the claim, joined: RecvM, CountI. -/
import Derived.Test.YtfhfkijmebhgmaaGreatQ24
import Derived.Test.YtfhfkijmebhgmaaGreatQ25
namespace Wh
open Go Go.RowKit Go.Shelf Go.Proofs
attribute [local go_sem] run_indexAt_letter evL_tmp evL_const evL_func

theorem StateV.parts {w : World} {B : Nat} {V : SV} {s : State} (h : StateV w B V.val s) : (∃ A c, V.orders = .slice A s.orders.length c) ∧ Sl cHold w B V.holds s.holds := by
  obtain ⟨v0, v1, v2, v3, v4, v5, v6, e, _, h1, h0, _⟩ := h
  unfold SV.val at e
  injection e with e
  simp only [Array.mk.injEq, List.cons.injEq, and_true] at e
  rw [e.2.2.1, e.2.1]
  obtain ⟨A, c, _, h2, _⟩ := h1
  exact ⟨⟨A, c, h2⟩, h0⟩
theorem rSameHoldsAt (w : World) (va vb : Value) (a b : List Hold) (e : a = b) (ha : Sl cHold w w.heap.size va a) (hb : Sl cHold w w.heap.size vb b) :
    Calls Tryz.prog 25 #[va, vb] w fun e w' => e = .returned (.bool true) ∧ Below w.heap.size w w' := by
  have := rSameHolds w va vb a b ha hb
  rwa [decide_eq_true e] at this

end Wh
namespace Wh
open Go Go.RowKit Go.Shelf Go.Proofs
attribute [local go_sem] run_indexAt_letter evL_tmp evL_const evL_func

theorem StateV.holdsV2 {w : World} {B : Nat} {V : SV} {s : State} (h : StateV w B V.val s) : Sl cHold w B V.holds s.holds := by
  obtain ⟨v0, v1, v2, v3, v4, v5, v6, e, _, _, h0, _⟩ := h
  unfold SV.val at e
  injection e with e
  simp only [Array.mk.injEq, List.cons.injEq, and_true] at e
  rw [e.2.2.1]
  exact h0
/-- What the law asks of a count that went. -/
theorem count_mores {p : Plan} {s x : State} {b g n : Int} (h : count p s b g n = (x, 0)) : ∃ i j : Nat, b = i ∧ g = j ∧ Counts p s i j n ∧ checkState p s = 0 ∧ checkState p x = 0 ∧ (0 ≤ bound s i j ∧ bound s i j ≤ cell s.on i j) ∧
    (bound s i j ≤ n → avail x i j = n - bound s i j ∧ x.holds = s.holds ∧ x.moves = s.moves) ∧ (n < bound s i j → avail x i j = 0) := by
  have h0 : (count p s b g n).2 = 0 := by rw [h]
  obtain ⟨hc, i, j, rfl, rfl, f, e⟩ := count_right h0
  rw [h] at e
  simp only at e
  subst e
  have h1 := (right_of_check hc).avail_range f.hb f.hg
  have h2 : avail s i j = cell s.on i j - bound s i j := rfl
  have h3 := count_avail hc f
  have h4 : over s i j n = max (bound s i j - n) 0 := rfl
  have h5 := bound_range (right_of_check hc).sane i j
  refine ⟨i, j, rfl, rfl, f, hc, count_check hc f, ⟨by omega, by omega⟩, fun hle => ⟨by rw [h3]; omega, count_more hc hle⟩, fun hlt => by rw [h3]; omega⟩

set_option maxHeartbeats 20000000 in
set_option maxRecDepth 100000 in
theorem countMoreWalk (w : World) (v vs : Value) (p : Plan) (s : State) (b g n : Int) (hp : PlanV w w.heap.size v p) (hv : StateV w w.heap.size vs s) :
    Calls Tryz.prog 6 #[v, vs, .int .i64 b, .int .i64 g, .int .i64 n] w fun e w' => e = .returned (.bool true) ∧ Below w.heap.size w w' := by
  obtain ⟨x, c, hT⟩ : ∃ x c, count p s b g n = (x, c) := ⟨_, _, rfl⟩
  have hT' := Lib.hid hT
  have hsm := Lib.hid (show small x = true by have := count_small p s b g n; rwa [hT] at this)
  by_cases hc : c = 0
  · subst hc
    obtain ⟨i, j, rfl, rfl, hf, hcs, hcx, hbd, hge, hlt⟩ := count_mores hT
    have hsn := Lib.hid (checkState_zero.1 hcs).1
    have hib := hf.hb
    have hjb := hf.hg
    have hn0 := hf.s0
    have hn2 := hf.s1
    have hio : i < s.on.length := by rw [hsn.out.onLen]; exact hib
    have hjo : j < (rowAt s.on i).length := by rw [hsn.out.rowLen hib]; exact hjb
    have hii : (i : Int) < s.on.length := by omega
    have hji : (j : Int) < ((rowAt s.on i).length : Int) := by omega
    have hcl := hsn.out.cell hib hjb
    obtain ⟨av, hav⟩ : ∃ av, cell s.on i j - bound s i j = av := ⟨_, rfl⟩
    have hA := Lib.hid (show availE p s i j = (av, 0) by rw [← hav]; exact availE_ok (p := p) (s := s) (b := (i : Int)) (g := (j : Int)) hcs (isBin_iff.2 (by omega)) (isGood_iff.2 (by omega)))
    have hx := availE_ok (p := p) (s := x) (b := (i : Int)) (g := (j : Int)) hcx (isBin_iff.2 (by omega)) (isGood_iff.2 (by omega))
    obtain ⟨bd, hbd'⟩ : ∃ bd, bound s i j = bd := ⟨_, rfl⟩
    rw [hbd'] at hbd hge hlt hav
    have hw : IntKind.i64.wrap (cell s.on i j - av) = bd := by rw [IntWalk.i64_in _ (by omega)]; omega
    have z1 : decide ((i : Int) < 0) = false := decide_eq_false (by omega)
    have z2 : decide (s.on.length ≤ i) = false := decide_eq_false (by omega)
    have z3 : decide ((j : Int) < 0) = false := decide_eq_false (by omega)
    have z4 : decide ((rowAt s.on i).length ≤ j) = false := decide_eq_false (by omega)
    have h8 := hsn.out.moves8
    clear hT hcs hcx hbd' hf hav
    by_cases hle : bd ≤ n
    · obtain ⟨ha2, hxh, hxm⟩ := hge hle
      rw [ha2] at hx
      have hA2 := Lib.hid hx
      have hxh' := Lib.hid hxh
      have hxm' := Lib.hid hxm
      have g1 : decide (bd ≤ n) = true := decide_eq_true hle
      obtain ⟨a2, e2⟩ : ∃ a2, n - bd = a2 := ⟨_, rfl⟩
      rw [e2] at hA2
      have g2 : decide (0 ≤ a2) = true := decide_eq_true (by omega)
      have g3 : decide (a2 ≤ n) = true := decide_eq_true (by omega)
      have hn8 : s.moves.length ≤ 8 := h8
      clear hx hxh hxm hge hlt ha2 e2 hn0 hn2 hbd hcl
      obtain ⟨Ab, cb, As, cs, rfl, hP', hBn, hSz, hlb, hls⟩ := openPl hp
      obtain ⟨A0, c0, A1, c1, A2, c2, A3, c3, A4, c4, A5, c5, A6, c6, rfl, hV, hN, hO, hH, hM, hI, hU, hX, hl0, hl1, hl2, hl3, hl4, hl5, hl6⟩ := openOne hv
      go_enter Tryz.func6, Tryz.ntmps6
      go_wp2_with fail
      obtain ⟨W0, hW0, hb0, hsz0, hsz1, hsE, hK⟩ := boxesTwo w p s Ab cb As cs A0 c0 A1 c1 A2 c2 A3 c3 A4 c4 A5 c5 A6 c6
      rw [hW0]
      clear hW0
      obtain ⟨⟨y0, y1⟩, x0, x1, x2, x3, x4, x5, x6, hbz0, hbz1⟩ := hK.out W0 (Below.refl W0.heap.size W0)
      go_wp2_with fail
      clear y0 y1 x0 x1 x2 x3 x4 x5 x6 hbz0 hbz1
      refine (sAvailAt _ _ _ (hP'.out _ hb0) (hV.out _ hb0) hA.out).mono ?_
      rintro e Wa ⟨rfl, ha⟩
      have hBa := hb0.trans (ha.mono hb0.size)
      obtain ⟨⟨y0, y1⟩, x0, x1, x2, x3, x4, x5, x6, hbz0, hbz1⟩ := hK.out Wa (ha)
      go_wp2_with fail
      clear y0 y1 x0 x1 x2 x3 x4 x5 x6 hbz0 hbz1
      refine (ctCountAt hT'.out _ _ _ (hP'.out _ hBa) (hV.out _ hBa)).mono ?_
      rintro e W1 ⟨V1, rfl, ho1, hb1⟩
      obtain ⟨Am, cm, hvm, _, hAm⟩ := ho1.moves.sl (by rw [hxm'.out]; omega)
      rw [hxm'.out] at hAm hvm
      obtain ⟨b0, b1, b2, b3, b4, b5, b6, b7, b8⟩ := V1
      obtain rfl : b3 = .slice Am s.moves.length cm := hvm
      have hone2 := (ho1).one
      have hnb2 := newBox (W1)
      go_wp2_with (refine wpList_store_state rfl (.tmp 13) (.tmp 33) rfl rfl (World.heap (W1)).size nilSV (⟨b0, b1, b2, .slice Am s.moves.length cm, b4, b5, b6, b7, b8⟩ : SV) hnb2 rfl rfl hone2 (fun w2 hbox2 hg2 => ?_); refine Hid.out ?_)
      unfold Hid
      have hbb2 := newBelow hg2
      have hbl2 := hbox2.lt
      clear hone2 hnb2 hg2
      have h02 := ha.trans ((hb1.trans (hbb2.mono hb1.size)).mono ha.size)
      have hB2 := hb0.trans (h02.mono hb0.size)
      have hO2 := Lib.hid (ho1.below hbb2)
      have hv2 := Lib.hid (hO2.out.view0 hsm.out)
      have hM2 := Lib.hid (show ∀ W, Below w2.heap.size w2 W → At W W.heap.size Am (s.moves.flatMap cMove) from fun W hW => hAm.up (hbb2.trans (hW.mono hbb2.size)) (Nat.le_trans hbb2.size hW.size))
      have hbox2' := Lib.hid hbox2
      clear hbox2 ho1 hb1 hbb2 hAm
      have hbl2' : W1.heap.size < w2.heap.size := hbl2
      generalize W1.heap.size = bx at hbox2' hbl2 hbl2' ⊢
      obtain ⟨Ar, cr, or0, lr0, rr0, hrow⟩ := (hN.out w2 hB2).row hio
      obtain ⟨or1, lr1, rr1⟩ := hrow.at_.int hjo
      change w2.cell? _ = some (.int .i64 (cell s.on i j)) at rr1
      obtain ⟨⟨y0, y1⟩, x0, x1, x2, x3, x4, x5, x6, hbz0, hbz1⟩ := hK.out w2 (h02)
      obtain ⟨p0, p1, p2, p3, p4, p5, p6⟩ := hbox2'.out.cells
      simp only at p0 p1 p2 p3 p4 p5 p6
      go_wp2_with fail
      clear y0 y1 x0 x1 x2 x3 x4 x5 x6 hbz0 hbz1
      clear p0 p1 p2 p3 p4 p5 p6 rr0 rr1 or0 lr0 or1 lr1 hrow
      refine (rSameHoldsAt _ _ _ x.holds s.holds hxh'.out (StateV.holdsV2 hv2.out) (hH.out _ hB2)).mono ?_
      rintro e W3 ⟨rfl, h24⟩
      have h04 := h02.trans (h24.mono h02.size)
      have tb3 := Nat.lt_of_lt_of_le hbl2' h24.size
      obtain ⟨_, _, _, p3, _, _, _⟩ := (hbox2'.out.below h24 hbl2).cells
      simp only at p3
      obtain ⟨⟨y0, y1⟩, x0, x1, x2, x3, x4, x5, x6, hbz0, hbz1⟩ := hK.out W3 (h04)
      go_wp2_with fail
      clear y0 y1 x0 x1 x2 x3 x4 x5 x6 hbz0 hbz1
      clear p3 h04 tb3
      go_loopw [15] (fun k' wr => ∃ k : Nat, k ≤ s.moves.length ∧ k' = .int .i64 k ∧ Below w2.heap.size w2 wr) (fun k' _ => s.moves.length - (RowKit.intOf k').toNat)
      case atStart => exact ⟨0, Nat.zero_le _, rfl, h24⟩
      case round =>
        clear h24
        obtain ⟨k, hk, rfl, h24⟩ := hrel
        have h04 := h02.trans (h24.mono h02.size)
        have hB4 := hb0.trans (h04.mono hb0.size)
        have tb := Nat.lt_of_lt_of_le hbl2' h24.size
        obtain ⟨p0, p1, p2, p3, p4, p5, p6⟩ := (hbox2'.out.below h24 hbl2).cells
        simp only at p0 p1 p2 p3 p4 p5 p6
        obtain ⟨⟨y0, y1⟩, x0, x1, x2, x3, x4, x5, x6, hbz0, hbz1⟩ := hK.out wr (h04)
        by_cases hk1 : k < s.moves.length
        · have hki : (k : Int) < (s.moves.length : Int) := by omega
          obtain ⟨okm, lm, e0, e1, e2, e3⟩ := (hM2.out wr h24).move hk1
          obtain ⟨oks, ls, s0, s1, s2, s3⟩ := (hM.out wr hB4).at_.move hk1
          obtain ⟨gd, sr, ds, mn, hx⟩ : ∃ gd sr ds mn, moveAt s.moves k = ⟨gd, sr, ds, mn⟩ := ⟨_, _, _, _, rfl⟩
          rw [hx] at e0 e1 e2 e3 s0 s1 s2 s3
          simp only at e0 e1 e2 e3 s0 s1 s2 s3
          clear hx
          go_wp2_with fail
          go_quiet (fail)
          have h2q := below_drewN h24 nq
          go_wp2_with fail
          clear p0 p1 p2 p3 p4 p5 p6 e0 e1 e2 e3 s0 s1 s2 s3
          clear y0 y1 x0 x1 x2 x3 x4 x5 x6 hbz0 hbz1
          go_roundw
          case rel => exact ⟨k + 1, by omega, by go_num, h2q⟩
          case measure => simp [RowKit.intOf]; omega
        · obtain rfl : k = s.moves.length := by omega
          go_wp2_with fail
          clear y0 y1 x0 x1 x2 x3 x4 x5 x6 hbz0 hbz1
          clear p0 p1 p2 p3 p4 p5 p6
          refine (sAvailAt _ _ _ (hP'.out _ hB4) (hv2.out.grow h24) hA2.out).mono ?_
          rintro e W5 ⟨rfl, h5⟩
          have h25 := h24.trans (h5.mono h24.size)
          go_wp2_with fail
          refine (countBegun _).mono ?_
          rintro e W6 ⟨rfl, h6⟩
          have h26 := h25.trans (h6.mono h25.size)
          have h06 := h02.trans (h26.mono h02.size)
          have hB6 := hb0.trans (h06.mono hb0.size)
          obtain ⟨Ar, cr, or0, lr0, rr0, hrow⟩ := (hN.out W6 hB6).row hio
          obtain ⟨or1, lr1, rr1⟩ := hrow.at_.int hjo
          change W6.cell? _ = some (.int .i64 (cell s.on i j)) at rr1
          obtain ⟨⟨y0, y1⟩, x0, x1, x2, x3, x4, x5, x6, hbz0, hbz1⟩ := hK.out W6 (h06)
          go_wp2_with fail
          go_ret
          exact ⟨rfl, hB6⟩
    · have ha2 := hlt (by omega)
      rw [ha2] at hx
      have hA2 := Lib.hid hx
      have g1 : decide (bd ≤ n) = false := decide_eq_false hle
      have g3 : decide (0 ≤ n) = true := decide_eq_true hn0
      clear hx hge hlt ha2 hbd hcl hn2
      obtain ⟨Ab, cb, As, cs, rfl, hP', hBn, hSz, hlb, hls⟩ := openPl hp
      obtain ⟨A0, c0, A1, c1, A2, c2, A3, c3, A4, c4, A5, c5, A6, c6, rfl, hV, hN, hO, hH, hM, hI, hU, hX, hl0, hl1, hl2, hl3, hl4, hl5, hl6⟩ := openOne hv
      go_enter Tryz.func6, Tryz.ntmps6
      go_wp2_with fail
      obtain ⟨W0, hW0, hb0, hsz0, hsz1, hsE, hK⟩ := boxesTwo w p s Ab cb As cs A0 c0 A1 c1 A2 c2 A3 c3 A4 c4 A5 c5 A6 c6
      rw [hW0]
      clear hW0
      obtain ⟨⟨y0, y1⟩, x0, x1, x2, x3, x4, x5, x6, hbz0, hbz1⟩ := hK.out W0 (Below.refl W0.heap.size W0)
      go_wp2_with fail
      clear y0 y1 x0 x1 x2 x3 x4 x5 x6 hbz0 hbz1
      refine (sAvailAt _ _ _ (hP'.out _ hb0) (hV.out _ hb0) hA.out).mono ?_
      rintro e Wa ⟨rfl, ha⟩
      have hBa := hb0.trans (ha.mono hb0.size)
      obtain ⟨⟨y0, y1⟩, x0, x1, x2, x3, x4, x5, x6, hbz0, hbz1⟩ := hK.out Wa (ha)
      go_wp2_with fail
      clear y0 y1 x0 x1 x2 x3 x4 x5 x6 hbz0 hbz1
      refine (ctCountAt hT'.out _ _ _ (hP'.out _ hBa) (hV.out _ hBa)).mono ?_
      rintro e W1 ⟨V1, rfl, ho1, hb1⟩
      have hone2 := (ho1).one
      have hnb2 := newBox (W1)
      go_wp2_with (refine wpList_store_state rfl (.tmp 13) (.tmp 33) rfl rfl (World.heap (W1)).size nilSV V1 hnb2 rfl rfl hone2 (fun w2 hbox2 hg2 => ?_); refine Hid.out ?_)
      unfold Hid
      have hbb2 := newBelow hg2
      have hbl2 := hbox2.lt
      clear hone2 hnb2 hg2
      have h02 := ha.trans ((hb1.trans (hbb2.mono hb1.size)).mono ha.size)
      have hB2 := hb0.trans (h02.mono hb0.size)
      have hO2 := Lib.hid (ho1.below hbb2)
      have hv2 := Lib.hid (hO2.out.view0 hsm.out)
      have hbox2' := Lib.hid hbox2
      clear hbox2 ho1 hb1 hbb2
      generalize W1.heap.size = bx at hbox2' hbl2 ⊢
      obtain ⟨Ar, cr, or0, lr0, rr0, hrow⟩ := (hN.out w2 hB2).row hio
      obtain ⟨or1, lr1, rr1⟩ := hrow.at_.int hjo
      change w2.cell? _ = some (.int .i64 (cell s.on i j)) at rr1
      have h24 := Below.refl w2.heap.size w2
      have hB4 := hB2
      obtain ⟨⟨y0, y1⟩, x0, x1, x2, x3, x4, x5, x6, hbz0, hbz1⟩ := hK.out w2 (h02)
      obtain ⟨p0, p1, p2, p3, p4, p5, p6⟩ := hbox2'.out.cells
      go_wp2_with fail
      clear y0 y1 x0 x1 x2 x3 x4 x5 x6 hbz0 hbz1
      clear p0 p1 p2 p3 p4 p5 p6 rr0 rr1 or0 lr0 or1 lr1 hrow
      refine (sAvailAt _ _ _ (hP'.out _ hB4) (hv2.out.grow h24) hA2.out).mono ?_
      rintro e W5 ⟨rfl, h5⟩
      have h25 := h24.trans (h5.mono h24.size)
      go_wp2_with fail
      refine (countBegun _).mono ?_
      rintro e W6 ⟨rfl, h6⟩
      have h26 := h25.trans (h6.mono h25.size)
      have h06 := h02.trans (h26.mono h02.size)
      have hB6 := hb0.trans (h06.mono hb0.size)
      obtain ⟨Ar, cr, or0, lr0, rr0, hrow⟩ := (hN.out W6 hB6).row hio
      obtain ⟨or1, lr1, rr1⟩ := hrow.at_.int hjo
      change W6.cell? _ = some (.int .i64 (cell s.on i j)) at rr1
      obtain ⟨⟨y0, y1⟩, x0, x1, x2, x3, x4, x5, x6, hbz0, hbz1⟩ := hK.out W6 (h06)
      go_wp2_with fail
      go_ret
      exact ⟨rfl, hB6⟩
  · have hne : (c != 0) = true := by simpa using hc
    obtain ⟨a1, a2, hA⟩ : ∃ a1 a2, availE p s b g = (a1, a2) := ⟨_, _, rfl⟩
    have hA' := Lib.hid hA
    clear hc hT hA
    by_cases h0 : a2 = 0
    · have h0b : (a2 != 0) = false := by simpa using h0
      clear h0
      obtain ⟨Ab, cb, As, cs, rfl, hP', hBn, hSz, hlb, hls⟩ := openPl hp
      obtain ⟨A0, c0, A1, c1, A2, c2, A3, c3, A4, c4, A5, c5, A6, c6, rfl, hV, hN, hO, hH, hM, hI, hU, hX, hl0, hl1, hl2, hl3, hl4, hl5, hl6⟩ := openOne hv
      go_enter Tryz.func6, Tryz.ntmps6
      go_wp2_with fail
      obtain ⟨W0, hW0, hb0, hsz0, hsz1, hsE, hK⟩ := boxesTwo w p s Ab cb As cs A0 c0 A1 c1 A2 c2 A3 c3 A4 c4 A5 c5 A6 c6
      rw [hW0]
      clear hW0
      obtain ⟨⟨y0, y1⟩, x0, x1, x2, x3, x4, x5, x6, hbz0, hbz1⟩ := hK.out W0 (Below.refl W0.heap.size W0)
      go_wp2_with fail
      clear y0 y1 x0 x1 x2 x3 x4 x5 x6 hbz0 hbz1
      refine (sAvailAt _ _ _ (hP'.out _ hb0) (hV.out _ hb0) hA'.out).mono ?_
      rintro e Wa ⟨rfl, ha⟩
      have hBa := hb0.trans (ha.mono hb0.size)
      obtain ⟨⟨y0, y1⟩, x0, x1, x2, x3, x4, x5, x6, hbz0, hbz1⟩ := hK.out Wa (ha)
      go_wp2_with fail
      clear y0 y1 x0 x1 x2 x3 x4 x5 x6 hbz0 hbz1
      refine (ctCountAt hT'.out _ _ _ (hP'.out _ hBa) (hV.out _ hBa)).mono ?_
      rintro e W1 ⟨V1, rfl, ho1, hb1⟩
      have hone2 := (ho1).one
      have hnb2 := newBox (W1)
      go_wp2_with (refine wpList_store_state rfl (.tmp 13) (.tmp 33) rfl rfl (World.heap (W1)).size nilSV V1 hnb2 rfl rfl hone2 (fun w2 hbox2 hg2 => ?_); refine Hid.out ?_)
      unfold Hid
      have hbb2 := newBelow hg2
      have hbl2 := hbox2.lt
      clear hone2 hnb2 hg2
      have hB2 := hBa.trans ((hb1.trans (hbb2.mono hb1.size)).mono hBa.size)
      clear hbox2 ho1 hb1 hbb2
      go_wp2_with fail
      refine (countBegun _).mono ?_
      rintro e W9 ⟨rfl, h9⟩
      go_wp2_with fail
      go_ret
      exact ⟨rfl, hB2.trans (h9.mono hB2.size)⟩
    · have h0b : (a2 != 0) = true := by simpa using h0
      clear h0
      obtain ⟨Ab, cb, As, cs, rfl, hP', hBn, hSz, hlb, hls⟩ := openPl hp
      obtain ⟨A0, c0, A1, c1, A2, c2, A3, c3, A4, c4, A5, c5, A6, c6, rfl, hV, hN, hO, hH, hM, hI, hU, hX, hl0, hl1, hl2, hl3, hl4, hl5, hl6⟩ := openOne hv
      go_enter Tryz.func6, Tryz.ntmps6
      go_wp2_with fail
      obtain ⟨W0, hW0, hb0, hsz0, hsz1, hsE, hK⟩ := boxesTwo w p s Ab cb As cs A0 c0 A1 c1 A2 c2 A3 c3 A4 c4 A5 c5 A6 c6
      rw [hW0]
      clear hW0
      obtain ⟨⟨y0, y1⟩, x0, x1, x2, x3, x4, x5, x6, hbz0, hbz1⟩ := hK.out W0 (Below.refl W0.heap.size W0)
      go_wp2_with fail
      clear y0 y1 x0 x1 x2 x3 x4 x5 x6 hbz0 hbz1
      refine (sAvailAt _ _ _ (hP'.out _ hb0) (hV.out _ hb0) hA'.out).mono ?_
      rintro e Wa ⟨rfl, ha⟩
      have hBa := hb0.trans (ha.mono hb0.size)
      obtain ⟨⟨y0, y1⟩, x0, x1, x2, x3, x4, x5, x6, hbz0, hbz1⟩ := hK.out Wa (ha)
      go_wp2_with fail
      clear y0 y1 x0 x1 x2 x3 x4 x5 x6 hbz0 hbz1
      refine (ctCountAt hT'.out _ _ _ (hP'.out _ hBa) (hV.out _ hBa)).mono ?_
      rintro e W1 ⟨V1, rfl, ho1, hb1⟩
      have hone2 := (ho1).one
      have hnb2 := newBox (W1)
      go_wp2_with (refine wpList_store_state rfl (.tmp 13) (.tmp 33) rfl rfl (World.heap (W1)).size nilSV V1 hnb2 rfl rfl hone2 (fun w2 hbox2 hg2 => ?_); refine Hid.out ?_)
      unfold Hid
      have hbb2 := newBelow hg2
      have hbl2 := hbox2.lt
      clear hone2 hnb2 hg2
      have hB2 := hBa.trans ((hb1.trans (hbb2.mono hb1.size)).mono hBa.size)
      clear hbox2 ho1 hb1 hbb2
      go_wp2_with fail
      refine (countBegun _).mono ?_
      rintro e W9 ⟨rfl, h9⟩
      go_wp2_with fail
      go_ret
      exact ⟨rfl, hB2.trans (h9.mono hB2.size)⟩
end Wh
