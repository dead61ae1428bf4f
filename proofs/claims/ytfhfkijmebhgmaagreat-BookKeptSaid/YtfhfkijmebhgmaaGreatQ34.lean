/- Texts of the claim, joined: LogB, Open, OpenT, OpenH, OpenS, OpenA. -/
import Derived.SizedLaws
import Derived.Deep.Slices
import Derived.Deep.Fields
import Derived.ChangeSame
import Derived.ChangeOld
import Derived.Carry
import Derived.Test.YtfhfkijmebhgmaaGreatChecked
import Derived.KernelRfl
import Derived.Test.YtfhfkijmebhgmaaGreatQ32
import Derived.Test.YtfhfkijmebhgmaaGreatQ33
import Derived.Test.YtfhfkijmebhgmaaGreatQ31
import Derived.Test.YtfhfkijmebhgmaaGreatQ22
import Derived.Test.YtfhfkijmebhgmaaGreatQ01
import Derived.Test.YtfhfkijmebhgmaaGreatQ02
import Derived.Test.YtfhfkijmebhgmaaGreatQ07
namespace Wh
open Go Go.RowKit Go.Shelf Go.Proofs
attribute [local go_sem] run_indexAt_letter evL_tmp evL_const evL_func

theorem deed_small (p : Plan) (s : State) (x : Deed) : small (act p s x).1 = true := by
  by_cases h : (act p s x).2 = 0
  · exact check_small (act_kept h).2.check
  · have : (act p s x).1 = dState := by
      have f : ∀ {r : State × Int}, (r.2 ≠ 0 → r.1 = dState) → r.2 ≠ 0 → r.1 = dState := fun h h2 => h h2
      revert h
      unfold act
      split
      · unfold receive; repeat' split
        all_goals (intro h; first | rfl | exact absurd rfl h)
      split
      · unfold enter; repeat' split
        all_goals (intro h; first | rfl | exact absurd rfl h)
      split
      · unfold release; repeat' split
        all_goals (intro h; first | rfl | exact absurd rfl h)
      split
      · unfold cancel; repeat' split
        all_goals (intro h; first | rfl | exact absurd rfl h)
      split
      · unfold pick; repeat' split
        all_goals (intro h; first | rfl | exact absurd rfl h)
      split
      · unfold fill; repeat' split
        all_goals (intro h; first | rfl | exact absurd rfl h)
      split
      · unfold moved; repeat' split
        all_goals (intro h; first | rfl | exact absurd rfl h)
      split
      · unfold count; repeat' split
        all_goals (intro h; first | rfl | exact absurd rfl h)
      intro _; rfl
    rw [this]
    decide
theorem lgDoAt {p : Plan} {s y : State} {x : Deed} {c : Int} (h : act p s x = (y, c)) (w : World) (v vs vd : Value) (hp : PlanV w w.heap.size v p) (hv : StateV w w.heap.size vs s) (hd : DeedV w w.heap.size vd x) :
    Calls Tryz.prog 17 #[v, vs, vd] w fun e w' => ∃ V : SV, e = .returned (.tuple #[V.val, .int .i64 c]) ∧ OwnSt w' w.heap.size V y ∧ Below w.heap.size w w' := by
  have := lgDo w v vs vd p s x hp hv hd
  rw [h] at this
  exact this
theorem bkTotalsAt {p : Plan} {s : State} (h : checkState p s = 0) (w : World) (v vs : Value) (hp : PlanV w w.heap.size v p) (hv : StateV w w.heap.size vs s) :
    Calls Tryz.prog 27 #[v, vs] w fun e w' => ∃ u, e = .returned (.tuple #[u, .int .i64 0]) ∧ Own cTotal 4 60 w' w.heap.size u (totsTo s p.sizes.length s.orders.length 0) ∧ Below w.heap.size w w' := by
  have := bkTotals w v vs p s hp hv
  rw [totalsE_ok h, h] at this
  exact this
/-- What the law asks of one good. -/
structure KeptOne (s t : State) (g : Nat) : Prop where
  on : (tot t g t.orders.length 0).on - (tot s g s.orders.length 0).on = (intAt t.inn g - intAt s.inn g) - (intAt t.out g - intAt s.out g) + (intAt t.fixed g - intAt s.fixed g)
  held : (tot t g t.orders.length 0).held ≤ (tot t g t.orders.length 0).on
  got : (tot s g s.orders.length 0).got ≤ (tot t g t.orders.length 0).got
  out : intAt t.out g - intAt s.out g = (tot t g t.orders.length 0).got - (tot s g s.orders.length 0).got
  r1 : 0 ≤ intAt s.inn g ∧ intAt s.inn g ≤ 1048576
  r2 : 0 ≤ intAt s.out g ∧ intAt s.out g ≤ 1048576
  r3 : -1048576 ≤ intAt s.fixed g ∧ intAt s.fixed g ≤ 1048576
  r4 : 0 ≤ intAt t.inn g ∧ intAt t.inn g ≤ 1048576
  r5 : 0 ≤ intAt t.out g ∧ intAt t.out g ≤ 1048576
  r6 : -1048576 ≤ intAt t.fixed g ∧ intAt t.fixed g ≤ 1048576
  r7 : (tot s g s.orders.length 0).on = intAt s.inn g - intAt s.out g + intAt s.fixed g
theorem kept_one {p : Plan} {s y : State} {x : Deed} (h : act p s x = (y, 0)) {g : Nat} (hg : g < p.sizes.length) : KeptOne s y g := by
  have h0 : (act p s x).2 = 0 := by rw [h]
  obtain ⟨hc, hk⟩ := act_kept h0
  rw [h] at hk
  simp only at hk
  have h1 := (right_of_check hc).sum hg
  have h2 := (right_of_check hk.check).sum hg
  obtain ⟨h3, h4⟩ := hk.went g hg
  have h5 := held_there hk.check hg
  have s1 := (right_of_check hc).sane
  have s2 := (right_of_check hk.check).sane
  have e1 : (tot s g s.orders.length 0).on = sumOf s.on g := rfl
  have e2 : (tot y g y.orders.length 0).on = sumOf y.on g := rfl
  have e3 : (tot s g s.orders.length 0).got = gotOf s g := rfl
  have e4 : (tot y g y.orders.length 0).got = gotOf y g := rfl
  exact ⟨by rw [e1, e2, h1, h2]; omega, h5, by rw [e3, e4]; exact h4, by rw [e3, e4]; exact h3, s1.inn.2 hg, s1.out.2 hg, s1.fixed.2 hg, s2.inn.2 hg, s2.out.2 hg, s2.fixed.2 hg, by rw [e1, h1]⟩
theorem OwnSt.intOwn {w : World} {base : Nat} {v : Value} {l : List Int} (h : Own cInt 1 3 w base v l) {g : Nat} (hg : g < l.length) {gi n c : Nat} (hv : v = .slice (some ⟨gi, 0, none⟩) n c) : gi < w.heap.size ∧ w.cell? ⟨gi, g, none⟩ = some (.int .i64 (intAt l g)) := by
  obtain ⟨gr, c', cur, e, _, hb, hc⟩ := OwnSt.intAtOwn h hg
  rw [hv] at e
  injection e with e
  injection e with e
  injection e with e
  subst e
  exact ⟨hb.lt, hc⟩

set_option maxHeartbeats 20000000 in
set_option maxRecDepth 100000 in
theorem bookKeptWalk (w : World) (v vs vd : Value) (p : Plan) (s : State) (x : Deed) (hp : PlanV w w.heap.size v p) (hv : StateV w w.heap.size vs s) (hd : DeedV w w.heap.size vd x) :
    Calls Tryz.prog 7 #[v, vs, vd] w fun e w' => e = .returned (.bool true) ∧ Below w.heap.size w w' := by
  obtain ⟨y, c, hT⟩ : ∃ y c, act p s x = (y, c) := ⟨_, _, rfl⟩
  have hT' := Lib.hid hT
  have hsm := Lib.hid (show small y = true by have := deed_small p s x; rwa [hT] at this)
  obtain ⟨Ab, cb, As, cs, rfl, hP', hBn, hSz, hlb, hls⟩ := openPl hp
  obtain ⟨A0, c0, A1, c1, A2, c2, A3, c3, A4, c4, A5, c5, A6, c6, rfl, hV, hN, hO, hH, hM, hI, hU, hX, hl0, hl1, hl2, hl3, hl4, hl5, hl6⟩ := openOne hv
  obtain ⟨Al, cl, rfl, hDV, hLn, hll⟩ := openDeed hd
  clear hd hp hv
  go_enter Tryz.func7, Tryz.ntmps7
  go_wp2_with fail
  obtain ⟨W0, hW0, hb0, hsE, hK, hD⟩ := boxesDeed w p s Ab cb As cs A0 c0 A1 c1 A2 c2 A3 c3 A4 c4 A5 c5 A6 c6 x.kind x.a x.b x.c x.n Al x.lines.length cl
  rw [hW0]
  clear hW0 hD
  by_cases hc : c = 0
  · subst hc
    have hone := Lib.hid (fun g hg => kept_one hT (g := g) hg)
    have hcs := (act_kept (p := p) (s := s) (x := x) (by rw [hT])).1
    have hcy := (act_kept (p := p) (s := s) (x := x) (by rw [hT])).2.check
    rw [hT] at hcy
    simp only at hcy
    have hcs' := Lib.hid hcs
    have hcy' := Lib.hid hcy
    have hsn := Lib.hid (checkState_zero.1 hcs).1
    have hsx := Lib.hid (checkState_zero.1 hcy).1
    have hp1 := hsn.out.counts
    clear hT hcs hcy
    refine (lgDoAt hT'.out _ _ _ _ (hP'.out _ hb0) (hV.out _ hb0) (hDV.out _ hb0)).mono ?_
    rintro e W1 ⟨V1, rfl, ho1, hb1⟩
    obtain ⟨gi, ci, _, ei, _, _, _⟩ := OwnSt.intAtOwn ho1.inn (g := 0) (by rw [hsx.out.inn.1]; omega)
    obtain ⟨gu, cu, _, eu, _, _, _⟩ := OwnSt.intAtOwn ho1.out (g := 0) (by rw [hsx.out.out.1]; omega)
    obtain ⟨gx, cx, _, ex, _, _, _⟩ := OwnSt.intAtOwn ho1.fixed (g := 0) (by rw [hsx.out.fixed.1]; omega)
    rw [hsx.out.inn.1] at ei
    rw [hsx.out.out.1] at eu
    rw [hsx.out.fixed.1] at ex
    obtain ⟨b0, b1, b2, b3, b4, b5, b6, b7, b8⟩ := V1
    obtain rfl : b4 = .slice (some ⟨gi, 0, none⟩) p.sizes.length ci := ei
    obtain rfl : b5 = .slice (some ⟨gu, 0, none⟩) p.sizes.length cu := eu
    obtain rfl : b6 = .slice (some ⟨gx, 0, none⟩) p.sizes.length cx := ex
    have hone2 := (ho1).one
    have hnb2 := newBox (W1)
    go_wp2_with (refine wpList_store_state rfl (.tmp 7) (.tmp 19) rfl rfl (World.heap (W1)).size nilSV (⟨b0, b1, b2, b3, .slice (some ⟨gi, 0, none⟩) p.sizes.length ci, .slice (some ⟨gu, 0, none⟩) p.sizes.length cu, .slice (some ⟨gx, 0, none⟩) p.sizes.length cx, b7, b8⟩ : SV) hnb2 rfl rfl hone2 (fun w2 hbox2 hg2 => ?_); refine Hid.out ?_)
    unfold Hid
    have hbb2 := newBelow hg2
    have hbl2 := hbox2.lt
    clear hone2 hnb2 hg2
    have h02 := hb1.trans (hbb2.mono hb1.size)
    have hB2 := hb0.trans (h02.mono hb0.size)
    have hO2 := Lib.hid (ho1.below hbb2)
    have hv2 := Lib.hid (hO2.out.view0 hsm.out)
    have hbox2' := Lib.hid hbox2
    clear hbox2 ho1 hb1 hbb2
    have hbl2' : W1.heap.size < w2.heap.size := hbl2
    generalize W1.heap.size = bx at hbox2' hbl2 hbl2' ⊢
    obtain ⟨⟨y0, y1⟩, x0, x1, x2, x3, x4, x5, x6, hbz0, hbz1⟩ := hK.out w2 (h02)
    go_wp2_with fail
    clear y0 y1 x0 x1 x2 x3 x4 x5 x6 hbz0 hbz1
    refine (bkTotalsAt hcs'.out _ _ _ (hP'.out _ hB2) (hV.out _ hB2)).mono ?_
    rintro e W3 ⟨u3, rfl, hT3, h3⟩
    obtain ⟨B1, d1, ev⟩ := hT3.isSlice
    rw [totsTo_length] at ev
    subst ev
    have hT3' := Lib.hid hT3
    clear hT3
    have h03 := h02.trans (h3.mono h02.size)
    have hB3 := hb0.trans (h03.mono hb0.size)
    obtain ⟨p0, p1, p2, p3, p4, p5, p6⟩ := (hbox2'.out.below h3 hbl2).cells
    simp only at p0 p1 p2 p3 p4 p5 p6
    obtain ⟨⟨y0, y1⟩, x0, x1, x2, x3, x4, x5, x6, hbz0, hbz1⟩ := hK.out W3 (h03)
    go_wp2_with fail
    clear y0 y1 x0 x1 x2 x3 x4 x5 x6 hbz0 hbz1
    clear p0 p1 p2 p3 p4 p5 p6
    refine (bkTotalsAt hcy'.out _ _ _ (hP'.out _ hB3) (hv2.out.grow h3)).mono ?_
    rintro e W5 ⟨u5, rfl, hT5, h5⟩
    obtain ⟨B2, d2, ev⟩ := hT5.isSlice
    rw [totsTo_length] at ev
    subst ev
    have hA1 := Lib.hid ((hT3'.out.below h5).sl (by rw [totsTo_length]; omega)).at_
    have hA2 := Lib.hid (hT5.sl (by rw [totsTo_length]; omega)).at_
    have h25 := h3.trans (h5.mono h3.size)
    have h05 := h02.trans (h25.mono h02.size)
    have hB5 := hb0.trans (h05.mono hb0.size)
    have tb5 := Nat.lt_of_lt_of_le hbl2' h25.size
    clear hT5 hT3' h03 hB3 h3 h5
    have q4 : ((s.inn.length : Int) != (p.sizes.length : Int)) = false := by rw [hsn.out.inn.1]; simp
    have q5 : ((s.out.length : Int) != (p.sizes.length : Int)) = false := by rw [hsn.out.out.1]; simp
    have q6 : ((s.fixed.length : Int) != (p.sizes.length : Int)) = false := by rw [hsn.out.fixed.1]; simp
    obtain ⟨_, _, _, _, p4, p5, p6⟩ := (hbox2'.out.below h25 hbl2).cells
    simp only at p4 p5 p6
    obtain ⟨⟨y0, y1⟩, x0, x1, x2, x3, x4, x5, x6, hbz0, hbz1⟩ := hK.out W5 (h05)
    go_wp2_with fail
    clear y0 y1 x0 x1 x2 x3 x4 x5 x6 hbz0 hbz1
    clear p4 p5 p6 q4 q5 q6 tb5
    have hpl3 := hp1.2.2.2
    clear hp1
    have h55 := Below.refl W5.heap.size W5
    go_loopw [13] (fun k' wr => ∃ k : Nat, k ≤ p.sizes.length ∧ k' = .int .i64 k ∧ Below W5.heap.size W5 wr) (fun k' _ => p.sizes.length - (RowKit.intOf k').toNat)
    case atStart => exact ⟨0, Nat.zero_le _, rfl, h55⟩
    case round =>
      clear h55
      obtain ⟨k, hk, rfl, h5r⟩ := hrel
      have h2r := h25.trans (h5r.mono h25.size)
      have h0r := h02.trans (h2r.mono h02.size)
      have hBr := hb0.trans (h0r.mono hb0.size)
      by_cases hk1 : k < p.sizes.length
      · have hki : (k : Int) < (p.sizes.length : Int) := by omega
        have i4 : (k : Int) < (s.inn.length : Int) := by rw [hsn.out.inn.1]; exact hki
        have i5 : (k : Int) < (s.out.length : Int) := by rw [hsn.out.out.1]; exact hki
        have i6 : (k : Int) < (s.fixed.length : Int) := by rw [hsn.out.fixed.1]; exact hki
        obtain ⟨m1, m2, m3, m4, r1, r2, r3, r4, r5, r6, r7⟩ := hone.out k hk1
        obtain ⟨o1, l1, e0, e1, e2, e3⟩ := (hA1.out.up h5r h5r.size).total (i := k) (by rw [totsTo_length]; exact hk1) (totsTo_get _ _ _ _ _)
        obtain ⟨o2, l2, f0, f1, f2, f3⟩ := (hA2.out.up h5r h5r.size).total (i := k) (by rw [totsTo_length]; exact hk1) (totsTo_get _ _ _ _ _)
        obtain ⟨o4, l4, s4⟩ := (hI.out wr hBr).at_.int (i := k) (by rw [hsn.out.inn.1]; exact hk1)
        obtain ⟨o5, l5, s5⟩ := (hU.out wr hBr).at_.int (i := k) (by rw [hsn.out.out.1]; exact hk1)
        obtain ⟨o6, l6, s6⟩ := (hX.out wr hBr).at_.int (i := k) (by rw [hsn.out.fixed.1]; exact hk1)
        change wr.cell? _ = some (.int .i64 (intAt s.inn k)) at s4
        change wr.cell? _ = some (.int .i64 (intAt s.out k)) at s5
        change wr.cell? _ = some (.int .i64 (intAt s.fixed k)) at s6
        obtain ⟨t4, t4'⟩ := OwnSt.intOwn (hO2.out.below h2r).inn (g := k) (by rw [hsx.out.inn.1]; exact hk1) rfl
        obtain ⟨t5, t5'⟩ := OwnSt.intOwn (hO2.out.below h2r).out (g := k) (by rw [hsx.out.out.1]; exact hk1) rfl
        obtain ⟨t6, t6'⟩ := OwnSt.intOwn (hO2.out.below h2r).fixed (g := k) (by rw [hsx.out.fixed.1]; exact hk1) rfl
        clear e1 e2 f2
        generalize (tot s k s.orders.length 0).on = a1 at e0 m1 r7
        generalize (tot y k y.orders.length 0).on = a2 at f0 m1 m2
        generalize (tot y k y.orders.length 0).held = a3 at f1 m2
        generalize (tot s k s.orders.length 0).got = a4 at e3 m3 m4
        generalize (tot y k y.orders.length 0).got = a5 at f3 m3 m4
        generalize intAt s.inn k = si at s4 m1 r1 r7
        generalize intAt s.out k = su at s5 m1 m4 r2 r7
        generalize intAt s.fixed k = sx at s6 m1 r3 r7
        generalize intAt y.inn k = ti at t4' m1 r4
        generalize intAt y.out k = tu at t5' m1 m4 r5
        generalize intAt y.fixed k = tx at t6' m1 r6
        obtain ⟨z1, hz1⟩ : ∃ z, a2 - a1 = z := ⟨_, rfl⟩
        obtain ⟨z2, hz2⟩ : ∃ z, ti - si = z := ⟨_, rfl⟩
        obtain ⟨z3, hz3⟩ : ∃ z, tu - su = z := ⟨_, rfl⟩
        obtain ⟨z4, hz4⟩ : ∃ z, z2 - z3 = z := ⟨_, rfl⟩
        obtain ⟨z5, hz5⟩ : ∃ z, tx - sx = z := ⟨_, rfl⟩
        have w1 : IntKind.i64.wrap (a2 - a1) = z1 := by rw [IntWalk.i64_in _ (by omega)]; exact hz1
        have w2' : IntKind.i64.wrap (ti - si) = z2 := by rw [IntWalk.i64_in _ (by omega)]; exact hz2
        have w3 : IntKind.i64.wrap (tu - su) = z3 := by rw [IntWalk.i64_in _ (by omega)]; exact hz3
        have w4 : IntKind.i64.wrap (z2 - z3) = z4 := by rw [IntWalk.i64_in _ (by omega)]; exact hz4
        have w5 : IntKind.i64.wrap (tx - sx) = z5 := by rw [IntWalk.i64_in _ (by omega)]; exact hz5
        have w6 : IntKind.i64.wrap (z4 + z5) = z1 := by rw [IntWalk.i64_in _ (by omega)]; omega
        have w7 : IntKind.i64.wrap (a5 - a4) = z3 := by rw [IntWalk.i64_in _ (by omega)]; omega
        have g1 : decide (a2 < a3) = false := decide_eq_false (by omega)
        have g2 : decide (a5 < a4) = false := decide_eq_false (by omega)
        clear m1 m2 m3 m4 r1 r2 r3 r4 r5 r6 r7 hz1 hz2 hz3 hz4 hz5
        obtain ⟨_, _, _, _, p4, p5, p6⟩ := (hbox2'.out.below h2r hbl2).cells
        simp only at p4 p5 p6
        have tb := Nat.lt_of_lt_of_le hbl2' h2r.size
        obtain ⟨⟨y0, y1⟩, x0, x1, x2, x3, x4, x5, x6, hbz0, hbz1⟩ := hK.out wr (h0r)
        go_wp2_with fail
        refine wp_region_quiet_lit (by kernel_rfl) (lexB_of (by kernel_rfl) (by kernel_rfl)) ?_
        repeat (go_big_quiet_step (fail))
        refine wpQuiet_nil ?_
        intro _ hw'
        obtain ⟨nq, hw''⟩ := hw'
        subst hw''
        have h5q := below_drewN h5r nq
        clear y0 y1 x0 x1 x2 x3 x4 x5 x6 hbz0 hbz1
        clear p4 p5 p6 e0 e3 f0 f1 f3 s4 s5 s6 t4' t5' t6' w1 w2' w3 w4 w5 w6 w7 g1 g2
        go_wp2_with fail
        go_roundw
        case rel => exact ⟨k + 1, by omega, by go_num, h5q⟩
        case measure => simp [RowKit.intOf]; omega
      · obtain rfl : k = p.sizes.length := by omega
        go_wp2_with fail
        refine (bookBegun _).mono ?_
        rintro e W9 ⟨rfl, h9⟩
        go_wp2_with fail
        go_ret
        exact ⟨rfl, hBr.trans (h9.mono hBr.size)⟩
  · have hne : (c != 0) = true := by simpa using hc
    clear hc hT
    refine (lgDoAt hT'.out _ _ _ _ (hP'.out _ hb0) (hV.out _ hb0) (hDV.out _ hb0)).mono ?_
    rintro e W1 ⟨V1, rfl, ho1, hb1⟩
    have hone2 := (ho1).one
    have hnb2 := newBox (W1)
    go_wp2_with (refine wpList_store_state rfl (.tmp 7) (.tmp 19) rfl rfl (World.heap (W1)).size nilSV V1 hnb2 rfl rfl hone2 (fun w2 hbox2 hg2 => ?_); refine Hid.out ?_)
    unfold Hid
    have hbb2 := newBelow hg2
    have hbl2 := hbox2.lt
    clear hone2 hnb2 hg2
    have hB2 := hb0.trans ((hb1.trans (hbb2.mono hb1.size)).mono hb0.size)
    clear hbox2 ho1 hb1 hbb2
    go_wp2_with fail
    refine (bookBegun _).mono ?_
    rintro e W9 ⟨rfl, h9⟩
    go_wp2_with fail
    go_ret
    exact ⟨rfl, hB2.trans (h9.mono hB2.size)⟩
end Wh
namespace Wh
open Go Go.RowKit Go.ChangeShapes Go.WideShapes Go.Deep

theorem cell_lt {w : World} {a : Addr} {v : Value} (h : w.cell? a = some v) : a.block < w.heap.size := by
  by_cases hlt : a.block < w.heap.size
  · exact hlt
  · unfold World.cell? at h
    rw [Array.getElem?_eq_none (by omega)] at h
    simp at h

section
variable {H : Type} {en : TypeId × Value → H} {P : Program} {w : World} {base : Nat} {sp : Nat → Bool} {hd : Bool}

/-- Reads, and each of its slices is within the reach. -/
def Rd (en : TypeId × Value → H) (P : Program) (w : World) (base : Nat) (sp : Nat → Bool) (hd : Bool) (t : TypeId) (cs : List Value) : Prop :=
  ∃ (n : Nat) (x : DataW H × List MemPlace), DataW.trod en P w base sp hd n t cs = some x ∧ ∀ k ∈ x.1.weights P t, k ≤ reachBytes

theorem Rd.int {t : TypeId} {cs : List Value} (ht : P.underlying t = some (.int .i64)) (h : Rd en P w base sp hd t cs) : ∃ n, cs = [.int .i64 n] := by
  obtain ⟨n, x, h, _⟩ := h
  obtain ⟨m, hm, _⟩ := DataW.trod_int ht h
  exact ⟨m, hm⟩
theorem Rd.bool {t : TypeId} {cs : List Value} (ht : P.underlying t = some .bool) (h : Rd en P w base sp hd t cs) : ∃ b, cs = [.bool b] := by
  obtain ⟨n, x, h, _⟩ := h
  obtain ⟨m, hm, _⟩ := DataW.trod_bool ht h
  exact ⟨m, hm⟩

theorem Rd.fields {t : TypeId} {fs : Array Field} {cs : List Value} (hs : P.underlying t = some (.struct fs)) (hone : oneCellFields P fs = true) (hC : P.cellsOf t = fs.size) (h : Rd en P w base sp hd t cs) :
    cs.length = fs.size ∧ ∀ (j : Nat) (f : Field), fs[j]? = some f → ∃ v, cs[j]? = some v ∧ Rd en P w base sp hd f.type [v] := by
  obtain ⟨n, x, h, hw⟩ := h
  obtain ⟨xs, m, _, hx, hlen, hxl, hf⟩ := DataW.trod_struct hs h
  rw [hC] at hlen
  refine ⟨hlen, fun j f hj => ?_⟩
  have hjl : j < fs.size := (Array.getElem?_eq_some_iff.1 hj).1
  obtain ⟨ho, hk⟩ := hone_of hone j f hj
  have h1 := hf j f hj
  rw [ho, hk, List.drop_eq_getElem_cons (by omega)] at h1
  have hys : xs[j]? = some (xs[j]'(by omega)) := List.getElem?_eq_getElem (by omega)
  refine ⟨cs[j]'(by omega), List.getElem?_eq_getElem (by omega), m, xs[j]'(by omega), by rw [← hys, ← h1]; rfl, fun k hkm => hw k ?_⟩
  rw [hx]
  simp only [DataW.weights, hs]
  refine DataW.weights_mem_each (j := j) (t := f.type) (d := (xs[j]'(by omega)).1) ?_ ?_ k hkm
  · rw [List.getElem?_map, Array.getElem?_toList, hj]; rfl
  · rw [List.getElem?_map, hys]; rfl

theorem weights_mem_all {e : TypeId} : ∀ {ds : List (DataW H)} {j : Nat} {d : DataW H}, ds[j]? = some d → ∀ n ∈ d.weights P e, n ∈ DataW.weightsAll P e ds
  | d0 :: ds, 0, d, hd, n, hn => by
    simp only [List.getElem?_cons_zero, Option.some.injEq] at hd
    subst hd
    simp only [DataW.weightsAll, List.mem_append]
    exact Or.inl hn
  | d0 :: ds, j + 1, d, hd, n, hn => by
    simp only [List.getElem?_cons_succ] at hd
    simp only [DataW.weightsAll, List.mem_append]
    exact Or.inr (weights_mem_all hd n hn)
  | [], _, _, hd, _, _ => by simp at hd

/-- A slice's elements, each by itself. -/
theorem Rd.slice {t e : TypeId} {k : Nat} {cs : List Value} (ht : P.underlying t = some (.slice e)) (hC : P.cellsOf e = k) (hB : 0 < P.bytesOf e) (h : Rd en P w base sp hd t cs) :
    ∃ (A : Option Addr) (len c : Nat), cs = [.slice A len c] ∧ len ≤ 140737488355232 ∧
      ∀ i, i < len → ∃ cs', cs'.length = k ∧ Rd en P w base sp hd e cs' ∧ ∀ j v, cs'[j]? = some v → okA A ∧ ablk A < w.heap.size ∧ w.cell? ⟨ablk A, aoff A + (i * k + j), none⟩ = some v := by
  obtain ⟨n, x, h, hw⟩ := h
  rcases open_slice ht h with ⟨rfl, _⟩ | ⟨a, len, cap, m, n', D, Pl, rfl, _, hl, _, hm, hx, hi⟩
  · exact ⟨none, 0, 0, rfl, by omega, fun i hi => by omega⟩
  · have hlm : len ≤ m := by rw [hm]; split <;> omega
    have hreach : (len + (m - len)) * P.bytesOf e ≤ reachBytes := hw _ (by rw [hx]; simp [DataW.weights, ht])
    have hspot : 0 < len → 0 < k → a.spot = none := fun h1 h2 => by
      obtain ⟨cs', hc, _⟩ := hi 0 (by omega)
      rw [hC] at hc
      obtain ⟨_, hcl, hat⟩ := World.cells?_some hc
      have hcell := hat 0 h2
      rw [List.getElem?_eq_getElem (by omega), add_add] at hcell
      have := World.cell?_spot hcell
      simpa [Addr.add] using this
    refine ⟨some a, len, cap, rfl, ?_, fun i hi' => ?_⟩
    · have h1 : len * 1 ≤ (len + (m - len)) * P.bytesOf e := Nat.mul_le_mul (by omega) hB
      simp only [reachBytes] at hreach
      omega
    · obtain ⟨cs', hc, ht'⟩ := hi i (by omega)
      rw [hC] at hc
      obtain ⟨_, hcl, hat⟩ := World.cells?_some hc
      refine ⟨cs', hcl, ⟨n', _, ht', fun q hq => hw q ?_⟩, fun j v hj => ?_⟩
      · rw [hx]
        simp only [DataW.weights, ht, List.mem_cons, List.mem_append]
        refine .inr (.inl (weights_mem_all (j := i) (d := D i) ?_ q hq))
        rw [List.getElem?_map, List.getElem?_range hi']; rfl
      · have hjl : j < k := by rw [← hcl]; exact (List.getElem?_eq_some_iff.1 hj).1
        have hcell := hat j hjl
        rw [hj, add_add] at hcell
        obtain ⟨b, off, spot⟩ := a
        obtain rfl : spot = none := hspot (by omega) (by omega)
        rw [Addr.add_lit] at hcell
        exact ⟨okA_some _ _, cell_lt (a := ⟨b, off + (i * k + j), none⟩) hcell, hcell⟩

/-- A slice whose elements are all of the form 'enc x'. -/
theorem Rd.sl {α : Type} {enc : α → List Value} {k : Nat} {t e : TypeId} {cs : List Value} [Inhabited α] (ht : P.underlying t = some (.slice e)) (hC : P.cellsOf e = k) (hB : 0 < P.bytesOf e) (hk : ∀ x, (enc x).length = k) (h0 : 0 < k)
    (hel : ∀ cs', cs'.length = k → Rd en P w base sp hd e cs' → ∃ x : α, cs' = enc x) (h : Rd en P w base sp hd t cs) : ∃ v l, cs = [v] ∧ Sl enc w w.heap.size v l := by
  obtain ⟨A, len, c, rfl, hlen, hi⟩ := h.slice ht hC hB
  obtain ⟨X, hX⟩ := choose_lt (α := α) (n := len) (p := fun i x => ∀ j v, (enc x)[j]? = some v → okA A ∧ ablk A < w.heap.size ∧ w.cell? ⟨ablk A, aoff A + (i * k + j), none⟩ = some v) (fun i hil => by
    obtain ⟨cs', h1, h2, h3⟩ := hi i hil
    obtain ⟨x, rfl⟩ := hel cs' h1 h2
    exact ⟨x, h3⟩)
  refine ⟨_, (List.range len).map X, rfl, A, c, by simp, by simpa using hlen, fun hn => ?_⟩
  have hcell : ∀ j v, (((List.range len).map X).flatMap enc)[j]? = some v → okA A ∧ ablk A < w.heap.size ∧ w.cell? ⟨ablk A, aoff A + j, none⟩ = some v := fun j v hj => by
    have hjl : j < len * k := by
      have := (List.getElem?_eq_some_iff.1 hj).1
      rw [flat_length enc k hk] at this
      simpa using this
    have hq : j / k < len := (Nat.div_lt_iff_lt_mul h0).2 hjl
    have e1 : j / k * k + j % k = j := by rw [Nat.mul_comm]; exact Nat.div_add_mod j k
    have e2 := flat_get enc k hk ((List.range len).map X) (j / k) (j % k) (X (j / k)) (by rw [List.getElem?_map, List.getElem?_range hq]; rfl) (Nat.mod_lt _ h0)
    rw [e1, hj] at e2
    have := hX (j / k) hq (j % k) v e2.symm
    rwa [e1] at this
  have hlp : 0 < (((List.range len).map X).flatMap enc).length := List.length_pos_iff.2 hn
  obtain ⟨h1, h2, _⟩ := hcell 0 _ (List.getElem?_eq_getElem hlp)
  exact ⟨h1, h2, fun j v hj => (hcell j v hj).2.2⟩

/-- A slice of one-cell elements, each with a reading of its own. -/
theorem Rd.cells {α : Type} [Inhabited α] {k : Nat} {t e : TypeId} {cs : List Value} {enc : Value → α → List Value} {Q : Value → α → Prop} (ht : P.underlying t = some (.slice e)) (hC : P.cellsOf e = k) (hB : 0 < P.bytesOf e) (hk : ∀ v x, (enc v x).length = k) (h0 : 0 < k)
    (hel : ∀ cs', cs'.length = k → Rd en P w base sp hd e cs' → ∃ (v : Value) (x : α), cs' = enc v x ∧ Q v x) (h : Rd en P w base sp hd t cs) :
    ∃ (A : Option Addr) (c : Nat) (l : List α) (vs : List Value), cs = [.slice A l.length c] ∧ l.length ≤ 140737488355232 ∧ vs.length = l.length ∧ At w w.heap.size A ((l.zip vs).flatMap fun x => enc x.2 x.1) ∧
      ∀ (i : Nat) (x : α), l[i]? = some x → ∃ u, vs[i]? = some u ∧ Q u x := by
  obtain ⟨A, len, c, rfl, hlen, hi⟩ := h.slice ht hC hB
  obtain ⟨X, hX⟩ := choose_lt (α := α × Value) (n := len) (p := fun i x => Q x.2 x.1 ∧ ∀ j v, (enc x.2 x.1)[j]? = some v → okA A ∧ ablk A < w.heap.size ∧ w.cell? ⟨ablk A, aoff A + (i * k + j), none⟩ = some v) (fun i hil => by
    obtain ⟨cs', h1, h2, h3⟩ := hi i hil
    obtain ⟨v, x, rfl, hq⟩ := hel cs' h1 h2
    exact ⟨(x, v), hq, h3⟩)
  refine ⟨A, c, (List.range len).map (fun i => (X i).1), (List.range len).map (fun i => (X i).2), by simp, by simpa using hlen, by simp, ?_, fun i x hix => ?_⟩
  · have hz : ((List.range len).map (fun i => (X i).1)).zip ((List.range len).map (fun i => (X i).2)) = (List.range len).map X := by
      rw [List.zip_map']
    rw [hz]
    intro hn
    have hcell : ∀ j v, (((List.range len).map X).flatMap fun x => enc x.2 x.1)[j]? = some v → okA A ∧ ablk A < w.heap.size ∧ w.cell? ⟨ablk A, aoff A + j, none⟩ = some v := fun j v hj => by
      have hjl : j < len * k := by
        have := (List.getElem?_eq_some_iff.1 hj).1
        rw [flat_length (fun x : α × Value => enc x.2 x.1) k (fun x => hk _ _)] at this
        simpa using this
      have hq : j / k < len := (Nat.div_lt_iff_lt_mul h0).2 hjl
      have e1 : j / k * k + j % k = j := by rw [Nat.mul_comm]; exact Nat.div_add_mod j k
      have e2 := flat_get (fun x : α × Value => enc x.2 x.1) k (fun x => hk _ _) ((List.range len).map X) (j / k) (j % k) (X (j / k)) (by rw [List.getElem?_map, List.getElem?_range hq]; rfl) (Nat.mod_lt _ h0)
      rw [e1, hj] at e2
      have := (hX (j / k) hq).2 (j % k) v e2.symm
      rwa [e1] at this
    have hlp : 0 < (((List.range len).map X).flatMap fun x => enc x.2 x.1).length := List.length_pos_iff.2 hn
    obtain ⟨h1, h2, _⟩ := hcell 0 _ (List.getElem?_eq_getElem hlp)
    exact ⟨h1, h2, fun j v hj => (hcell j v hj).2.2⟩
  · rw [List.getElem?_map] at hix
    obtain ⟨i', hi', rfl⟩ := Option.map_eq_some_iff.1 hix
    have hil : i < len := by
      have := (List.getElem?_eq_some_iff.1 hi').1
      simpa using this
    rw [List.getElem?_range hil] at hi'
    obtain rfl := Option.some.inj hi'
    exact ⟨(X i).2, by rw [List.getElem?_map, List.getElem?_range hil]; rfl, (hX i hil).1⟩

end
end Wh
namespace Wh
open Go Go.RowKit Go.ChangeShapes Go.WideShapes Go.Deep Go.Proofs

instance : Inhabited Bin := ⟨⟨false, 0, 0, 0⟩⟩
instance : Inhabited Hold := ⟨⟨0, 0, 0, 0⟩⟩

def structFields (P : Program) (t : TypeId) : Array Field := match P.underlying t with
  | some (.struct fs) => fs
  | _ => #[]
theorem fields_eq {P : Program} {t : TypeId} (h : (match P.underlying t with | some (.struct _) => true | _ => false) = true) : P.underlying t = some (.struct (structFields P t)) := by
  unfold structFields
  split at h
  · rename_i h'; rw [h']
  · cases h

theorem u_int : Tryz.prog.underlying 3 = some (.int .i64) := by kernel_rfl
theorem u_bool : Tryz.prog.underlying 4 = some .bool := by kernel_rfl
theorem u_ints : Tryz.prog.underlying 23 = some (.slice 3) := by kernel_rfl
theorem u_rows : Tryz.prog.underlying 26 = some (.slice 23) := by kernel_rfl
theorem u_bins : Tryz.prog.underlying 22 = some (.slice 125) := by kernel_rfl
theorem c_int : Tryz.prog.cellsOf 3 = 1 := by kernel_rfl
theorem c_ints : Tryz.prog.cellsOf 23 = 1 := by kernel_rfl
theorem b_int : 0 < Tryz.prog.bytesOf 3 := of_decide_eq_true (by kernel_rfl)
theorem b_ints : 0 < Tryz.prog.bytesOf 23 := of_decide_eq_true (by kernel_rfl)
theorem b_bin : 0 < Tryz.prog.bytesOf 125 := of_decide_eq_true (by kernel_rfl)
theorem s_bin : Tryz.prog.underlying 125 = some (.struct (structFields Tryz.prog 125)) := fields_eq (by kernel_rfl)
theorem o_bin : oneCellFields Tryz.prog (structFields Tryz.prog 125) = true := by kernel_rfl
theorem n_bin : (structFields Tryz.prog 125).size = 4 := by kernel_rfl
theorem c_bin : Tryz.prog.cellsOf 125 = 4 := by kernel_rfl
theorem f_bin : (structFields Tryz.prog 125).toList.map (·.type) = [4, 3, 3, 3] := by kernel_rfl
theorem s_plan : Tryz.prog.underlying 25 = some (.struct (structFields Tryz.prog 25)) := fields_eq (by kernel_rfl)
theorem o_plan : oneCellFields Tryz.prog (structFields Tryz.prog 25) = true := by kernel_rfl
theorem n_plan : (structFields Tryz.prog 25).size = 2 := by kernel_rfl
theorem c_plan : Tryz.prog.cellsOf 25 = 2 := by kernel_rfl
theorem f_plan : (structFields Tryz.prog 25).toList.map (·.type) = [22, 23] := by kernel_rfl

section
variable {H : Type} {en : TypeId × Value → H} {w : World} {base : Nat} {sp : Nat → Bool} {hd : Bool}
theorem Rd.field {P : Program} {t : TypeId} {fs : Array Field} {cs : List Value} {ts : List TypeId} (hs : P.underlying t = some (.struct fs)) (hone : oneCellFields P fs = true) (hC : P.cellsOf t = fs.size) (hf : fs.toList.map (·.type) = ts)
    (h : Rd en P w base sp hd t cs) (j : Nat) (t' : TypeId) (hj : ts[j]? = some t') : ∃ v, cs[j]? = some v ∧ Rd en P w base sp hd t' [v] := by
  subst hf
  rw [List.getElem?_map, Array.getElem?_toList] at hj
  obtain ⟨f, hf, rfl⟩ := Option.map_eq_some_iff.1 hj
  exact (h.fields hs hone hC).2 j f hf
abbrev Rt (en : TypeId × Value → H) (w : World) (base : Nat) (sp : Nat → Bool) (hd : Bool) (t : TypeId) (cs : List Value) : Prop := Rd en Tryz.prog w base sp hd t cs
theorem Rt.ints {cs : List Value} (h : Rt en w base sp hd 23 cs) : ∃ v l, cs = [v] ∧ Sl cInt w w.heap.size v l :=
  Rd.sl u_ints c_int b_int (fun _ => rfl) (by decide) (fun cs' _ h => h.int u_int) h
theorem Rt.rows {cs : List Value} (h : Rt en w base sp hd 26 cs) : ∃ v l, cs = [v] ∧ SlSl cInt w w.heap.size v l := by
  obtain ⟨A, c, l, vs, rfl, h1, h2, h3, h4⟩ := Rd.cells (α := List Int) (k := 1) (enc := fun v _ => [v]) (Q := fun v x => Sl cInt w w.heap.size v x) u_rows c_ints b_ints (fun _ _ => rfl) (by decide) (fun cs' _ h => by
    obtain ⟨v, l, rfl, hs⟩ := Rt.ints h
    exact ⟨v, l, rfl, hs⟩) h
  refine ⟨_, l, rfl, A, c, vs, rfl, h1, h2, ?_, h4⟩
  have : ((l.zip vs).flatMap fun x => [x.2]) = vs := by
    rw [← List.map_eq_flatMap, List.map_snd_zip]
    omega
  rwa [this] at h3
theorem Rt.bin {cs : List Value} (hl : cs.length = 4) (h : Rt en w base sp hd 125 cs) : ∃ b, cs = cBin b := by
  match cs, hl with
  | [v0, v1, v2, v3], _ =>
    obtain ⟨x0, e0, r0⟩ := h.field s_bin o_bin (c_bin.trans n_bin.symm) f_bin 0 _ rfl
    obtain ⟨x1, e1, r1⟩ := h.field s_bin o_bin (c_bin.trans n_bin.symm) f_bin 1 _ rfl
    obtain ⟨x2, e2, r2⟩ := h.field s_bin o_bin (c_bin.trans n_bin.symm) f_bin 2 _ rfl
    obtain ⟨x3, e3, r3⟩ := h.field s_bin o_bin (c_bin.trans n_bin.symm) f_bin 3 _ rfl
    obtain rfl := Option.some.inj e0
    obtain rfl := Option.some.inj e1
    obtain rfl := Option.some.inj e2
    obtain rfl := Option.some.inj e3
    obtain ⟨b0, q0⟩ := r0.bool u_bool
    obtain ⟨b1, q1⟩ := r1.int u_int
    obtain ⟨b2, q2⟩ := r2.int u_int
    obtain ⟨b3, q3⟩ := r3.int u_int
    obtain rfl := (List.cons.inj q0).1
    obtain rfl := (List.cons.inj q1).1
    obtain rfl := (List.cons.inj q2).1
    obtain rfl := (List.cons.inj q3).1
    exact ⟨⟨b0, b1, b2, b3⟩, rfl⟩
theorem Rt.bins {cs : List Value} (h : Rt en w base sp hd 22 cs) : ∃ v l, cs = [v] ∧ Sl cBin w w.heap.size v l :=
  Rd.sl u_bins c_bin b_bin (fun _ => rfl) (by decide) (fun _ hl h => Rt.bin hl h) h
theorem Rt.plan {cs : List Value} (hl : cs.length = 2) (h : Rt en w base sp hd 25 cs) : ∃ v0 v1 p, cs = [v0, v1] ∧ PlanV w w.heap.size (.agg #[v0, v1]) p := by
  match cs, hl with
  | [v0, v1], _ =>
    obtain ⟨x0, e0, r0⟩ := h.field s_plan o_plan (c_plan.trans n_plan.symm) f_plan 0 _ rfl
    obtain ⟨x1, e1, r1⟩ := h.field s_plan o_plan (c_plan.trans n_plan.symm) f_plan 1 _ rfl
    obtain rfl := Option.some.inj e0
    obtain rfl := Option.some.inj e1
    obtain ⟨_, l0, q0, hs0⟩ := Rt.bins r0
    obtain ⟨_, l1, q1, hs1⟩ := Rt.ints r1
    obtain rfl := (List.cons.inj q0).1
    obtain rfl := (List.cons.inj q1).1
    exact ⟨_, _, ⟨l0, l1⟩, rfl, _, _, rfl, hs0, hs1⟩
theorem rd_of {P : Program} {ts : List TypeId} {ds : List (DataW H)} {j : Nat} {t : TypeId} {v : Value} {d : DataW H} {ps : List MemPlace} (hsz : (DataW.weightsEach P ts ds).all (· ≤ reachBytes) = true) (ht : ts[j]? = some t) (hds : ds[j]? = some d)
    (h : DataW.Trod en P w base sp hd t v d ps) : Rd en P w base sp hd t v.cells.toList := by
  obtain ⟨n, hn⟩ := h
  exact ⟨n, _, hn, fun k hk => by simpa using List.all_eq_true.1 hsz _ (DataW.weights_mem_each ht hds k hk)⟩
set_option maxRecDepth 100000 in
theorem plan_of {b0 : Nat} {r : Reach} {v : Value} (hv : Value.okWide Tryz.prog w r b0 25 v) (h : Rt en w base sp hd 25 v.cells.toList) : ∃ p, PlanV w w.heap.size v p := by
  obtain ⟨cs, rfl, hsz⟩ := okWide_struct s_plan hv
  obtain ⟨l⟩ := cs
  obtain ⟨v0, v1, p, e, hp⟩ := Rt.plan (by simpa [Value.cells] using hsz.trans c_plan) h
  have e' : l = [v0, v1] := by simpa [Value.cells] using e
  subst e'
  exact ⟨p, hp⟩
end
end Wh
namespace Wh
open Go Go.RowKit Go.ChangeShapes Go.WideShapes Go.Deep Go.Proofs

theorem u_holds : Tryz.prog.underlying 28 = some (.slice 46) := by kernel_rfl
theorem b_hold : 0 < Tryz.prog.bytesOf 46 := of_decide_eq_true (by kernel_rfl)
theorem s_hold : Tryz.prog.underlying 46 = some (.struct (structFields Tryz.prog 46)) := fields_eq (by kernel_rfl)
theorem o_hold : oneCellFields Tryz.prog (structFields Tryz.prog 46) = true := by kernel_rfl
theorem n_hold : (structFields Tryz.prog 46).size = 4 := by kernel_rfl
theorem c_hold : Tryz.prog.cellsOf 46 = 4 := by kernel_rfl
theorem f_hold : (structFields Tryz.prog 46).toList.map (·.type) = [3, 3, 3, 3] := by kernel_rfl

section
variable {H : Type} {en : TypeId × Value → H} {w : World} {base : Nat} {sp : Nat → Bool} {hd : Bool}
theorem Rt.four_ints {t : TypeId} (s_t : Tryz.prog.underlying t = some (.struct (structFields Tryz.prog t))) (o_t : oneCellFields Tryz.prog (structFields Tryz.prog t) = true) (c_t : Tryz.prog.cellsOf t = (structFields Tryz.prog t).size)
    (f_t : (structFields Tryz.prog t).toList.map (·.type) = [3, 3, 3, 3]) {cs : List Value} (hl : cs.length = 4) (h : Rt en w base sp hd t cs) : ∃ a b c d : Int, cs = [.int .i64 a, .int .i64 b, .int .i64 c, .int .i64 d] := by
  match cs, hl with
  | [v0, v1, v2, v3], _ =>
    obtain ⟨x0, e0, r0⟩ := h.field s_t o_t c_t f_t 0 _ rfl
    obtain ⟨x1, e1, r1⟩ := h.field s_t o_t c_t f_t 1 _ rfl
    obtain ⟨x2, e2, r2⟩ := h.field s_t o_t c_t f_t 2 _ rfl
    obtain ⟨x3, e3, r3⟩ := h.field s_t o_t c_t f_t 3 _ rfl
    obtain rfl := Option.some.inj e0
    obtain rfl := Option.some.inj e1
    obtain rfl := Option.some.inj e2
    obtain rfl := Option.some.inj e3
    obtain ⟨b0, q0⟩ := r0.int u_int
    obtain ⟨b1, q1⟩ := r1.int u_int
    obtain ⟨b2, q2⟩ := r2.int u_int
    obtain ⟨b3, q3⟩ := r3.int u_int
    obtain rfl := (List.cons.inj q0).1
    obtain rfl := (List.cons.inj q1).1
    obtain rfl := (List.cons.inj q2).1
    obtain rfl := (List.cons.inj q3).1
    exact ⟨b0, b1, b2, b3, rfl⟩
theorem Rt.hold {cs : List Value} (hl : cs.length = 4) (h : Rt en w base sp hd 46 cs) : ∃ x, cs = cHold x := by
  obtain ⟨a, b, c, d, rfl⟩ := Rt.four_ints s_hold o_hold (c_hold.trans n_hold.symm) f_hold hl h
  exact ⟨⟨a, b, c, d⟩, rfl⟩
theorem Rt.holds {cs : List Value} (h : Rt en w base sp hd 28 cs) : ∃ v l, cs = [v] ∧ Sl cHold w w.heap.size v l :=
  Rd.sl u_holds c_hold b_hold (fun _ => rfl) (by decide) (fun _ hl h => Rt.hold hl h) h
end
end Wh
namespace Wh
open Go Go.RowKit Go.ChangeShapes Go.WideShapes Go.Deep Go.Proofs
instance : Inhabited Line := ⟨dLine⟩
instance : Inhabited Move := ⟨dMove⟩
instance : Inhabited Order := ⟨dOrder⟩

theorem u_lines : Tryz.prog.underlying 32 = some (.slice 44) := by kernel_rfl
theorem u_moves : Tryz.prog.underlying 29 = some (.slice 48) := by kernel_rfl
theorem u_orders : Tryz.prog.underlying 27 = some (.slice 42) := by kernel_rfl
theorem b_line : 0 < Tryz.prog.bytesOf 44 := of_decide_eq_true (by kernel_rfl)
theorem s_line : Tryz.prog.underlying 44 = some (.struct (structFields Tryz.prog 44)) := fields_eq (by kernel_rfl)
theorem o_line : oneCellFields Tryz.prog (structFields Tryz.prog 44) = true := by kernel_rfl
theorem n_line : (structFields Tryz.prog 44).size = 4 := by kernel_rfl
theorem c_line : Tryz.prog.cellsOf 44 = 4 := by kernel_rfl
theorem f_line : (structFields Tryz.prog 44).toList.map (·.type) = [3, 3, 3, 3] := by kernel_rfl
theorem b_move : 0 < Tryz.prog.bytesOf 48 := of_decide_eq_true (by kernel_rfl)
theorem s_move : Tryz.prog.underlying 48 = some (.struct (structFields Tryz.prog 48)) := fields_eq (by kernel_rfl)
theorem o_move : oneCellFields Tryz.prog (structFields Tryz.prog 48) = true := by kernel_rfl
theorem n_move : (structFields Tryz.prog 48).size = 4 := by kernel_rfl
theorem c_move : Tryz.prog.cellsOf 48 = 4 := by kernel_rfl
theorem f_move : (structFields Tryz.prog 48).toList.map (·.type) = [3, 3, 3, 3] := by kernel_rfl
theorem b_order : 0 < Tryz.prog.bytesOf 42 := of_decide_eq_true (by kernel_rfl)
theorem s_order : Tryz.prog.underlying 42 = some (.struct (structFields Tryz.prog 42)) := fields_eq (by kernel_rfl)
theorem o_order : oneCellFields Tryz.prog (structFields Tryz.prog 42) = true := by kernel_rfl
theorem n_order : (structFields Tryz.prog 42).size = 2 := by kernel_rfl
theorem c_order : Tryz.prog.cellsOf 42 = 2 := by kernel_rfl
theorem f_order : (structFields Tryz.prog 42).toList.map (·.type) = [3, 32] := by kernel_rfl
theorem s_state : Tryz.prog.underlying 31 = some (.struct (structFields Tryz.prog 31)) := fields_eq (by kernel_rfl)
theorem o_state : oneCellFields Tryz.prog (structFields Tryz.prog 31) = true := by kernel_rfl
theorem n_state : (structFields Tryz.prog 31).size = 7 := by kernel_rfl
theorem c_state : Tryz.prog.cellsOf 31 = 7 := by kernel_rfl
theorem f_state : (structFields Tryz.prog 31).toList.map (·.type) = [26, 27, 28, 29, 23, 23, 23] := by kernel_rfl

section
variable {H : Type} {en : TypeId × Value → H} {w : World} {base : Nat} {sp : Nat → Bool} {hd : Bool}
theorem Rt.line {cs : List Value} (hl : cs.length = 4) (h : Rt en w base sp hd 44 cs) : ∃ x, cs = cLine x := by
  obtain ⟨a, b, c, d, rfl⟩ := Rt.four_ints s_line o_line (c_line.trans n_line.symm) f_line hl h
  exact ⟨⟨a, b, c, d⟩, rfl⟩
theorem Rt.move {cs : List Value} (hl : cs.length = 4) (h : Rt en w base sp hd 48 cs) : ∃ x, cs = cMove x := by
  obtain ⟨a, b, c, d, rfl⟩ := Rt.four_ints s_move o_move (c_move.trans n_move.symm) f_move hl h
  exact ⟨⟨a, b, c, d⟩, rfl⟩
theorem Rt.lines {cs : List Value} (h : Rt en w base sp hd 32 cs) : ∃ v l, cs = [v] ∧ Sl cLine w w.heap.size v l :=
  Rd.sl u_lines c_line b_line (fun _ => rfl) (by decide) (fun _ hl h => Rt.line hl h) h
theorem Rt.moves {cs : List Value} (h : Rt en w base sp hd 29 cs) : ∃ v l, cs = [v] ∧ Sl cMove w w.heap.size v l :=
  Rd.sl u_moves c_move b_move (fun _ => rfl) (by decide) (fun _ hl h => Rt.move hl h) h
theorem Rt.order {cs : List Value} (hl : cs.length = 2) (h : Rt en w base sp hd 42 cs) : ∃ (v : Value) (x : Order), cs = [.int .i64 x.kind, v] ∧ Sl cLine w w.heap.size v x.lines := by
  match cs, hl with
  | [v0, v1], _ =>
    obtain ⟨x0, e0, r0⟩ := h.field s_order o_order (c_order.trans n_order.symm) f_order 0 _ rfl
    obtain ⟨x1, e1, r1⟩ := h.field s_order o_order (c_order.trans n_order.symm) f_order 1 _ rfl
    obtain rfl := Option.some.inj e0
    obtain rfl := Option.some.inj e1
    obtain ⟨b0, q0⟩ := r0.int u_int
    obtain ⟨_, l1, q1, hs1⟩ := Rt.lines r1
    obtain rfl := (List.cons.inj q0).1
    obtain rfl := (List.cons.inj q1).1
    exact ⟨_, ⟨b0, l1⟩, rfl, hs1⟩
theorem Rt.orders {cs : List Value} (h : Rt en w base sp hd 27 cs) : ∃ v l, cs = [v] ∧ SlOrders w w.heap.size v l := by
  obtain ⟨A, c, l, vs, rfl, h1, h2, h3, h4⟩ := Rd.cells (α := Order) (k := 2) (enc := fun v x => [.int .i64 x.kind, v]) (Q := fun v x => Sl cLine w w.heap.size v x.lines) u_orders c_order b_order (fun _ _ => rfl) (by decide) (fun cs' hl h => Rt.order hl h) h
  exact ⟨_, l, rfl, A, c, vs, rfl, h1, h2, h3, h4⟩
theorem Rt.state {cs : List Value} (hl : cs.length = 7) (h : Rt en w base sp hd 31 cs) : ∃ s, StateV w w.heap.size (.agg cs.toArray) s := by
  match cs, hl with
  | [v0, v1, v2, v3, v4, v5, v6], _ =>
    obtain ⟨x0, e0, r0⟩ := h.field s_state o_state (c_state.trans n_state.symm) f_state 0 _ rfl
    obtain ⟨x1, e1, r1⟩ := h.field s_state o_state (c_state.trans n_state.symm) f_state 1 _ rfl
    obtain ⟨x2, e2, r2⟩ := h.field s_state o_state (c_state.trans n_state.symm) f_state 2 _ rfl
    obtain ⟨x3, e3, r3⟩ := h.field s_state o_state (c_state.trans n_state.symm) f_state 3 _ rfl
    obtain ⟨x4, e4, r4⟩ := h.field s_state o_state (c_state.trans n_state.symm) f_state 4 _ rfl
    obtain ⟨x5, e5, r5⟩ := h.field s_state o_state (c_state.trans n_state.symm) f_state 5 _ rfl
    obtain ⟨x6, e6, r6⟩ := h.field s_state o_state (c_state.trans n_state.symm) f_state 6 _ rfl
    obtain rfl := Option.some.inj e0
    obtain rfl := Option.some.inj e1
    obtain rfl := Option.some.inj e2
    obtain rfl := Option.some.inj e3
    obtain rfl := Option.some.inj e4
    obtain rfl := Option.some.inj e5
    obtain rfl := Option.some.inj e6
    obtain ⟨_, l0, q0, hs0⟩ := Rt.rows r0
    obtain ⟨_, l1, q1, hs1⟩ := Rt.orders r1
    obtain ⟨_, l2, q2, hs2⟩ := Rt.holds r2
    obtain ⟨_, l3, q3, hs3⟩ := Rt.moves r3
    obtain ⟨_, l4, q4, hs4⟩ := Rt.ints r4
    obtain ⟨_, l5, q5, hs5⟩ := Rt.ints r5
    obtain ⟨_, l6, q6, hs6⟩ := Rt.ints r6
    obtain rfl := (List.cons.inj q0).1
    obtain rfl := (List.cons.inj q1).1
    obtain rfl := (List.cons.inj q2).1
    obtain rfl := (List.cons.inj q3).1
    obtain rfl := (List.cons.inj q4).1
    obtain rfl := (List.cons.inj q5).1
    obtain rfl := (List.cons.inj q6).1
    exact ⟨⟨l0, l1, l2, l3, l4, l5, l6⟩, _, _, _, _, _, _, _, rfl, hs0, hs1, hs2, hs3, hs4, hs5, hs6⟩
set_option maxRecDepth 100000 in
theorem state_of {b0 : Nat} {r : Reach} {v : Value} (hv : Value.okWide Tryz.prog w r b0 31 v) (h : Rt en w base sp hd 31 v.cells.toList) : ∃ s, StateV w w.heap.size v s := by
  obtain ⟨cs, rfl, hsz⟩ := okWide_struct s_state hv
  obtain ⟨s, hs⟩ := Rt.state (by simpa [Value.cells] using hsz.trans c_state) h
  exact ⟨s, by simpa [Value.cells] using hs⟩
end
end Wh
namespace Wh
open Go Go.RowKit Go.ChangeShapes Go.WideShapes Go.Deep Go.Proofs
theorem s_act : Tryz.prog.underlying 34 = some (.struct (structFields Tryz.prog 34)) := fields_eq (by kernel_rfl)
theorem o_act : oneCellFields Tryz.prog (structFields Tryz.prog 34) = true := by kernel_rfl
theorem n_act : (structFields Tryz.prog 34).size = 6 := by kernel_rfl
theorem c_act : Tryz.prog.cellsOf 34 = 6 := by kernel_rfl
theorem f_act : (structFields Tryz.prog 34).toList.map (·.type) = [3, 3, 3, 3, 3, 32] := by kernel_rfl
section
variable {H : Type} {en : TypeId × Value → H} {w : World} {base : Nat} {sp : Nat → Bool} {hd : Bool}
theorem Rt.act {cs : List Value} (hl : cs.length = 6) (h : Rt en w base sp hd 34 cs) : ∃ x, DeedV w w.heap.size (.agg cs.toArray) x := by
  match cs, hl with
  | [v0, v1, v2, v3, v4, v5], _ =>
    obtain ⟨x0, e0, r0⟩ := h.field s_act o_act (c_act.trans n_act.symm) f_act 0 _ rfl
    obtain ⟨x1, e1, r1⟩ := h.field s_act o_act (c_act.trans n_act.symm) f_act 1 _ rfl
    obtain ⟨x2, e2, r2⟩ := h.field s_act o_act (c_act.trans n_act.symm) f_act 2 _ rfl
    obtain ⟨x3, e3, r3⟩ := h.field s_act o_act (c_act.trans n_act.symm) f_act 3 _ rfl
    obtain ⟨x4, e4, r4⟩ := h.field s_act o_act (c_act.trans n_act.symm) f_act 4 _ rfl
    obtain ⟨x5, e5, r5⟩ := h.field s_act o_act (c_act.trans n_act.symm) f_act 5 _ rfl
    obtain rfl := Option.some.inj e0
    obtain rfl := Option.some.inj e1
    obtain rfl := Option.some.inj e2
    obtain rfl := Option.some.inj e3
    obtain rfl := Option.some.inj e4
    obtain rfl := Option.some.inj e5
    obtain ⟨b0, q0⟩ := r0.int u_int
    obtain ⟨b1, q1⟩ := r1.int u_int
    obtain ⟨b2, q2⟩ := r2.int u_int
    obtain ⟨b3, q3⟩ := r3.int u_int
    obtain ⟨b4, q4⟩ := r4.int u_int
    obtain ⟨_, l5, q5, hs5⟩ := Rt.lines r5
    obtain rfl := (List.cons.inj q0).1
    obtain rfl := (List.cons.inj q1).1
    obtain rfl := (List.cons.inj q2).1
    obtain rfl := (List.cons.inj q3).1
    obtain rfl := (List.cons.inj q4).1
    obtain rfl := (List.cons.inj q5).1
    exact ⟨⟨b0, b1, b2, b3, b4, l5⟩, _, rfl, hs5⟩
set_option maxRecDepth 100000 in
theorem act_of {b0 : Nat} {r : Reach} {v : Value} (hv : Value.okWide Tryz.prog w r b0 34 v) (h : Rt en w base sp hd 34 v.cells.toList) : ∃ x, DeedV w w.heap.size v x := by
  obtain ⟨cs, rfl, hsz⟩ := okWide_struct s_act hv
  obtain ⟨x, hx⟩ := Rt.act (by simpa [Value.cells] using hsz.trans c_act) h
  exact ⟨x, by simpa [Value.cells] using hx⟩
end
end Wh
