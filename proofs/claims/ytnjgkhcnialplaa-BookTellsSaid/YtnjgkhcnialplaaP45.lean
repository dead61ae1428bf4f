/- Texts of the claim, joined: RecvL. -/
import Derived.Test.YtnjgkhcnialplaaP41
import Derived.Test.YtnjgkhcnialplaaP44
import Derived.Test.YtnjgkhcnialplaaP37
import Derived.Test.YtnjgkhcnialplaaP21
namespace Wh
open Go Go.RowKit Go.Shelf Go.Proofs
attribute [local go_sem] run_indexAt_letter evL_tmp evL_const evL_func

theorem sane_small {p : Plan} {s : State} (h : Sane p s) : small s = true := by
  have hc := h.counts
  have h4 := h.orders4
  have h8 := h.moves8
  have h72 := ok_len72 h.holds
  unfold small
  simp only [Bool.and_eq_true, decide_eq_true_eq, List.all_eq_true]
  refine ⟨⟨⟨⟨⟨⟨⟨⟨?_, fun r hr => ?_⟩, ?_⟩, fun o ho => ?_⟩, ?_⟩, ?_⟩, ?_⟩, ?_⟩, ?_⟩
  · rw [h.onLen]; omega
  · obtain ⟨i, hi, rfl⟩ := List.getElem_of_mem hr
    have h1 := h.rowLen (b := i) (by rw [← h.onLen]; exact hi)
    rw [rowAt_eq hi] at h1
    omega
  · omega
  · obtain ⟨i, hi, rfl⟩ := List.getElem_of_mem ho
    have h1 := h.lines3 hi
    unfold State.order at h1
    rw [orderAt_eq hi] at h1
    omega
  · omega
  · omega
  · rw [h.inn.1]; omega
  · rw [h.out.1]; omega
  · rw [h.fixed.1]; omega
theorem check_small {p : Plan} {s : State} (h : checkState p s = 0) : small s = true := sane_small (checkState_zero.1 h).1
theorem act_small {p : Plan} {r : State × Int} (h0 : r.2 = 0 → checkState p r.1 = 0) (h1 : r.2 ≠ 0 → r.1 = dState) : small r.1 = true := by
  by_cases h : r.2 = 0
  · exact check_small (h0 h)
  · rw [h1 h]; decide
theorem receive_none {p : Plan} {s : State} {b g n : Int} (h : (receive p s b g n).2 ≠ 0) : (receive p s b g n).1 = dState := by
  unfold receive at h ⊢
  by_cases h1 : checkState p s ≠ 0
  · rw [if_pos h1]
  rw [if_neg h1] at h ⊢
  split
  · rfl
  rename_i h2
  rw [if_neg h2] at h
  split
  · rfl
  rename_i h3
  rw [if_neg h3] at h
  split
  · rfl
  rename_i h4
  rw [if_neg h4] at h
  exact absurd rfl h
theorem enter_none {p : Plan} {s : State} {l : List Line} (h : (enter p s l).2 ≠ 0) : (enter p s l).1 = dState := by
  unfold enter at h ⊢
  by_cases h1 : checkState p s ≠ 0
  · rw [if_pos h1]
  rw [if_neg h1] at h ⊢
  split
  · rfl
  rename_i h2
  rw [if_neg h2] at h
  split
  · rfl
  rename_i h3
  rw [if_neg h3] at h
  split
  · rfl
  rename_i h4
  rw [if_neg h4] at h
  exact absurd rfl h
theorem receive_small (p : Plan) (s : State) (b g n : Int) : small (receive p s b g n).1 = true := act_small (p := p) (fun h => (receive_true h).1) receive_none
theorem enter_small (p : Plan) (s : State) (l : List Line) : small (enter p s l).1 = true := act_small (p := p) (fun h => (enter_true h).1) enter_none

theorem ActPost.at {r : State × Int} {c : Int} (hc : r.2 = c) {w : World} {e : Ending} {w' : World} (h : ActPost r w e w') : ∃ V, e = .returned (.tuple #[V.val, .int .i64 c]) ∧ OwnSt w' w.heap.size V r.1 ∧ Below w.heap.size w w' := by rw [← hc]; exact h
theorem lineLit (w : World) (g n : Int) : Sl cLine (w.alloc (.cells #[.int .i64 g, .int .i64 n, .int .i64 0, .int .i64 0] 75)) (World.heap (w.alloc (.cells #[.int .i64 g, .int .i64 n, .int .i64 0, .int .i64 0] 75))).size (.slice (some ⟨w.heap.size, 0, none⟩) 1 1) [⟨g, n, 0, 0⟩] :=
  (Own.lit (enc := cLine) (size := 4) (base := w.heap.size) w 75 #[.int .i64 g, .int .i64 n, .int .i64 0, .int .i64 0] [⟨g, n, 0, 0⟩] (Nat.le_refl _) (by simp) (fun _ => rfl) rfl).sl (by simp)

set_option maxHeartbeats 4000000 in
set_option maxRecDepth 100000 in
theorem recvBegun (w : World) : Calls Try.prog 35 #[] w fun e w' => e = .returned (.bool true) ∧ Below w.heap.size w w' := by
  go_enter Try.func35, Try.ntmps35
  go_wp2_with fail
  refine (lYard _).mono ?_
  rintro e W1 ⟨u1, rfl, hu1, hb1⟩
  go_wp2_with fail
  refine (lBusy _).mono ?_
  rintro e W2 ⟨V2, rfl, ho2, hb2⟩
  go_wp2_with fail
  refine (recvReceive _ _ _ yardP busyS 1 0 7 (hu1.grow hb2) (ho2.view0 (by decide))).mono ?_
  rintro e W3 hp3
  obtain ⟨V3, rfl, ho3, hb3⟩ := hp3.at (c := 0) (by decide)
  have hB3 := hb1.trans ((hb2.trans (hb3.mono hb2.size)).mono hb1.size)
  have hone4 := (ho3).one
  have hnb4 := newBox (W3)
  go_wp2_with (refine wpList_store_state rfl (.tmp 1) (.tmp 13) rfl rfl (World.heap (W3)).size nilSV V3 hnb4 rfl rfl hone4 (fun w4 hbox4 hg4 => ?_); refine Hid.out ?_)
  unfold Hid
  have hbb4 := newBelow hg4
  have hbl4 := hbox4.lt
  clear hone4 hnb4 hg4
  have hB4 := hB3.trans (hbb4.mono hB3.size)
  have ho4 := Lib.hid (ho3.below hbb4)
  have hbox4' := Lib.hid hbox4
  clear hbox4 hp3 ho3 hu1 ho2 hb1 hb2 hb3 hB3 hbb4
  go_wp2_with fail
  refine (lYard _).mono ?_
  rintro e W5 ⟨u5, rfl, hu5, hb5⟩
  go_wp2_with fail
  refine (lBusy _).mono ?_
  rintro e W6 ⟨V6, rfl, ho6, hb6⟩
  go_wp2_with fail
  refine (recvReceive _ _ _ yardP busyS 1 0 8 (hu5.grow hb6) (ho6.view0 (by decide))).mono ?_
  rintro e W7 hp7
  obtain ⟨V7, rfl, ho7, hb7⟩ := hp7.at (c := 5) (by decide)
  have hB7 := hb5.trans ((hb6.trans (hb7.mono hb6.size)).mono hb5.size)
  have hone8 := (ho7).one
  have hnb8 := newBox (W7)
  go_wp2_with (refine wpList_store_state rfl (.tmp 3) (.tmp 19) rfl rfl (World.heap (W7)).size nilSV V7 hnb8 rfl rfl hone8 (fun w8 hbox8 hg8 => ?_); refine Hid.out ?_)
  unfold Hid
  have hbb8 := newBelow hg8
  have hbl8 := hbox8.lt
  clear hone8 hnb8 hg8
  have h48 := hB7.trans (hbb8.mono hB7.size)
  clear hbox8 hp7 ho7 hu5 ho6 hb5 hb6 hb7 hB7 hbb8
  go_wp2_with fail
  refine (lYard _).mono ?_
  rintro e W9 ⟨u9, rfl, hu9, hb9⟩
  go_wp2_with fail
  refine (lBusy _).mono ?_
  rintro e W10 ⟨V10, rfl, ho10, hb10⟩
  go_wp2_with fail
  have hal : Below W10.heap.size W10 (W10.alloc (.cells #[.int .i64 1, .int .i64 2, .int .i64 0, .int .i64 0] 75)) := (Below.refl _ _).alloc (Nat.le_refl _) _
  refine (recvEnter _ _ _ _ yardP busyS [⟨1, 2, 0, 0⟩] ((hu9.grow hb10).grow hal) ((ho10.view0 (by decide)).grow hal) (lineLit _ _ _)).mono ?_
  rintro e W11 hp11
  obtain ⟨V11, rfl, ho11, hb11⟩ := hp11.at (c := 0) (by decide)
  have hB11 := hb9.trans ((hb10.trans ((hal.trans (hb11.mono hal.size)).mono hb10.size)).mono hb9.size)
  have hone12 := (ho11).one
  have hnb12 := newBox (W11)
  go_wp2_with (refine wpList_store_state rfl (.tmp 5) (.tmp 27) rfl rfl (World.heap (W11)).size nilSV V11 hnb12 rfl rfl hone12 (fun w12 hbox12 hg12 => ?_); refine Hid.out ?_)
  unfold Hid
  have hbb12 := newBelow hg12
  have hbl12 := hbox12.lt
  clear hone12 hnb12 hg12
  have h8c := hB11.trans (hbb12.mono hB11.size)
  have h4c := h48.trans (h8c.mono h48.size)
  have ho12 := Lib.hid (ho11.below hbb12)
  have hbox12' := Lib.hid hbox12
  clear hbox12 hp11 ho11 hu9 ho10 hb9 hb10 hb11 hB11 hbb12 h48 h8c hal
  go_wp2_with fail
  refine (lYard _).mono ?_
  rintro e W13 ⟨u13, rfl, hu13, hb13⟩
  go_wp2_with fail
  refine (lBusy _).mono ?_
  rintro e W14 ⟨V14, rfl, ho14, hb14⟩
  go_wp2_with fail
  have hal : Below W14.heap.size W14 (W14.alloc (.cells #[.int .i64 2, .int .i64 2, .int .i64 0, .int .i64 0] 75)) := (Below.refl _ _).alloc (Nat.le_refl _) _
  refine (recvEnter _ _ _ _ yardP busyS [⟨2, 2, 0, 0⟩] ((hu13.grow hb14).grow hal) ((ho14.view0 (by decide)).grow hal) (lineLit _ _ _)).mono ?_
  rintro e W15 hp15
  obtain ⟨V15, rfl, ho15, hb15⟩ := hp15.at (c := 3) (by decide)
  have hB15 := hb13.trans ((hb14.trans ((hal.trans (hb15.mono hal.size)).mono hb14.size)).mono hb13.size)
  have hone16 := (ho15).one
  have hnb16 := newBox (W15)
  go_wp2_with (refine wpList_store_state rfl (.tmp 7) (.tmp 35) rfl rfl (World.heap (W15)).size nilSV V15 hnb16 rfl rfl hone16 (fun w16 hbox16 hg16 => ?_); refine Hid.out ?_)
  unfold Hid
  have hbb16 := newBelow hg16
  have hbl16 := hbox16.lt
  clear hone16 hnb16 hg16
  have hcg := hB15.trans (hbb16.mono hB15.size)
  have h4g := h4c.trans (hcg.mono h4c.size)
  have hBg := hB4.trans (h4g.mono hB4.size)
  clear hbox16 hp15 ho15 hu13 ho14 hb13 hb14 hb15 hB15 hbb16 hal
  have hbA := hbox4'.out.below h4g hbl4
  have hbB := hbox12'.out.below hcg hbl12
  obtain ⟨a0, a1, a2, a3, a4, a5, a6⟩ := hbA.cells
  obtain ⟨b0, b1, b2, b3, b4, b5, b6⟩ := hbB.cells
  have hoA := ho4.out.below h4g
  have hoB := ho12.out.below hcg
  obtain ⟨go, co, _, gr, cr, _, vO, _, blk1, cO, vR, _, blk2, cR⟩ := hoA.onAt (b := 1) (g := 0) (by decide) (by decide)
  obtain ⟨gi, ci, _, vI, _, blk3, cI⟩ := OwnSt.intAtOwn hoA.inn (g := 0) (by decide)
  obtain ⟨gu, cu, _, vU, _, blk4, cU0, cU1⟩ := hoB.orderAt (o := 2) (by decide)
  obtain ⟨gl, cl, _, vL, _, blk5, cL0, cL1, cL2, cL3⟩ := hoB.lineAt (o := 2) (k := 0) (by decide) (by decide)
  have n1 : (receive yardP busyS 1 0 7).1.on.length = 3 := by decide
  have n2 : (rowAt (receive yardP busyS 1 0 7).1.on 1).length = 2 := by decide
  have n3 : cell (receive yardP busyS 1 0 7).1.on 1 0 = 10 := by decide
  have n4 : (receive yardP busyS 1 0 7).1.inn.length = 2 := by decide
  have n5 : intAt (receive yardP busyS 1 0 7).1.inn 0 = 20 := by decide
  have n6 : (enter yardP busyS [⟨1, 2, 0, 0⟩]).1.orders.length = 3 := by decide
  have n7 : ((enter yardP busyS [⟨1, 2, 0, 0⟩]).1.order 2).lines.length = 1 := by decide
  have n8 : ((enter yardP busyS [⟨1, 2, 0, 0⟩]).1.line 2 0).want = 2 := by decide
  rw [n1] at vO
  rw [vO] at a0
  rw [n2] at cO
  rw [n3] at cR
  rw [n4] at vI
  rw [vI] at a4
  rw [n5] at cI
  rw [n6] at vU
  rw [vU] at b1
  rw [n7] at vL
  rw [vL] at cU1
  rw [n8] at cL1
  simp only [Nat.reduceMul, Nat.reduceAdd, Nat.zero_mul, Nat.zero_add] at cU1 cL1
  clear a1 a2 a3 a5 a6 b0 b2 b3 b4 b5 b6 cU0 cL0 cL2 cL3 blk1 blk2 blk3 blk4 blk5 vR vO vI vU vL hoA hoB hbA hbB n1 n2 n3 n4 n5 n6 n7 n8 h4c h4g hcg hB4
  go_wp2_with fail
  go_ret
  exact ⟨rfl, hBg⟩

set_option maxHeartbeats 4000000 in
set_option maxRecDepth 100000 in
theorem recvReceivesWalk (w : World) (v vs : Value) (p : Plan) (s : State) (b g n : Int) (hp : PlanV w w.heap.size v p) (hv : StateV w w.heap.size vs s) :
    Calls Try.prog 8 #[v, vs, .int .i64 b, .int .i64 g, .int .i64 n] w fun e w' => e = .returned (.bool true) ∧ Below w.heap.size w w' := by
  obtain ⟨Ab, cb, As, cs, rfl, hP', hBn, hSz, hlb, hls⟩ := openPl hp
  obtain ⟨A0, c0, A1, c1, A2, c2, A3, c3, A4, c4, A5, c5, A6, c6, rfl, hV, hN, hO, hH, hM, hI, hU, hX, hl0, hl1, hl2, hl3, hl4, hl5, hl6⟩ := openOne hv
  go_enter Try.func8, Try.ntmps8
  go_wp2_with fail
  obtain ⟨W0, hW0, hb0, hsz0, hsz1, hsE, hK⟩ := boxesTwo w p s Ab cb As cs A0 c0 A1 c1 A2 c2 A3 c3 A4 c4 A5 c5 A6 c6
  rw [hW0]
  clear hW0
  obtain ⟨⟨y0, y1⟩, x0, x1, x2, x3, x4, x5, x6, hbz0, hbz1⟩ := hK.out W0 (Below.refl W0.heap.size W0)
  go_wp2_with fail
  clear y0 y1 x0 x1 x2 x3 x4 x5 x6 hbz0 hbz1
  refine (recvReceive _ _ _ p s b g n (hP'.out _ hb0) (hV.out _ hb0) ).mono ?_
  rintro e W1 ⟨V1, rfl, ho1, hb1⟩
  have hone2 := (ho1).one
  have hnb2 := newBox (W1)
  go_wp2_with (refine wpList_store_state rfl (.tmp 11) (.tmp 22) rfl rfl (World.heap (W1)).size nilSV V1 hnb2 rfl rfl hone2 (fun w2 hbox2 hg2 => ?_); refine Hid.out ?_)
  unfold Hid
  have hbb2 := newBelow hg2
  have hbl2 := hbox2.lt
  clear hone2 hnb2 hg2
  have hb02 := hb1.trans (hbb2.mono hb1.size)
  have hB2 := hb0.trans (hb02.mono hb0.size)
  have hv1 := Lib.hid ((ho1.below hbb2).view0 (receive_small p s b g n))
  have hbox2' := Lib.hid hbox2
  clear hbox2 ho1 hb1 hbb2
  obtain ⟨⟨y0, y1⟩, x0, x1, x2, x3, x4, x5, x6, hbz0, hbz1⟩ := hK.out w2 (hb02)
  go_wp2_with fail
  clear y0 y1 x0 x1 x2 x3 x4 x5 x6 hbz0 hbz1
  refine (rReceiveOf _ _ _ p s b g n (hP'.out _ hB2) (hV.out _ hB2) ).mono ?_
  rintro e W3 ⟨V3, rfl, ho3, hb3⟩
  have hone4 := (ho3).one
  have hnb4 := newBox (W3)
  go_wp2_with (refine wpList_store_state rfl (.tmp 13) (.tmp 31) rfl rfl (World.heap (W3)).size nilSV V3 hnb4 rfl rfl hone4 (fun w4 hbox4 hg4 => ?_); refine Hid.out ?_)
  unfold Hid
  have hbb4 := newBelow hg4
  have hbl4 := hbox4.lt
  clear hone4 hnb4 hg4
  have h24 := hb3.trans (hbb4.mono hb3.size)
  have h04 := hb02.trans (h24.mono hb02.size)
  have hB4 := hb0.trans (h04.mono hb0.size)
  have hv3 := Lib.hid ((ho3.below hbb4).view0 (receive_small p s b g n))
  have hv1' := Lib.hid (hv1.out.grow h24)
  have hbox4' := Lib.hid hbox4
  have hbox2'' := Lib.hid (hbox2'.out.below h24 hbl2)
  have hbl2' := Nat.lt_of_lt_of_le hbl2 h24.size
  clear hbox4 ho3 hb3 hbb4 hbox2' hv1 hb02 hB2 hbl2
  go_wp2_with fail
  refine (recvBegun _).mono ?_
  rintro e W5 ⟨rfl, h5⟩
  have hB5 := hB4.trans (h5.mono hB4.size)
  obtain ⟨p0, p1, p2, p3, p4, p5, p6⟩ := (hbox2''.out.below h5 hbl2').cells
  obtain ⟨q0, q1, q2, q3, q4, q5, q6⟩ := (hbox4'.out.below h5 hbl4).cells
  have hx1 := hv1'.out.grow h5
  have hx2 := hv3.out.grow h5
  go_wp2_with fail
  clear p0 p1 p2 p3 p4 p5 p6 q0 q1 q2 q3 q4 q5 q6
  refine (rSameStates _ _ _ _ hx1 hx2).mono ?_
  rintro e W6 ⟨rfl, h6⟩
  go_wp2_with fail
  go_ret
  exact ⟨rfl, hB5.trans (h6.mono hB5.size)⟩

set_option maxHeartbeats 4000000 in
set_option maxRecDepth 100000 in
theorem recvEntersWalk (w : World) (v vs vl : Value) (p : Plan) (s : State) (l : List Line) (hp : PlanV w w.heap.size v p) (hv : StateV w w.heap.size vs s) (hl : Sl cLine w w.heap.size vl l) :
    Calls Try.prog 9 #[v, vs, vl] w fun e w' => e = .returned (.bool true) ∧ Below w.heap.size w w' := by
  have hL := Lib.hid hl
  obtain ⟨Al, cl, rfl, hll, hAl⟩ := hl
  clear hAl
  obtain ⟨Ab, cb, As, cs, rfl, hP', hBn, hSz, hlb, hls⟩ := openPl hp
  obtain ⟨A0, c0, A1, c1, A2, c2, A3, c3, A4, c4, A5, c5, A6, c6, rfl, hV, hN, hO, hH, hM, hI, hU, hX, hl0, hl1, hl2, hl3, hl4, hl5, hl6⟩ := openOne hv
  go_enter Try.func9, Try.ntmps9
  go_wp2_with fail
  obtain ⟨W0, hW0, hb0, hsz0, hsz1, hsE, hK⟩ := boxesTwo w p s Ab cb As cs A0 c0 A1 c1 A2 c2 A3 c3 A4 c4 A5 c5 A6 c6
  rw [hW0]
  clear hW0
  obtain ⟨⟨y0, y1⟩, x0, x1, x2, x3, x4, x5, x6, hbz0, hbz1⟩ := hK.out W0 (Below.refl W0.heap.size W0)
  go_wp2_with fail
  clear y0 y1 x0 x1 x2 x3 x4 x5 x6 hbz0 hbz1
  refine (recvEnter _ _ _ _ p s l (hP'.out _ hb0) (hV.out _ hb0) (hL.out.grow hb0)).mono ?_
  rintro e W1 ⟨V1, rfl, ho1, hb1⟩
  have hone2 := (ho1).one
  have hnb2 := newBox (W1)
  go_wp2_with (refine wpList_store_state rfl (.tmp 7) (.tmp 16) rfl rfl (World.heap (W1)).size nilSV V1 hnb2 rfl rfl hone2 (fun w2 hbox2 hg2 => ?_); refine Hid.out ?_)
  unfold Hid
  have hbb2 := newBelow hg2
  have hbl2 := hbox2.lt
  clear hone2 hnb2 hg2
  have hb02 := hb1.trans (hbb2.mono hb1.size)
  have hB2 := hb0.trans (hb02.mono hb0.size)
  have hv1 := Lib.hid ((ho1.below hbb2).view0 (enter_small p s l))
  have hbox2' := Lib.hid hbox2
  clear hbox2 ho1 hb1 hbb2
  obtain ⟨⟨y0, y1⟩, x0, x1, x2, x3, x4, x5, x6, hbz0, hbz1⟩ := hK.out w2 (hb02)
  go_wp2_with fail
  clear y0 y1 x0 x1 x2 x3 x4 x5 x6 hbz0 hbz1
  refine (rEnterOf _ _ _ _ p s l (hP'.out _ hB2) (hV.out _ hB2) (hL.out.grow hB2)).mono ?_
  rintro e W3 ⟨V3, rfl, ho3, hb3⟩
  have hone4 := (ho3).one
  have hnb4 := newBox (W3)
  go_wp2_with (refine wpList_store_state rfl (.tmp 9) (.tmp 23) rfl rfl (World.heap (W3)).size nilSV V3 hnb4 rfl rfl hone4 (fun w4 hbox4 hg4 => ?_); refine Hid.out ?_)
  unfold Hid
  have hbb4 := newBelow hg4
  have hbl4 := hbox4.lt
  clear hone4 hnb4 hg4
  have h24 := hb3.trans (hbb4.mono hb3.size)
  have h04 := hb02.trans (h24.mono hb02.size)
  have hB4 := hb0.trans (h04.mono hb0.size)
  have hv3 := Lib.hid ((ho3.below hbb4).view0 (enter_small p s l))
  have hv1' := Lib.hid (hv1.out.grow h24)
  have hbox4' := Lib.hid hbox4
  have hbox2'' := Lib.hid (hbox2'.out.below h24 hbl2)
  have hbl2' := Nat.lt_of_lt_of_le hbl2 h24.size
  clear hbox4 ho3 hb3 hbb4 hbox2' hv1 hb02 hB2 hbl2
  go_wp2_with fail
  refine (recvBegun _).mono ?_
  rintro e W5 ⟨rfl, h5⟩
  have hB5 := hB4.trans (h5.mono hB4.size)
  obtain ⟨p0, p1, p2, p3, p4, p5, p6⟩ := (hbox2''.out.below h5 hbl2').cells
  obtain ⟨q0, q1, q2, q3, q4, q5, q6⟩ := (hbox4'.out.below h5 hbl4).cells
  have hx1 := hv1'.out.grow h5
  have hx2 := hv3.out.grow h5
  go_wp2_with fail
  clear p0 p1 p2 p3 p4 p5 p6 q0 q1 q2 q3 q4 q5 q6
  refine (rSameStates _ _ _ _ hx1 hx2).mono ?_
  rintro e W6 ⟨rfl, h6⟩
  go_wp2_with fail
  go_ret
  exact ⟨rfl, hB5.trans (h6.mono hB5.size)⟩
end Wh
