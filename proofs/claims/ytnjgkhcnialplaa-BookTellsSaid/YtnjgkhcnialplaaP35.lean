/- Texts of the claim, joined: StateO, Open. -/
import Derived.SizedLaws
import Derived.Deep.Slices
import Derived.Deep.Fields
import Derived.ChangeSame
import Derived.ChangeOld
import Derived.Carry
import Derived.Test.YtnjgkhcnialplaaP34
import Derived.Test.YtnjgkhcnialplaaP02
namespace Wh
open Go Go.RowKit Go.Shelf Go.Proofs
attribute [local go_sem] run_indexAt_letter evL_tmp evL_const evL_func

theorem begunSane {p : Plan} (h : checkPlan p = 0) : Sane p (begin p) := (checkState_zero.1 (begin_right h)).1
theorem StateV.sv {w : World} {B : Nat} {u : Value} {s : State} (h : StateV w B u s) : ∃ V : SV, u = V.val ∧ V.cells.all (fun u => u.oneCell') = true := by
  obtain ⟨v0, v1, v2, v3, v4, v5, v6, rfl, ⟨_, _, _, rfl, _⟩, ⟨_, _, _, rfl, _⟩, ⟨_, _, rfl, _⟩, ⟨_, _, rfl, _⟩, ⟨_, _, rfl, _⟩, ⟨_, _, rfl, _⟩, ⟨_, _, rfl, _⟩⟩ := h
  exact ⟨⟨_, _, _, _, _, _, _, [], []⟩, rfl, rfl⟩

set_option maxHeartbeats 4000000 in
set_option maxRecDepth 100000 in
theorem stateChecksWalk (w : World) (v vs : Value) (p : Plan) (s : State) (hp : PlanV w w.heap.size v p) (hv : StateV w w.heap.size vs s) :
    Calls Try.prog 4 #[v, vs] w fun e w' => e = .returned (.bool true) ∧ Below w.heap.size w w' := by
  obtain ⟨Ab, cb, As, cs, rfl, hP', hBn, hSz, hlb, hls⟩ := openPl hp
  obtain ⟨A0, c0, A1, c1, A2, c2, A3, c3, A4, c4, A5, c5, A6, c6, rfl, hV, hN, hO, hH, hM, hI, hU, hX, hl0, hl1, hl2, hl3, hl4, hl5, hl6⟩ := openOne hv
  go_enter Try.func4, Try.ntmps4
  go_wp2_with fail
  obtain ⟨W0, hW0, hb0, hsz0, hsz1, hsE, hK⟩ := boxesTwo w p s Ab cb As cs A0 c0 A1 c1 A2 c2 A3 c3 A4 c4 A5 c5 A6 c6
  rw [hW0]
  clear hW0
  obtain ⟨⟨y0, y1⟩, x0, x1, x2, x3, x4, x5, x6, hbz0, hbz1⟩ := hK.out W0 (Below.refl W0.heap.size W0)
  go_wp2_with fail
  clear y0 y1 x0 x1 x2 x3 x4 x5 x6 hbz0 hbz1
  refine (sBegin _ _ p (hP'.out _ hb0)).mono ?_
  rintro e W1 ⟨V1, rfl, ho1, hb1⟩
  have hone2 := (ho1).one
  have hnb2 := newBox (W1)
  go_wp2_with (refine wpList_store_state rfl (.tmp 5) (.tmp 12) rfl rfl (World.heap (W1)).size nilSV V1 hnb2 rfl rfl hone2 (fun w2 hbox2 hg2 => ?_); refine Hid.out ?_)
  unfold Hid
  have hbb2 := newBelow hg2
  have hbl2 := hbox2.lt
  clear hone2 hnb2 hg2
  have hb02 := hb1.trans (hbb2.mono hb1.size)
  have hbox2' := Lib.hid hbox2
  have hB2 := hb0.trans (hb02.mono hb0.size)
  obtain ⟨⟨y0, y1⟩, x0, x1, x2, x3, x4, x5, x6, hbz0, hbz1⟩ := hK.out w2 (hb02)
  go_wp2_with fail
  clear y0 y1 x0 x1 x2 x3 x4 x5 x6 hbz0 hbz1
  refine (rCheckPlan _ _ p (hP'.out _ hB2)).mono ?_
  rintro e W3 ⟨rfl, hb3⟩
  have hb03 := hb02.trans (hb3.mono hb02.size)
  have hB3 := hb0.trans (hb03.mono hb0.size)
  clear hbox2
  by_cases hz : checkPlan p = 0
  · rw [if_pos hz] at ho1
    have hv1 := Lib.hid ((ho1.below hbb2).view (begunSane hz))
    rw [hz]
    have hz' := Lib.hid hz
    clear hz ho1
    have hal : Below W3.heap.size W3 (W3.alloc (.cells #[.slice none 0 0, .slice none 0 0, .slice none 0 0, .slice none 0 0, .slice none 0 0, .slice none 0 0, .slice none 0 0] 31)) := (Below.refl _ _).alloc (Nat.le_refl _) _
    have hnb : BoxAt (W3.alloc (.cells #[.slice none 0 0, .slice none 0 0, .slice none 0 0, .slice none 0 0, .slice none 0 0, .slice none 0 0, .slice none 0 0] 31)) W3.heap.size nilSV := Blk.new _ _ _
    have hnl := hnb.lt
    have hb04 := hb03.trans (hal.mono hb03.size)
    have hB4 := hb0.trans (hb04.mono hb0.size)
    obtain ⟨⟨y0, y1⟩, x0, x1, x2, x3, x4, x5, x6, hbz0, hbz1⟩ := hK.out (W3.alloc (.cells #[.slice none 0 0, .slice none 0 0, .slice none 0 0, .slice none 0 0, .slice none 0 0, .slice none 0 0, .slice none 0 0] 31)) (hb04)
    go_wp2_with fail
    clear y0 y1 x0 x1 x2 x3 x4 x5 x6 hbz0 hbz1
    refine (rBeginOf _ _ p (hP'.out _ hB4) hz'.out).mono ?_
    rintro e W5 ⟨V5, rfl, hu5, hb5⟩
    have hbx8 := hnb.below hb5 hnl
    have hone5 := hu5.one
    have hb05 := hb04.trans (hb5.mono hb04.size)
    go_wp2_with (refine wpList_store_state rfl (.tmp 8) (.tmp 19) rfl rfl W3.heap.size nilSV V5 hbx8 rfl rfl hone5 (fun w6 hbox8 hg8 => ?_); refine Hid.out ?_)
    unfold Hid
    have hcz := right_counts hz'.out
    have hv8 := Lib.hid ((hu5.keptBy hg8 hbx8.blk (by decide) (by decide)).view (by omega) (by omega))
    have hbw3 : W0.heap.size ≤ W3.heap.size := hb03.size
    have hb06 : Below W0.heap.size W0 w6 := hb05.grown hg8 hb05.size (fun k hk => by injection hk with hk; omega)
    have hbw4 : w2.heap.size ≤ W3.heap.size := hb3.size
    have hb26 : Below w2.heap.size w2 w6 := (hb3.trans ((hal.trans (hb5.mono hal.size)).mono hb3.size)).grown hg8 (by have := hb5.size; have := hal.size; have := hb3.size; omega) (fun k hk => by injection hk with hk; omega)
    have hbl8 := hbox8.lt
    have hbox8' := Lib.hid hbox8
    clear hbox8 hg8 hu5 hone5 hbx8 hnb hb5 hb05 hb04 hB4 hal hnl hcz
    go_wp2_with fail
    refine wp_region_opsG 21 [fun gq w' => (fun v w' => v = .bool true) (gq 20) w', fun gq _ => gq 21 = .bool true, fun gq _ => gq 22 = .agg #[.slice Ab p.bins.length cb, .slice As p.sizes.length cs], fun gq _ => gq 23 = .agg #[.slice A0 s.on.length c0, .slice A1 s.orders.length c1, .slice A2 s.holds.length c2, .slice A3 s.moves.length c3, .slice A4 s.inn.length c4, .slice A5 s.out.length c5, .slice A6 s.fixed.length c6], fun gq w' => (fun v w' => v = .int .i64 (checkState p s)) (gq 24) w', fun gq _ => gq 25 = .agg #[.slice Ab p.bins.length cb, .slice As p.sizes.length cs], fun gq _ => gq 26 = .agg #[.slice A0 s.on.length c0, .slice A1 s.orders.length c1, .slice A2 s.holds.length c2, .slice A3 s.moves.length c3, .slice A4 s.inn.length c4, .slice A5 s.out.length c5, .slice A6 s.fixed.length c6], fun gq w' => (fun v w' => v = .int .i64 (checkState p s)) (gq 27) w', fun gq _ => gq 28 = .bool true, fun gq _ => gq 29 = .bool true, fun gq _ => gq 30 = .bool true, fun gq _ => gq 31 = .int .i64 0, fun gq _ => gq 32 = .int .i64 0, fun gq _ => gq 33 = .bool true, fun gq _ => gq 34 = .bool true, fun gq _ => gq 35 = .bool true, fun gq _ => gq 36 = .agg #[V1.on, V1.orders, V1.holds, V1.moves, V1.inn, V1.out, V1.fixed], fun gq _ => gq 37 = .agg #[(V5).on, (V5).orders, (V5).holds, (V5).moves, (V5).inn, (V5).out, (V5).fixed], fun gq w' => (fun v w' => v = .bool true) (gq 38) w', fun gq _ => gq 39 = .bool true, fun gq _ => gq 4 = .bool true] (by kernel_rfl) (by kernel_rfl) rfl (by kernel_rfl) ?_ (fun f w2 hb2 hR => ?_)
    simp only [List.take_succ_cons, List.take_zero]
    refine OpsG.cons (OpG.one (d := 20) (p := (fun v w' => v = .bool true)) rfl rfl (fun v w1 w2 h hb => h) (fun gq w' ho hd => trivial) (fun gq w' hb ho hd => ?_)) ?_
    · unfold OpRel
      go_simp
      refine (stateBegun w').mono ?_
      rintro e w2 ⟨rfl, hb2⟩
      exact ⟨_, rfl, rfl, hb2⟩
    refine OpsG.cons (OpG.val rfl rfl (fun gq w' ho hd => trivial) (fun gq w' hb ho hd => ?_)) ?_
    · have e20 : (gq 20) = .bool true := hd ⟨0, .data⟩ (by simp) rfl (by decide)
      go_simp
    refine OpsG.cons (OpG.val rfl rfl (fun gq w' ho hd => ⟨_, rfl, hd ⟨1, .guard⟩ (by simp) rfl (by decide)⟩) (fun gq w' hb ho hd => ?_)) ?_
    · have e2 := ho 2 rfl
      obtain ⟨⟨y0, y1⟩, x0, x1, x2, x3, x4, x5, x6, hbz0, hbz1⟩ := hK.out w' (hb06.trans (hb.mono (Below.size hb06)))
      go_simp
    refine OpsG.cons (OpG.val rfl rfl (fun gq w' ho hd => ⟨_, rfl, hd ⟨1, .guard⟩ (by simp) rfl (by decide)⟩) (fun gq w' hb ho hd => ?_)) ?_
    · have e3 := ho 3 rfl
      obtain ⟨⟨y0, y1⟩, x0, x1, x2, x3, x4, x5, x6, hbz0, hbz1⟩ := hK.out w' (hb06.trans (hb.mono (Below.size hb06)))
      go_simp
    refine OpsG.cons (OpG.one (d := 24) (p := (fun v w' => v = .int .i64 (checkState p s))) rfl rfl (fun v w1 w2 h hb => h) (fun gq w' ho hd => ⟨_, rfl, hd ⟨1, .guard⟩ (by simp) rfl (by decide)⟩) (fun gq w' hb ho hd => ?_)) ?_
    · have e22 : gq 22 = .agg #[.slice Ab p.bins.length cb, .slice As p.sizes.length cs] := hd ⟨2, .data⟩ (by simp) rfl (by decide)
      have e23 : gq 23 = .agg #[.slice A0 s.on.length c0, .slice A1 s.orders.length c1, .slice A2 s.holds.length c2, .slice A3 s.moves.length c3, .slice A4 s.inn.length c4, .slice A5 s.out.length c5, .slice A6 s.fixed.length c6] := hd ⟨3, .data⟩ (by simp) rfl (by decide)
      have hh := hb0.trans ((Below.trans hb06 (hb.mono (Below.size hb06))).mono hb0.size)
      have h1 := hP'.out _ hh
      have h2 := hV.out _ hh
      unfold OpRel
      go_simp
      refine (sCheck w' _ _ p s h1 h2).mono ?_
      rintro e w2 ⟨rfl, hb2⟩
      exact ⟨_, rfl, rfl, hb2⟩
    refine OpsG.cons (OpG.val rfl rfl (fun gq w' ho hd => ⟨_, rfl, hd ⟨1, .guard⟩ (by simp) rfl (by decide)⟩) (fun gq w' hb ho hd => ?_)) ?_
    · have e2 := ho 2 rfl
      obtain ⟨⟨y0, y1⟩, x0, x1, x2, x3, x4, x5, x6, hbz0, hbz1⟩ := hK.out w' (hb06.trans (hb.mono (Below.size hb06)))
      go_simp
    refine OpsG.cons (OpG.val rfl rfl (fun gq w' ho hd => ⟨_, rfl, hd ⟨1, .guard⟩ (by simp) rfl (by decide)⟩) (fun gq w' hb ho hd => ?_)) ?_
    · have e3 := ho 3 rfl
      obtain ⟨⟨y0, y1⟩, x0, x1, x2, x3, x4, x5, x6, hbz0, hbz1⟩ := hK.out w' (hb06.trans (hb.mono (Below.size hb06)))
      go_simp
    refine OpsG.cons (OpG.one (d := 27) (p := (fun v w' => v = .int .i64 (checkState p s))) rfl rfl (fun v w1 w2 h hb => h) (fun gq w' ho hd => ⟨_, rfl, hd ⟨1, .guard⟩ (by simp) rfl (by decide)⟩) (fun gq w' hb ho hd => ?_)) ?_
    · have e25 : gq 25 = .agg #[.slice Ab p.bins.length cb, .slice As p.sizes.length cs] := hd ⟨5, .data⟩ (by simp) rfl (by decide)
      have e26 : gq 26 = .agg #[.slice A0 s.on.length c0, .slice A1 s.orders.length c1, .slice A2 s.holds.length c2, .slice A3 s.moves.length c3, .slice A4 s.inn.length c4, .slice A5 s.out.length c5, .slice A6 s.fixed.length c6] := hd ⟨6, .data⟩ (by simp) rfl (by decide)
      have hh := hb0.trans ((Below.trans hb06 (hb.mono (Below.size hb06))).mono hb0.size)
      have h1 := hP'.out _ hh
      have h2 := hV.out _ hh
      unfold OpRel
      go_simp
      refine (rCheckState w' _ _ p s h1 h2).mono ?_
      rintro e w2 ⟨rfl, hb2⟩
      exact ⟨_, rfl, rfl, hb2⟩
    refine OpsG.cons (OpG.val rfl rfl (fun gq w' ho hd => ⟨_, rfl, hd ⟨1, .guard⟩ (by simp) rfl (by decide)⟩) (fun gq w' hb ho hd => ?_)) ?_
    · have e24 : (gq 24) = .int .i64 (checkState p s) := hd ⟨4, .data⟩ (by simp) rfl (by decide)
      have e27 : (gq 27) = .int .i64 (checkState p s) := hd ⟨7, .data⟩ (by simp) rfl (by decide)
      go_simp
    refine OpsG.cons (OpG.val rfl rfl (fun gq w' ho hd => trivial) (fun gq w' hb ho hd => ?_)) ?_
    · have e21 : gq 21 = .bool true := hd ⟨1, .data⟩ (by simp) rfl (by decide)
      have e28 : gq 28 = .bool true := hd ⟨8, .data⟩ (by simp) rfl (by decide)
      go_simp
    refine OpsG.cons (OpG.val rfl rfl (fun gq w' ho hd => trivial) (fun gq w' hb ho hd => ?_)) ?_
    · have e29 : gq 29 = .bool true := hd ⟨9, .data⟩ (by simp) rfl (by decide)
      go_simp
    refine OpsG.cons (OpG.val rfl rfl (fun gq w' ho hd => ⟨_, rfl, hd ⟨10, .guard⟩ (by simp) rfl (by decide)⟩) (fun gq w' hb ho hd => ?_)) ?_
    · have e6 := ho 6 rfl
      go_simp
    refine OpsG.cons (OpG.val rfl rfl (fun gq w' ho hd => ⟨_, rfl, hd ⟨10, .guard⟩ (by simp) rfl (by decide)⟩) (fun gq w' hb ho hd => ?_)) ?_
    · have e7 := ho 7 rfl
      go_simp
    refine OpsG.cons (OpG.val rfl rfl (fun gq w' ho hd => ⟨_, rfl, hd ⟨10, .guard⟩ (by simp) rfl (by decide)⟩) (fun gq w' hb ho hd => ?_)) ?_
    · have e31 : gq 31 = .int .i64 0 := hd ⟨11, .data⟩ (by simp) rfl (by decide)
      have e32 : gq 32 = .int .i64 0 := hd ⟨12, .data⟩ (by simp) rfl (by decide)
      go_simp
    refine OpsG.cons (OpG.val rfl rfl (fun gq w' ho hd => trivial) (fun gq w' hb ho hd => ?_)) ?_
    · have e30 : gq 30 = .bool true := hd ⟨10, .data⟩ (by simp) rfl (by decide)
      have e33 : gq 33 = .bool true := hd ⟨13, .data⟩ (by simp) rfl (by decide)
      go_simp
    refine OpsG.cons (OpG.val rfl rfl (fun gq w' ho hd => trivial) (fun gq w' hb ho hd => ?_)) ?_
    · have e34 : gq 34 = .bool true := hd ⟨14, .data⟩ (by simp) rfl (by decide)
      go_simp
    refine OpsG.cons (OpG.val rfl rfl (fun gq w' ho hd => ⟨_, rfl, hd ⟨15, .guard⟩ (by simp) rfl (by decide)⟩) (fun gq w' hb ho hd => ?_)) ?_
    · have e5 := ho 5 rfl
      obtain ⟨p0, p1, p2, p3, p4, p5, p6⟩ := (hbox2'.out.below (Below.trans hb26 (hb.mono (Below.size hb26))) hbl2).cells
      go_simp
    refine OpsG.cons (OpG.val rfl rfl (fun gq w' ho hd => ⟨_, rfl, hd ⟨15, .guard⟩ (by simp) rfl (by decide)⟩) (fun gq w' hb ho hd => ?_)) ?_
    · have e8 := ho 8 rfl
      obtain ⟨p0, p1, p2, p3, p4, p5, p6⟩ := (hbox8'.out.below hb hbl8).cells
      go_simp
    refine OpsG.cons (OpG.one (d := 38) (p := (fun v w' => v = .bool true)) rfl rfl (fun v w1 w2 h hb => h) (fun gq w' ho hd => ⟨_, rfl, hd ⟨15, .guard⟩ (by simp) rfl (by decide)⟩) (fun gq w' hb ho hd => ?_)) ?_
    · have e36 : gq 36 = .agg #[V1.on, V1.orders, V1.holds, V1.moves, V1.inn, V1.out, V1.fixed] := hd ⟨16, .data⟩ (by simp) rfl (by decide)
      have e37 : gq 37 = .agg #[(V5).on, (V5).orders, (V5).holds, (V5).moves, (V5).inn, (V5).out, (V5).fixed] := hd ⟨17, .data⟩ (by simp) rfl (by decide)
      have h1 := hv1.out.grow (Below.trans hb26 (hb.mono (Below.size hb26)))
      have h2 := hv8.out.grow hb
      unfold OpRel
      go_simp
      refine (rSameStates w' _ _ _ h1 h2).mono ?_
      rintro e w2 ⟨rfl, hb2⟩
      exact ⟨_, rfl, rfl, hb2⟩
    refine OpsG.cons (OpG.val rfl rfl (fun gq w' ho hd => trivial) (fun gq w' hb ho hd => ?_)) ?_
    · have e35 : gq 35 = .bool true := hd ⟨15, .data⟩ (by simp) rfl (by decide)
      have e38 : (gq 38) = .bool true := hd ⟨18, .data⟩ (by simp) rfl (by decide)
      go_simp
    refine OpsG.cons (OpG.val rfl rfl (fun gq w' ho hd => trivial) (fun gq w' hb ho hd => ?_)) ?_
    · have e39 : gq 39 = .bool true := hd ⟨19, .data⟩ (by simp) rfl (by decide)
      go_simp
    exact OpsG.nil
    obtain ⟨r20, r21, r22, r23, r24, r25, r26, r27, r28, r29, r30, r31, r32, r33, r34, r35, r36, r37, r38, r39, r4, _⟩ := hR
    replace r20 : (f 20) = .bool true := r20
    replace r24 : (f 24) = .int .i64 (checkState p s) := r24
    replace r27 : (f 27) = .int .i64 (checkState p s) := r27
    replace r38 : (f 38) = .bool true := r38
    simp only [fillA, fillT, List.take_succ_cons, List.take_zero, List.drop_succ_cons, List.drop_zero, List.filterMap_cons, List.filterMap_nil, List.foldl_cons, List.foldl_nil, List.setIfInBounds_toArray, List.set_cons_zero, List.set_cons_succ, r20, r21, r22, r23, r24, r25, r26, r27, r28, r29, r30, r31, r32, r33, r34, r35, r36, r37, r38, r39, r4]
    clear r20 r21 r22 r23 r24 r25 r26 r27 r28 r29 r30 r31 r32 r33 r34 r35 r36 r37 r38 r39 r4
    refine wpList_nil ?_
    go_wp2_with fail
    go_ret
    exact ⟨rfl, hb0.trans ((Below.trans hb06 (hb2.mono (Below.size hb06))).mono hb0.size)⟩
  · rw [if_neg hz] at ho1
    have hv1 := Lib.hid ((ho1.below hbb2).view' (.inr rfl))
    have hbw4 : w2.heap.size ≤ W3.heap.size := hb3.size
    have hb06 : Below W0.heap.size W0 (W3.alloc (.cells #[.slice none 0 0, .slice none 0 0, .slice none 0 0, .slice none 0 0, .slice none 0 0, .slice none 0 0, .slice none 0 0] 31)) := hb03.alloc hb03.size _
    have hb26 : Below w2.heap.size w2 (W3.alloc (.cells #[.slice none 0 0, .slice none 0 0, .slice none 0 0, .slice none 0 0, .slice none 0 0, .slice none 0 0, .slice none 0 0] 31)) := hb3.alloc hb3.size _
    have hbox8 : BoxAt (W3.alloc (.cells #[.slice none 0 0, .slice none 0 0, .slice none 0 0, .slice none 0 0, .slice none 0 0, .slice none 0 0, .slice none 0 0] 31)) W3.heap.size nilSV := Blk.new _ _ _
    have hv8 := Lib.hid (zeroView (W3.alloc (.cells #[.slice none 0 0, .slice none 0 0, .slice none 0 0, .slice none 0 0, .slice none 0 0, .slice none 0 0, .slice none 0 0] 31)) (World.heap (W3.alloc (.cells #[.slice none 0 0, .slice none 0 0, .slice none 0 0, .slice none 0 0, .slice none 0 0, .slice none 0 0, .slice none 0 0] 31))).size)
    have hbl8 := hbox8.lt
    have hzf : (checkPlan p == 0) = false := by simpa using hz
    have hbox8' := Lib.hid hbox8
    clear hbox8 hz ho1
    go_wp2_with fail
    clear hzf
    generalize W3.alloc (.cells #[.slice none 0 0, .slice none 0 0, .slice none 0 0, .slice none 0 0, .slice none 0 0, .slice none 0 0, .slice none 0 0] 31) = w6 at hb06 hb26 hbox8' hv8 hbl8 ⊢
    refine wp_region_opsG 21 [fun gq w' => (fun v w' => v = .bool true) (gq 20) w', fun gq _ => gq 21 = .bool true, fun gq _ => gq 22 = .agg #[.slice Ab p.bins.length cb, .slice As p.sizes.length cs], fun gq _ => gq 23 = .agg #[.slice A0 s.on.length c0, .slice A1 s.orders.length c1, .slice A2 s.holds.length c2, .slice A3 s.moves.length c3, .slice A4 s.inn.length c4, .slice A5 s.out.length c5, .slice A6 s.fixed.length c6], fun gq w' => (fun v w' => v = .int .i64 (checkState p s)) (gq 24) w', fun gq _ => gq 25 = .agg #[.slice Ab p.bins.length cb, .slice As p.sizes.length cs], fun gq _ => gq 26 = .agg #[.slice A0 s.on.length c0, .slice A1 s.orders.length c1, .slice A2 s.holds.length c2, .slice A3 s.moves.length c3, .slice A4 s.inn.length c4, .slice A5 s.out.length c5, .slice A6 s.fixed.length c6], fun gq w' => (fun v w' => v = .int .i64 (checkState p s)) (gq 27) w', fun gq _ => gq 28 = .bool true, fun gq _ => gq 29 = .bool true, fun gq _ => gq 30 = .bool true, fun gq _ => gq 31 = .int .i64 (checkPlan p), fun gq _ => gq 32 = .int .i64 (checkPlan p), fun gq _ => gq 33 = .bool true, fun gq _ => gq 34 = .bool true, fun gq _ => gq 35 = .bool true, fun gq _ => gq 36 = .agg #[V1.on, V1.orders, V1.holds, V1.moves, V1.inn, V1.out, V1.fixed], fun gq _ => gq 37 = .agg #[(nilSV).on, (nilSV).orders, (nilSV).holds, (nilSV).moves, (nilSV).inn, (nilSV).out, (nilSV).fixed], fun gq w' => (fun v w' => v = .bool true) (gq 38) w', fun gq _ => gq 39 = .bool true, fun gq _ => gq 4 = .bool true] (by kernel_rfl) (by kernel_rfl) rfl (by kernel_rfl) ?_ (fun f w2 hb2 hR => ?_)
    simp only [List.take_succ_cons, List.take_zero]
    refine OpsG.cons (OpG.one (d := 20) (p := (fun v w' => v = .bool true)) rfl rfl (fun v w1 w2 h hb => h) (fun gq w' ho hd => trivial) (fun gq w' hb ho hd => ?_)) ?_
    · unfold OpRel
      go_simp
      refine (stateBegun w').mono ?_
      rintro e w2 ⟨rfl, hb2⟩
      exact ⟨_, rfl, rfl, hb2⟩
    refine OpsG.cons (OpG.val rfl rfl (fun gq w' ho hd => trivial) (fun gq w' hb ho hd => ?_)) ?_
    · have e20 : (gq 20) = .bool true := hd ⟨0, .data⟩ (by simp) rfl (by decide)
      go_simp
    refine OpsG.cons (OpG.val rfl rfl (fun gq w' ho hd => ⟨_, rfl, hd ⟨1, .guard⟩ (by simp) rfl (by decide)⟩) (fun gq w' hb ho hd => ?_)) ?_
    · have e2 := ho 2 rfl
      obtain ⟨⟨y0, y1⟩, x0, x1, x2, x3, x4, x5, x6, hbz0, hbz1⟩ := hK.out w' (hb06.trans (hb.mono (Below.size hb06)))
      go_simp
    refine OpsG.cons (OpG.val rfl rfl (fun gq w' ho hd => ⟨_, rfl, hd ⟨1, .guard⟩ (by simp) rfl (by decide)⟩) (fun gq w' hb ho hd => ?_)) ?_
    · have e3 := ho 3 rfl
      obtain ⟨⟨y0, y1⟩, x0, x1, x2, x3, x4, x5, x6, hbz0, hbz1⟩ := hK.out w' (hb06.trans (hb.mono (Below.size hb06)))
      go_simp
    refine OpsG.cons (OpG.one (d := 24) (p := (fun v w' => v = .int .i64 (checkState p s))) rfl rfl (fun v w1 w2 h hb => h) (fun gq w' ho hd => ⟨_, rfl, hd ⟨1, .guard⟩ (by simp) rfl (by decide)⟩) (fun gq w' hb ho hd => ?_)) ?_
    · have e22 : gq 22 = .agg #[.slice Ab p.bins.length cb, .slice As p.sizes.length cs] := hd ⟨2, .data⟩ (by simp) rfl (by decide)
      have e23 : gq 23 = .agg #[.slice A0 s.on.length c0, .slice A1 s.orders.length c1, .slice A2 s.holds.length c2, .slice A3 s.moves.length c3, .slice A4 s.inn.length c4, .slice A5 s.out.length c5, .slice A6 s.fixed.length c6] := hd ⟨3, .data⟩ (by simp) rfl (by decide)
      have hh := hb0.trans ((Below.trans hb06 (hb.mono (Below.size hb06))).mono hb0.size)
      have h1 := hP'.out _ hh
      have h2 := hV.out _ hh
      unfold OpRel
      go_simp
      refine (sCheck w' _ _ p s h1 h2).mono ?_
      rintro e w2 ⟨rfl, hb2⟩
      exact ⟨_, rfl, rfl, hb2⟩
    refine OpsG.cons (OpG.val rfl rfl (fun gq w' ho hd => ⟨_, rfl, hd ⟨1, .guard⟩ (by simp) rfl (by decide)⟩) (fun gq w' hb ho hd => ?_)) ?_
    · have e2 := ho 2 rfl
      obtain ⟨⟨y0, y1⟩, x0, x1, x2, x3, x4, x5, x6, hbz0, hbz1⟩ := hK.out w' (hb06.trans (hb.mono (Below.size hb06)))
      go_simp
    refine OpsG.cons (OpG.val rfl rfl (fun gq w' ho hd => ⟨_, rfl, hd ⟨1, .guard⟩ (by simp) rfl (by decide)⟩) (fun gq w' hb ho hd => ?_)) ?_
    · have e3 := ho 3 rfl
      obtain ⟨⟨y0, y1⟩, x0, x1, x2, x3, x4, x5, x6, hbz0, hbz1⟩ := hK.out w' (hb06.trans (hb.mono (Below.size hb06)))
      go_simp
    refine OpsG.cons (OpG.one (d := 27) (p := (fun v w' => v = .int .i64 (checkState p s))) rfl rfl (fun v w1 w2 h hb => h) (fun gq w' ho hd => ⟨_, rfl, hd ⟨1, .guard⟩ (by simp) rfl (by decide)⟩) (fun gq w' hb ho hd => ?_)) ?_
    · have e25 : gq 25 = .agg #[.slice Ab p.bins.length cb, .slice As p.sizes.length cs] := hd ⟨5, .data⟩ (by simp) rfl (by decide)
      have e26 : gq 26 = .agg #[.slice A0 s.on.length c0, .slice A1 s.orders.length c1, .slice A2 s.holds.length c2, .slice A3 s.moves.length c3, .slice A4 s.inn.length c4, .slice A5 s.out.length c5, .slice A6 s.fixed.length c6] := hd ⟨6, .data⟩ (by simp) rfl (by decide)
      have hh := hb0.trans ((Below.trans hb06 (hb.mono (Below.size hb06))).mono hb0.size)
      have h1 := hP'.out _ hh
      have h2 := hV.out _ hh
      unfold OpRel
      go_simp
      refine (rCheckState w' _ _ p s h1 h2).mono ?_
      rintro e w2 ⟨rfl, hb2⟩
      exact ⟨_, rfl, rfl, hb2⟩
    refine OpsG.cons (OpG.val rfl rfl (fun gq w' ho hd => ⟨_, rfl, hd ⟨1, .guard⟩ (by simp) rfl (by decide)⟩) (fun gq w' hb ho hd => ?_)) ?_
    · have e24 : (gq 24) = .int .i64 (checkState p s) := hd ⟨4, .data⟩ (by simp) rfl (by decide)
      have e27 : (gq 27) = .int .i64 (checkState p s) := hd ⟨7, .data⟩ (by simp) rfl (by decide)
      go_simp
    refine OpsG.cons (OpG.val rfl rfl (fun gq w' ho hd => trivial) (fun gq w' hb ho hd => ?_)) ?_
    · have e21 : gq 21 = .bool true := hd ⟨1, .data⟩ (by simp) rfl (by decide)
      have e28 : gq 28 = .bool true := hd ⟨8, .data⟩ (by simp) rfl (by decide)
      go_simp
    refine OpsG.cons (OpG.val rfl rfl (fun gq w' ho hd => trivial) (fun gq w' hb ho hd => ?_)) ?_
    · have e29 : gq 29 = .bool true := hd ⟨9, .data⟩ (by simp) rfl (by decide)
      go_simp
    refine OpsG.cons (OpG.val rfl rfl (fun gq w' ho hd => ⟨_, rfl, hd ⟨10, .guard⟩ (by simp) rfl (by decide)⟩) (fun gq w' hb ho hd => ?_)) ?_
    · have e6 := ho 6 rfl
      go_simp
    refine OpsG.cons (OpG.val rfl rfl (fun gq w' ho hd => ⟨_, rfl, hd ⟨10, .guard⟩ (by simp) rfl (by decide)⟩) (fun gq w' hb ho hd => ?_)) ?_
    · have e7 := ho 7 rfl
      go_simp
    refine OpsG.cons (OpG.val rfl rfl (fun gq w' ho hd => ⟨_, rfl, hd ⟨10, .guard⟩ (by simp) rfl (by decide)⟩) (fun gq w' hb ho hd => ?_)) ?_
    · have e31 : gq 31 = .int .i64 (checkPlan p) := hd ⟨11, .data⟩ (by simp) rfl (by decide)
      have e32 : gq 32 = .int .i64 (checkPlan p) := hd ⟨12, .data⟩ (by simp) rfl (by decide)
      go_simp
    refine OpsG.cons (OpG.val rfl rfl (fun gq w' ho hd => trivial) (fun gq w' hb ho hd => ?_)) ?_
    · have e30 : gq 30 = .bool true := hd ⟨10, .data⟩ (by simp) rfl (by decide)
      have e33 : gq 33 = .bool true := hd ⟨13, .data⟩ (by simp) rfl (by decide)
      go_simp
    refine OpsG.cons (OpG.val rfl rfl (fun gq w' ho hd => trivial) (fun gq w' hb ho hd => ?_)) ?_
    · have e34 : gq 34 = .bool true := hd ⟨14, .data⟩ (by simp) rfl (by decide)
      go_simp
    refine OpsG.cons (OpG.val rfl rfl (fun gq w' ho hd => ⟨_, rfl, hd ⟨15, .guard⟩ (by simp) rfl (by decide)⟩) (fun gq w' hb ho hd => ?_)) ?_
    · have e5 := ho 5 rfl
      obtain ⟨p0, p1, p2, p3, p4, p5, p6⟩ := (hbox2'.out.below (Below.trans hb26 (hb.mono (Below.size hb26))) hbl2).cells
      go_simp
    refine OpsG.cons (OpG.val rfl rfl (fun gq w' ho hd => ⟨_, rfl, hd ⟨15, .guard⟩ (by simp) rfl (by decide)⟩) (fun gq w' hb ho hd => ?_)) ?_
    · have e8 := ho 8 rfl
      obtain ⟨p0, p1, p2, p3, p4, p5, p6⟩ := (hbox8'.out.below hb hbl8).cells
      go_simp
    refine OpsG.cons (OpG.one (d := 38) (p := (fun v w' => v = .bool true)) rfl rfl (fun v w1 w2 h hb => h) (fun gq w' ho hd => ⟨_, rfl, hd ⟨15, .guard⟩ (by simp) rfl (by decide)⟩) (fun gq w' hb ho hd => ?_)) ?_
    · have e36 : gq 36 = .agg #[V1.on, V1.orders, V1.holds, V1.moves, V1.inn, V1.out, V1.fixed] := hd ⟨16, .data⟩ (by simp) rfl (by decide)
      have e37 : gq 37 = .agg #[(nilSV).on, (nilSV).orders, (nilSV).holds, (nilSV).moves, (nilSV).inn, (nilSV).out, (nilSV).fixed] := hd ⟨17, .data⟩ (by simp) rfl (by decide)
      have h1 := hv1.out.grow (Below.trans hb26 (hb.mono (Below.size hb26)))
      have h2 := hv8.out.grow hb
      unfold OpRel
      go_simp
      refine (rSameStates w' _ _ _ h1 h2).mono ?_
      rintro e w2 ⟨rfl, hb2⟩
      exact ⟨_, rfl, rfl, hb2⟩
    refine OpsG.cons (OpG.val rfl rfl (fun gq w' ho hd => trivial) (fun gq w' hb ho hd => ?_)) ?_
    · have e35 : gq 35 = .bool true := hd ⟨15, .data⟩ (by simp) rfl (by decide)
      have e38 : (gq 38) = .bool true := hd ⟨18, .data⟩ (by simp) rfl (by decide)
      go_simp
    refine OpsG.cons (OpG.val rfl rfl (fun gq w' ho hd => trivial) (fun gq w' hb ho hd => ?_)) ?_
    · have e39 : gq 39 = .bool true := hd ⟨19, .data⟩ (by simp) rfl (by decide)
      go_simp
    exact OpsG.nil
    obtain ⟨r20, r21, r22, r23, r24, r25, r26, r27, r28, r29, r30, r31, r32, r33, r34, r35, r36, r37, r38, r39, r4, _⟩ := hR
    replace r20 : (f 20) = .bool true := r20
    replace r24 : (f 24) = .int .i64 (checkState p s) := r24
    replace r27 : (f 27) = .int .i64 (checkState p s) := r27
    replace r38 : (f 38) = .bool true := r38
    simp only [fillA, fillT, List.take_succ_cons, List.take_zero, List.drop_succ_cons, List.drop_zero, List.filterMap_cons, List.filterMap_nil, List.foldl_cons, List.foldl_nil, List.setIfInBounds_toArray, List.set_cons_zero, List.set_cons_succ, r20, r21, r22, r23, r24, r25, r26, r27, r28, r29, r30, r31, r32, r33, r34, r35, r36, r37, r38, r39, r4]
    clear r20 r21 r22 r23 r24 r25 r26 r27 r28 r29 r30 r31 r32 r33 r34 r35 r36 r37 r38 r39 r4
    refine wpList_nil ?_
    go_wp2_with fail
    go_ret
    exact ⟨rfl, hb0.trans ((Below.trans hb06 (hb2.mono (Below.size hb06))).mono hb0.size)⟩
end Wh
namespace Wh
open Go Go.RowKit Go.ChangeShapes Go.WideShapes Go.Deep

theorem cell_lt {w : World} {a : Addr} {v : Value} (h : w.cell? a = some v) : a.block < w.heap.size := by
  by_cases hlt : a.block < w.heap.size
  · exact hlt
  · unfold World.cell? at h
    rw [Array.getElem?_eq_none (by omega)] at h
    simp at h

section
variable {H : Type} {en : TypeId × Value → H} {P : Program} {w : World} {base : Nat} {sp : Nat → Bool} {hd : Bool}

/-- Reads, and each of its slices is within the reach. -/
def Rd (en : TypeId × Value → H) (P : Program) (w : World) (base : Nat) (sp : Nat → Bool) (hd : Bool) (t : TypeId) (cs : List Value) : Prop :=
  ∃ (n : Nat) (x : DataW H × List MemPlace), DataW.trod en P w base sp hd n t cs = some x ∧ ∀ k ∈ x.1.weights P t, k ≤ reachBytes

theorem Rd.int {t : TypeId} {cs : List Value} (ht : P.underlying t = some (.int .i64)) (h : Rd en P w base sp hd t cs) : ∃ n, cs = [.int .i64 n] := by
  obtain ⟨n, x, h, _⟩ := h
  obtain ⟨m, hm, _⟩ := DataW.trod_int ht h
  exact ⟨m, hm⟩
theorem Rd.bool {t : TypeId} {cs : List Value} (ht : P.underlying t = some .bool) (h : Rd en P w base sp hd t cs) : ∃ b, cs = [.bool b] := by
  obtain ⟨n, x, h, _⟩ := h
  obtain ⟨m, hm, _⟩ := DataW.trod_bool ht h
  exact ⟨m, hm⟩

theorem Rd.fields {t : TypeId} {fs : Array Field} {cs : List Value} (hs : P.underlying t = some (.struct fs)) (hone : oneCellFields P fs = true) (hC : P.cellsOf t = fs.size) (h : Rd en P w base sp hd t cs) :
    cs.length = fs.size ∧ ∀ (j : Nat) (f : Field), fs[j]? = some f → ∃ v, cs[j]? = some v ∧ Rd en P w base sp hd f.type [v] := by
  obtain ⟨n, x, h, hw⟩ := h
  obtain ⟨xs, m, _, hx, hlen, hxl, hf⟩ := DataW.trod_struct hs h
  rw [hC] at hlen
  refine ⟨hlen, fun j f hj => ?_⟩
  have hjl : j < fs.size := (Array.getElem?_eq_some_iff.1 hj).1
  obtain ⟨ho, hk⟩ := hone_of hone j f hj
  have h1 := hf j f hj
  rw [ho, hk, List.drop_eq_getElem_cons (by omega)] at h1
  have hys : xs[j]? = some (xs[j]'(by omega)) := List.getElem?_eq_getElem (by omega)
  refine ⟨cs[j]'(by omega), List.getElem?_eq_getElem (by omega), m, xs[j]'(by omega), by rw [← hys, ← h1]; rfl, fun k hkm => hw k ?_⟩
  rw [hx]
  simp only [DataW.weights, hs]
  refine DataW.weights_mem_each (j := j) (t := f.type) (d := (xs[j]'(by omega)).1) ?_ ?_ k hkm
  · rw [List.getElem?_map, Array.getElem?_toList, hj]; rfl
  · rw [List.getElem?_map, hys]; rfl

theorem weights_mem_all {e : TypeId} : ∀ {ds : List (DataW H)} {j : Nat} {d : DataW H}, ds[j]? = some d → ∀ n ∈ d.weights P e, n ∈ DataW.weightsAll P e ds
  | d0 :: ds, 0, d, hd, n, hn => by
    simp only [List.getElem?_cons_zero, Option.some.injEq] at hd
    subst hd
    simp only [DataW.weightsAll, List.mem_append]
    exact Or.inl hn
  | d0 :: ds, j + 1, d, hd, n, hn => by
    simp only [List.getElem?_cons_succ] at hd
    simp only [DataW.weightsAll, List.mem_append]
    exact Or.inr (weights_mem_all hd n hn)
  | [], _, _, hd, _, _ => by simp at hd

/-- A slice's elements, each by itself. -/
theorem Rd.slice {t e : TypeId} {k : Nat} {cs : List Value} (ht : P.underlying t = some (.slice e)) (hC : P.cellsOf e = k) (hB : 0 < P.bytesOf e) (h : Rd en P w base sp hd t cs) :
    ∃ (A : Option Addr) (len c : Nat), cs = [.slice A len c] ∧ len ≤ 140737488355232 ∧
      ∀ i, i < len → ∃ cs', cs'.length = k ∧ Rd en P w base sp hd e cs' ∧ ∀ j v, cs'[j]? = some v → okA A ∧ ablk A < w.heap.size ∧ w.cell? ⟨ablk A, aoff A + (i * k + j), none⟩ = some v := by
  obtain ⟨n, x, h, hw⟩ := h
  rcases open_slice ht h with ⟨rfl, _⟩ | ⟨a, len, cap, m, n', D, Pl, rfl, _, hl, _, hm, hx, hi⟩
  · exact ⟨none, 0, 0, rfl, by omega, fun i hi => by omega⟩
  · have hlm : len ≤ m := by rw [hm]; split <;> omega
    have hreach : (len + (m - len)) * P.bytesOf e ≤ reachBytes := hw _ (by rw [hx]; simp [DataW.weights, ht])
    have hspot : 0 < len → 0 < k → a.spot = none := fun h1 h2 => by
      obtain ⟨cs', hc, _⟩ := hi 0 (by omega)
      rw [hC] at hc
      obtain ⟨_, hcl, hat⟩ := World.cells?_some hc
      have hcell := hat 0 h2
      rw [List.getElem?_eq_getElem (by omega), add_add] at hcell
      have := World.cell?_spot hcell
      simpa [Addr.add] using this
    refine ⟨some a, len, cap, rfl, ?_, fun i hi' => ?_⟩
    · have h1 : len * 1 ≤ (len + (m - len)) * P.bytesOf e := Nat.mul_le_mul (by omega) hB
      simp only [reachBytes] at hreach
      omega
    · obtain ⟨cs', hc, ht'⟩ := hi i (by omega)
      rw [hC] at hc
      obtain ⟨_, hcl, hat⟩ := World.cells?_some hc
      refine ⟨cs', hcl, ⟨n', _, ht', fun q hq => hw q ?_⟩, fun j v hj => ?_⟩
      · rw [hx]
        simp only [DataW.weights, ht, List.mem_cons, List.mem_append]
        refine .inr (.inl (weights_mem_all (j := i) (d := D i) ?_ q hq))
        rw [List.getElem?_map, List.getElem?_range hi']; rfl
      · have hjl : j < k := by rw [← hcl]; exact (List.getElem?_eq_some_iff.1 hj).1
        have hcell := hat j hjl
        rw [hj, add_add] at hcell
        obtain ⟨b, off, spot⟩ := a
        obtain rfl : spot = none := hspot (by omega) (by omega)
        rw [Addr.add_lit] at hcell
        exact ⟨okA_some _ _, cell_lt (a := ⟨b, off + (i * k + j), none⟩) hcell, hcell⟩

/-- A slice whose elements are all of the form 'enc x'. -/
theorem Rd.sl {α : Type} {enc : α → List Value} {k : Nat} {t e : TypeId} {cs : List Value} [Inhabited α] (ht : P.underlying t = some (.slice e)) (hC : P.cellsOf e = k) (hB : 0 < P.bytesOf e) (hk : ∀ x, (enc x).length = k) (h0 : 0 < k)
    (hel : ∀ cs', cs'.length = k → Rd en P w base sp hd e cs' → ∃ x : α, cs' = enc x) (h : Rd en P w base sp hd t cs) : ∃ v l, cs = [v] ∧ Sl enc w w.heap.size v l := by
  obtain ⟨A, len, c, rfl, hlen, hi⟩ := h.slice ht hC hB
  obtain ⟨X, hX⟩ := choose_lt (α := α) (n := len) (p := fun i x => ∀ j v, (enc x)[j]? = some v → okA A ∧ ablk A < w.heap.size ∧ w.cell? ⟨ablk A, aoff A + (i * k + j), none⟩ = some v) (fun i hil => by
    obtain ⟨cs', h1, h2, h3⟩ := hi i hil
    obtain ⟨x, rfl⟩ := hel cs' h1 h2
    exact ⟨x, h3⟩)
  refine ⟨_, (List.range len).map X, rfl, A, c, by simp, by simpa using hlen, fun hn => ?_⟩
  have hcell : ∀ j v, (((List.range len).map X).flatMap enc)[j]? = some v → okA A ∧ ablk A < w.heap.size ∧ w.cell? ⟨ablk A, aoff A + j, none⟩ = some v := fun j v hj => by
    have hjl : j < len * k := by
      have := (List.getElem?_eq_some_iff.1 hj).1
      rw [flat_length enc k hk] at this
      simpa using this
    have hq : j / k < len := (Nat.div_lt_iff_lt_mul h0).2 hjl
    have e1 : j / k * k + j % k = j := by rw [Nat.mul_comm]; exact Nat.div_add_mod j k
    have e2 := flat_get enc k hk ((List.range len).map X) (j / k) (j % k) (X (j / k)) (by rw [List.getElem?_map, List.getElem?_range hq]; rfl) (Nat.mod_lt _ h0)
    rw [e1, hj] at e2
    have := hX (j / k) hq (j % k) v e2.symm
    rwa [e1] at this
  have hlp : 0 < (((List.range len).map X).flatMap enc).length := List.length_pos_iff.2 hn
  obtain ⟨h1, h2, _⟩ := hcell 0 _ (List.getElem?_eq_getElem hlp)
  exact ⟨h1, h2, fun j v hj => (hcell j v hj).2.2⟩

/-- A slice of one-cell elements, each with a reading of its own. -/
theorem Rd.cells {α : Type} [Inhabited α] {k : Nat} {t e : TypeId} {cs : List Value} {enc : Value → α → List Value} {Q : Value → α → Prop} (ht : P.underlying t = some (.slice e)) (hC : P.cellsOf e = k) (hB : 0 < P.bytesOf e) (hk : ∀ v x, (enc v x).length = k) (h0 : 0 < k)
    (hel : ∀ cs', cs'.length = k → Rd en P w base sp hd e cs' → ∃ (v : Value) (x : α), cs' = enc v x ∧ Q v x) (h : Rd en P w base sp hd t cs) :
    ∃ (A : Option Addr) (c : Nat) (l : List α) (vs : List Value), cs = [.slice A l.length c] ∧ l.length ≤ 140737488355232 ∧ vs.length = l.length ∧ At w w.heap.size A ((l.zip vs).flatMap fun x => enc x.2 x.1) ∧
      ∀ (i : Nat) (x : α), l[i]? = some x → ∃ u, vs[i]? = some u ∧ Q u x := by
  obtain ⟨A, len, c, rfl, hlen, hi⟩ := h.slice ht hC hB
  obtain ⟨X, hX⟩ := choose_lt (α := α × Value) (n := len) (p := fun i x => Q x.2 x.1 ∧ ∀ j v, (enc x.2 x.1)[j]? = some v → okA A ∧ ablk A < w.heap.size ∧ w.cell? ⟨ablk A, aoff A + (i * k + j), none⟩ = some v) (fun i hil => by
    obtain ⟨cs', h1, h2, h3⟩ := hi i hil
    obtain ⟨v, x, rfl, hq⟩ := hel cs' h1 h2
    exact ⟨(x, v), hq, h3⟩)
  refine ⟨A, c, (List.range len).map (fun i => (X i).1), (List.range len).map (fun i => (X i).2), by simp, by simpa using hlen, by simp, ?_, fun i x hix => ?_⟩
  · have hz : ((List.range len).map (fun i => (X i).1)).zip ((List.range len).map (fun i => (X i).2)) = (List.range len).map X := by
      rw [List.zip_map']
    rw [hz]
    intro hn
    have hcell : ∀ j v, (((List.range len).map X).flatMap fun x => enc x.2 x.1)[j]? = some v → okA A ∧ ablk A < w.heap.size ∧ w.cell? ⟨ablk A, aoff A + j, none⟩ = some v := fun j v hj => by
      have hjl : j < len * k := by
        have := (List.getElem?_eq_some_iff.1 hj).1
        rw [flat_length (fun x : α × Value => enc x.2 x.1) k (fun x => hk _ _)] at this
        simpa using this
      have hq : j / k < len := (Nat.div_lt_iff_lt_mul h0).2 hjl
      have e1 : j / k * k + j % k = j := by rw [Nat.mul_comm]; exact Nat.div_add_mod j k
      have e2 := flat_get (fun x : α × Value => enc x.2 x.1) k (fun x => hk _ _) ((List.range len).map X) (j / k) (j % k) (X (j / k)) (by rw [List.getElem?_map, List.getElem?_range hq]; rfl) (Nat.mod_lt _ h0)
      rw [e1, hj] at e2
      have := (hX (j / k) hq).2 (j % k) v e2.symm
      rwa [e1] at this
    have hlp : 0 < (((List.range len).map X).flatMap fun x => enc x.2 x.1).length := List.length_pos_iff.2 hn
    obtain ⟨h1, h2, _⟩ := hcell 0 _ (List.getElem?_eq_getElem hlp)
    exact ⟨h1, h2, fun j v hj => (hcell j v hj).2.2⟩
  · rw [List.getElem?_map] at hix
    obtain ⟨i', hi', rfl⟩ := Option.map_eq_some_iff.1 hix
    have hil : i < len := by
      have := (List.getElem?_eq_some_iff.1 hi').1
      simpa using this
    rw [List.getElem?_range hil] at hi'
    obtain rfl := Option.some.inj hi'
    exact ⟨(X i).2, by rw [List.getElem?_map, List.getElem?_range hil]; rfl, (hX i hil).1⟩

theorem Rd.four {t : TypeId} {cs : List Value} {fs : Array Field} (hs : P.underlying t = some (.struct fs)) (hone : oneCellFields P fs = true) (hC : P.cellsOf t = fs.size) (hn : fs.size = 4)
    (h : Rd en P w base sp hd t cs) : ∃ v0 v1 v2 v3, cs = [v0, v1, v2, v3] ∧ ∀ (j : Nat) (f : Field), fs[j]? = some f → ∃ v, [v0, v1, v2, v3][j]? = some v ∧ Rd en P w base sp hd f.type [v] := by
  obtain ⟨hl, hf⟩ := h.fields hs hone hC
  rw [hn] at hl
  match cs, hl with
  | [v0, v1, v2, v3], _ => exact ⟨v0, v1, v2, v3, rfl, hf⟩
end
end Wh
