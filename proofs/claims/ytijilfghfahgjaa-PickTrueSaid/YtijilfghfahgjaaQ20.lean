/- Texts of the claim, joined: WaveE, Choose, AllocN, WaveF, WaveG. -/
import Derived.StillTailTactics
import Derived.Test.YtijilfghfahgjaaChecked
import Derived.BigRegion
import Derived.Deep.Cut
import Derived.Deep.CutRange
import Derived.BigQuiet
import Derived.Test.YtijilfghfahgjaaQ17
import Derived.Test.YtijilfghfahgjaaQ16
import Derived.Test.YtijilfghfahgjaaQ15
import Derived.Test.YtijilfghfahgjaaQ03
import Derived.Test.YtijilfghfahgjaaQ06
import Derived.Test.YtijilfghfahgjaaQ07
import Derived.Test.YtijilfghfahgjaaQ08
import Derived.Test.YtijilfghfahgjaaQ09
import Derived.Test.YtijilfghfahgjaaQ18
import Derived.Test.YtijilfghfahgjaaQ19
import Derived.Test.YtijilfghfahgjaaQ01
import Derived.Test.YtijilfghfahgjaaQ02
import Derived.Test.YtijilfghfahgjaaQ10
namespace Wh
open Go Go.RowKit Go.Shelf Go.Proofs
attribute [local go_sem] run_indexAt_letter evL_tmp evL_const evL_func

theorem cancel_small (p : Plan) (s : State) (o : Int) : small (cancel p s o).1 = true := by
  have hd : small dState = true := by decide
  by_cases hc : checkState p s = 0
  · by_cases h2 : o < 0 ∨ (s.orders.length : Int) ≤ o
    · rw [cancel_none hc h2]
      exact hd
    · obtain ⟨i, rfl⟩ : ∃ i : Nat, o = i := ⟨o.toNat, by omega⟩
      by_cases hk : (s.order i).kind = 2
      · rw [cancel_done hc (by omega) hk]
        exact hd
      · rw [cancel_ok hc (by omega) hk]
        exact check_small (cancel_check hc (by omega))
  · rw [cancel_bad hc]
    exact hd

def wvA : State := (release yardP busyS).1
def wvB : State := (cancel yardP busyS 0).1
theorem wvRel : release yardP busyS = (wvA, 0) := Prod.ext rfl (by decide +kernel)
theorem wvCan : cancel yardP busyS 0 = (wvB, 0) := Prod.ext rfl (by decide +kernel)
theorem wvDone : cancel yardP wvB 0 = (dState, 6) := by decide +kernel
theorem wvNone : cancel yardP busyS 2 = (dState, 4) := by decide +kernel
theorem begRel (w : World) (v vs : Value) (hp : PlanV w w.heap.size v yardP) (hv : StateV w w.heap.size vs busyS) :
    Calls Try.prog 26 #[v, vs] w (ActPost (wvA, 0) w) := by
  rw [← wvRel]
  exact wvRelease w v vs yardP busyS hp hv
theorem begCan {s : State} {o : Int} {r : State × Int} (h : cancel yardP s o = r) (w : World) (v vs : Value) (hp : PlanV w w.heap.size v yardP) (hv : StateV w w.heap.size vs s) :
    Calls Try.prog 27 #[v, vs, .int .i64 o] w (ActPost r w) := by
  rw [← h]
  exact wvCancel w v vs yardP s o hp hv
theorem wvA_orders : wvA.orders.length = 2 := by decide +kernel
theorem wvA_kind : (wvA.order 1).kind = 1 := by decide +kernel
theorem wvA_lines : (wvA.order 1).lines.length = 1 := by decide +kernel
theorem wvA_back : (wvA.line 1 0).back = 2 := by decide +kernel
theorem wvA_holds : wvA.holds.length = 4 := by decide +kernel
theorem wvA_hold : hold wvA.holds 3 = ⟨1, 0, 0, 2⟩ := by decide +kernel
theorem wvB_orders : wvB.orders.length = 2 := by decide +kernel
theorem wvB_kind : (wvB.order 0).kind = 2 := by decide +kernel
theorem wvB_lines : (wvB.order 0).lines.length = 2 := by decide +kernel
theorem wvB_back : (wvB.line 0 0).back = 5 := by decide +kernel
theorem wvB_holds : wvB.holds = [] := by decide +kernel

set_option maxHeartbeats 4000000 in
set_option maxRecDepth 100000 in
theorem waveBegun (w : World) : Calls Try.prog 30 #[] w fun e w' => e = .returned (.bool true) ∧ Below w.heap.size w w' := by
  go_enter Try.func30, Try.ntmps30
  go_wp2_with fail
  refine (lYard _).mono ?_
  rintro e W1 ⟨u1, rfl, hu1, hb1⟩
  go_wp2_with fail
  refine (lBusy _).mono ?_
  rintro e W2 ⟨V2, rfl, ho2, hb2⟩
  go_wp2_with fail
  refine (begRel W2 _ _ (hu1.grow hb2) (ho2.view0 (by decide))).mono ?_
  rintro e W3 ⟨V3, rfl, ho3, hb3⟩
  have hone4 := (ho3).one
  have hnb4 := newBox (W3)
  go_wp2_with (refine wpList_store_state rfl (.tmp 1) (.tmp 13) rfl rfl (World.heap (W3)).size nilSV V3 hnb4 rfl rfl hone4 (fun w4 hbox4 hg4 => ?_); refine Hid.out ?_)
  unfold Hid
  have hbb4 := newBelow hg4
  have hbl4 := hbox4.lt
  clear hone4 hnb4 hg4
  have hB4 := hb1.trans ((hb2.trans ((hb3.trans (hbb4.mono hb3.size)).mono hb2.size)).mono hb1.size)
  have ho3' := Lib.hid (ho3.below hbb4)
  have hbox4' := Lib.hid hbox4
  clear ho3 hbox4 hbb4 hb3 hb2 hb1 hu1 ho2
  go_wp2_with fail
  refine (lYard _).mono ?_
  rintro e W5 ⟨u5, rfl, hu5, hb5⟩
  go_wp2_with fail
  refine (lBusy _).mono ?_
  rintro e W6 ⟨V6, rfl, ho6, hb6⟩
  go_wp2_with fail
  refine (begCan wvCan W6 _ _ (hu5.grow hb6) (ho6.view0 (by decide))).mono ?_
  rintro e W7 ⟨V7, rfl, ho7, hb7⟩
  have hone8 := (ho7).one
  have hnb8 := newBox (W7)
  go_wp2_with (refine wpList_store_state rfl (.tmp 3) (.tmp 19) rfl rfl (World.heap (W7)).size nilSV V7 hnb8 rfl rfl hone8 (fun w8 hbox8 hg8 => ?_); refine Hid.out ?_)
  unfold Hid
  have hbb8 := newBelow hg8
  have hbl8 := hbox8.lt
  clear hone8 hnb8 hg8
  have h48 := hb5.trans ((hb6.trans ((hb7.trans (hbb8.mono hb7.size)).mono hb6.size)).mono hb5.size)
  have ho7' := Lib.hid (ho7.below hbb8)
  have hbox8' := Lib.hid hbox8
  have hvw := Lib.hid (show ∀ W, Below w8.heap.size w8 W → StateV W W.heap.size (.agg #[V7.on, V7.orders, V7.holds, V7.moves, V7.inn, V7.out, V7.fixed]) wvB from fun W hW => (ho7'.out.below hW).view0 (cancel_small yardP busyS 0))
  have hbx := Lib.hid (show ∀ W, Below w8.heap.size w8 W → W.cell? ⟨W7.heap.size, 0, none⟩ = some V7.on ∧ W.cell? ⟨W7.heap.size, 1, none⟩ = some V7.orders ∧ W.cell? ⟨W7.heap.size, 2, none⟩ = some V7.holds ∧ W.cell? ⟨W7.heap.size, 3, none⟩ = some V7.moves ∧
      W.cell? ⟨W7.heap.size, 4, none⟩ = some V7.inn ∧ W.cell? ⟨W7.heap.size, 5, none⟩ = some V7.out ∧ W.cell? ⟨W7.heap.size, 6, none⟩ = some V7.fixed from fun W hW => (hbox8.below hW hbl8).cells)
  clear ho7 hbox8 hbb8 hb7 hb6 hb5 hu5 ho6
  have h88 := Below.refl w8.heap.size w8
  go_wp2_with fail
  refine wp_region_opsP 9 (fun wq => Below (w8).heap.size w8 wq) (KeepSt (w8).heap.size) 2 7 (by decide) (by decide) (by decide) (fun o ho => by injection ho with ho; subst ho; exact ⟨⟨2, .chain⟩, by simp, rfl, rfl⟩)
    [fun ph gq w' => phs (fun v w' => PlanV w' w'.heap.size v yardP) (fun _ _ => True) ph (gq 22) w', fun _ gq _ => gq 23 = .agg #[V7.on, V7.orders, V7.holds, V7.moves, V7.inn, V7.out, V7.fixed],
    fun ph gq w' => phs (fun _ _ => False) (fun v w' => ∃ V : SV, v = .tuple #[V.val, .int .i64 6] ∧ OwnSt w' (w8).heap.size V dState) ph (gq 24) w', fun ph gq w' => phs (fun _ _ => False) (fun v w' => ∃ V : SV, v = .tuple #[V.val, .int .i64 6] ∧ OwnSt w' (w8).heap.size V dState) ph (gq 21) w',
    fun ph gq w' => phs (fun _ _ => False) (fun v w' => ∃ V : SV, v = V.val ∧ OwnSt w' (w8).heap.size V dState) ph (gq 25) w', fun _ gq _ => gq 26 = .int .i64 6,
    fun ph gq w' => (fun (ph : Nat) (v : Value) w' => ∃ b, v = .pointer (some ⟨b, 0, none⟩) ∧ (w8).heap.size ≤ b ∧ (ph ≤ 1 → BoxAt w' b nilSV)) ph (gq 5) w',
    fun ph gq w' => ph = 2 ∧ (∃ b V, gq 5 = .pointer (some ⟨b, 0, none⟩) ∧ (w8).heap.size ≤ b ∧ BoxAt w' b V ∧ OwnSt w' (w8).heap.size V dState), fun _ gq _ => gq 6 = .int .i64 6] (by kernel_rfl) (by kernel_rfl) rfl (by kernel_rfl)
    (fun w1 w2 h h' => h.trans (h'.mono h.size)) (fun k w1 w2 h h' => h.trans h'.1) (Below.refl _ _).drew ?_ (fun f w9 hbw9 hR => ?_)
  simp only [List.take_succ_cons, List.take_zero]
  refine OpsPh.cons (OpPh.one (d := 22) rfl rfl (by decide) (by decide) (fun ph v w1 w2 h hb => by
      rcases ph with _ | ph
      · exact PlanV.grow h hb
      · trivial) (fun k v w1 w2 _ h hb => by trivial) (fun ph gq w' hb ho hd => ?_)) ?_
  · unfold OpRel
    go_simp
    refine (lYard w').mono ?_
    rintro e w2 ⟨u, rfl, hu, hb2⟩
    rcases ph with _ | ph
    · exact ⟨_, rfl, hu, hb2⟩
    · exact ⟨_, rfl, trivial, hb2⟩
  refine OpsPh.cons (OpPh.val rfl rfl (by decide) (by decide) (fun ph gq w' hb ho hd => ?_)) ?_
  · have e1 := ho 3 rfl
    obtain ⟨p0, p1, p2, p3, p4, p5, p6⟩ := hbx.out w' ((h88).trans (hb.mono (h88).size))
    go_simp
  refine OpsPh.cons (OpPh.first (d := 24) (p := phs (fun _ _ => False) (fun v w' => ∃ V : SV, v = .tuple #[V.val, .int .i64 6] ∧ OwnSt w' (w8).heap.size V dState)) rfl rfl (fun ph v w1 w2 h hb => by
      rcases ph with _ | ph
      · exact h
      · obtain ⟨V, h1, h2⟩ := h
        exact ⟨V, h1, h2.below hb⟩) (fun v w1 w2 h hb => by
      obtain ⟨V, h1, h2⟩ := h
      exact ⟨V, h1, hb.2.2 rfl _ _ _ h2⟩) (fun gq w' hb ho hd => ?_)) ?_
  · have eA0 : PlanV w' w'.heap.size (gq 22) yardP := hd ⟨0, .data⟩ (by simp) rfl (by decide)
    have eA1 : gq 23 = .agg #[V7.on, V7.orders, V7.holds, V7.moves, V7.inn, V7.out, V7.fixed] := hd ⟨1, .data⟩ (by simp) rfl (by decide)
    have hvx := hvw.out w' ((h88).trans (hb.mono (h88).size))
    unfold OpRel
    go_simp
    refine (begCan wvDone w' _ _ eA0 hvx).mono ?_
    rintro e w7 ⟨V7, rfl, ho7, hst7⟩
    exact ⟨_, rfl, ⟨V7, rfl, ho7.from_ hb.size⟩, hst7.mono hb.size, fun _ b V hbo => hbo.below hst7 hbo.lt, fun h => absurd h (by decide)⟩
  refine OpsPh.cons (OpPh.one (d := 21) (p := phs (fun _ _ => False) (fun v w' => ∃ V : SV, v = .tuple #[V.val, .int .i64 6] ∧ OwnSt w' (w8).heap.size V dState)) rfl rfl (by decide) (by decide) (fun ph v w1 w2 h hb => by
      rcases ph with _ | ph
      · exact h
      · obtain ⟨V, h1, h2⟩ := h
        exact ⟨V, h1, h2.below hb⟩) (fun k v w1 w2 hk h hb => by
      rcases (show k = 0 ∨ k = 1 by omega) with rfl | rfl
      · exact h.elim
      · obtain ⟨V, h1, h2⟩ := h
        exact ⟨V, h1, hb.2.2 rfl _ _ _ h2⟩) (fun ph gq w' hb ho hd => ?_)) ?_
  · have e90 : phs (fun _ _ => False) (fun v w' => ∃ V : SV, v = .tuple #[V.val, .int .i64 6] ∧ OwnSt w' (w8).heap.size V dState) ph (gq 24) w' := hd ⟨2, .data⟩ (by simp) rfl (by decide)
    rcases ph with _ | ph
    · exact e90.elim
    · obtain ⟨V7, e90, ho7⟩ := e90
      have ho7' := Lib.hid ho7
      clear ho7
      unfold OpRel
      go_simp
      exact ⟨⟨V7, rfl, ho7'.out⟩, Below.refl _ _⟩
  refine OpsPh.cons (OpPh.one (d := 25) (p := phs (fun _ _ => False) (fun v w' => ∃ V : SV, v = V.val ∧ OwnSt w' (w8).heap.size V dState)) rfl rfl (by decide) (by decide) (fun ph v w1 w2 h hb => by
      rcases ph with _ | ph
      · exact h
      · obtain ⟨V, h1, h2⟩ := h
        exact ⟨V, h1, h2.below hb⟩) (fun k v w1 w2 hk h hb => by
      rcases (show k = 0 ∨ k = 1 by omega) with rfl | rfl
      · exact h.elim
      · obtain ⟨V, h1, h2⟩ := h
        exact ⟨V, h1, hb.2.2 rfl _ _ _ h2⟩) (fun ph gq w' hb ho hd => ?_)) ?_
  · have e82 : phs (fun _ _ => False) (fun v w' => ∃ V : SV, v = .tuple #[V.val, .int .i64 6] ∧ OwnSt w' (w8).heap.size V dState) ph (gq 21) w' := hd ⟨3, .data⟩ (by simp) rfl (by decide)
    rcases ph with _ | ph
    · exact e82.elim
    · obtain ⟨V7, e82, ho7⟩ := e82
      have ho7' := Lib.hid ho7
      clear ho7
      unfold OpRel
      go_simp
      exact ⟨⟨V7, rfl, ho7'.out⟩, Below.refl _ _⟩
  refine OpsPh.cons (OpPh.val rfl rfl (by decide) (by decide) (fun ph gq w' hb ho hd => ?_)) ?_
  · have e82 : phs (fun _ _ => False) (fun v w' => ∃ V : SV, v = .tuple #[V.val, .int .i64 6] ∧ OwnSt w' (w8).heap.size V dState) ph (gq 21) w' := hd ⟨3, .data⟩ (by simp) rfl (by decide)
    rcases ph with _ | ph
    · exact e82.elim
    · obtain ⟨V7, e82, ho7⟩ := e82
      clear ho7
      go_simp
  refine OpsPh.cons (OpPh.one (d := 5) (p := fun (ph : Nat) (v : Value) w' => ∃ b, v = .pointer (some ⟨b, 0, none⟩) ∧ (w8).heap.size ≤ b ∧ (ph ≤ 1 → BoxAt w' b nilSV)) rfl rfl (by decide) (by decide) (fun ph v w1 w2 h hb => by
      obtain ⟨b, h1, h2, h3⟩ := h
      exact ⟨b, h1, h2, fun hp => (h3 hp).below hb (h3 hp).lt⟩) (fun k v w1 w2 hk h hb => by
      obtain ⟨b, h1, h2, h3⟩ := h
      refine ⟨b, h1, h2, fun hp => ?_⟩
      obtain rfl : k = 0 := by omega
      exact hb.2.1 rfl _ _ (h3 (by omega))) (fun ph gq w' hb ho hd => ?_)) ?_
  · unfold OpRel
    go_simp
    exact ⟨⟨hb.size, fun _ => Blk.new _ _ _⟩, (Below.refl _ _).alloc (Nat.le_refl _) _⟩
  refine OpsPh.cons (OpPh.second (p := fun gq w' => ∃ b V, gq 5 = .pointer (some ⟨b, 0, none⟩) ∧ (w8).heap.size ≤ b ∧ BoxAt w' b V ∧ OwnSt w' (w8).heap.size V dState) (by decide) rfl (fun gq w1 w2 h hb => by
      obtain ⟨b, V, h1, h2, h3, h4⟩ := h
      exact ⟨b, V, h1, h2, h3.below hb h3.lt, h4.below hb⟩) (fun gq gq' w1 he h => by
      have e1 := he 6 _ 5 (Anc.back (e := ⟨6, .data⟩) rfl (by simp) rfl rfl (Anc.self _)) rfl rfl
      rw [← e1]
      exact h) (fun gq w' hb ho hd => ?_)) ?_
  · have e16 : ∃ b, gq 5 = .pointer (some ⟨b, 0, none⟩) ∧ (w8).heap.size ≤ b ∧ (1 ≤ 1 → BoxAt w' b nilSV) := hd ⟨6, .data⟩ (by simp) rfl (by decide)
    have e91 : ∃ V : SV, gq 25 = V.val ∧ OwnSt w' (w8).heap.size V dState := hd ⟨4, .data⟩ (by simp) rfl (by decide)
    obtain ⟨b, e16, hbl, hbo⟩ := e16
    obtain ⟨V7, e91, ho7⟩ := e91
    have hbo := hbo (Nat.le_refl _)
    refine opRel_store_state (.tmp 5) (.tmp 25) rfl b nilSV V7 hbo e16 e91 ho7.one (fun w8 hbox8 hg8 => ?_)
    exact ⟨⟨b, V7, e16, hbl, hbox8, ho7.keptBy hg8 hbo.blk (by decide) (by decide) (by decide) (by decide) (by decide) (by decide)⟩, keepSt_box hbo hbl hg8⟩
  refine OpsPh.cons (OpPh.val rfl rfl (by decide) (by decide) (fun ph gq w' hb ho hd => ?_)) ?_
  · have e92 : gq 26 = .int .i64 6 := hd ⟨5, .data⟩ (by simp) rfl (by decide)
    go_simp
  exact OpsPh.nil
  obtain ⟨_, r1, ⟨V0, r2, _⟩, ⟨V00, r3, _⟩, ⟨V000, r4, _⟩, r6, _, ⟨_, w9', Vw9, r7, hlw9, hboxw9, how9⟩, r9, _⟩ := hR
  simp only [fillA, fillT, List.take_succ_cons, List.take_zero, List.drop_succ_cons, List.drop_zero, List.filterMap_cons, List.filterMap_nil, List.foldl_cons, List.foldl_nil, List.setIfInBounds_toArray, List.set_cons_zero, List.set_cons_succ, r1, r2, r3, r4, r6, r7, r9]
  generalize f 22 = zw9
  clear r1 r2 r3 r4 r6 r7 r9
  refine wpList_nil ?_
  clear hboxw9 how9 hvw hbx
  go_wp2_with fail
  refine (lYard _).mono ?_
  rintro e W10 ⟨u10, rfl, hu10, hb10⟩
  go_wp2_with fail
  refine (lBusy _).mono ?_
  rintro e W11 ⟨V11, rfl, ho11, hb11⟩
  go_wp2_with fail
  refine (begCan wvNone W11 _ _ (hu10.grow hb11) (ho11.view0 (by decide))).mono ?_
  rintro e W12 ⟨V12, rfl, ho12, hb12⟩
  have hone13 := (ho12).one
  have hnb13 := newBox (W12)
  go_wp2_with (refine wpList_store_state rfl (.tmp 7) (.tmp 31) rfl rfl (World.heap (W12)).size nilSV V12 hnb13 rfl rfl hone13 (fun w13 hbox13 hg13 => ?_); refine Hid.out ?_)
  unfold Hid
  have hbb13 := newBelow hg13
  have hbl13 := hbox13.lt
  clear hone13 hnb13 hg13
  have h913 := hb10.trans ((hb11.trans ((hb12.trans (hbb13.mono hb12.size)).mono hb11.size)).mono hb10.size)
  have h813 := hbw9.trans (h913.mono hbw9.size)
  have h413 := h48.trans (h813.mono h48.size)
  have hB13 := hB4.trans (h413.mono hB4.size)
  have hA := ho3'.out.below h413
  have hBs := ho7'.out.below h813
  have hbA := hbox4'.out.below h413 hbl4
  have hbB := hbox8'.out.below h813 hbl8
  clear ho12 hbox13 hbb13 hb12 hb11 hb10 hu10 ho11 ho3' ho7' hbox4' hbox8' h913 h813 h413 h48 h88
  obtain ⟨_, pA1, pA2, _, _, _, _⟩ := hbA.cells
  obtain ⟨_, pB1, pB2, _, _, _, _⟩ := hbB.cells
  obtain ⟨go, co, curo, vO, hgo, blko, kO, kL⟩ := hA.orderAt (o := 1) (by rw [wvA_orders]; decide)
  obtain ⟨gl, cl, curl, vL, hgl, blkl, kl0, kl1, kl2, kl3⟩ := hA.lineAt (o := 1) (k := 0) (by rw [wvA_orders]; decide) (by rw [wvA_lines]; decide)
  rw [wvA_orders] at vO
  rw [wvA_lines] at vL
  rw [vO] at pA1
  rw [vL] at kL
  rw [wvA_kind] at kO
  rw [wvA_back] at kl3
  have kO : w13.cell? ⟨go, 2, none⟩ = some (.int .i64 1) := kO
  have kL : w13.cell? ⟨go, 3, none⟩ = some (.slice (some ⟨gl, 0, none⟩) 1 cl) := kL
  have kl3 : w13.cell? ⟨gl, 3, none⟩ = some (.int .i64 2) := kl3
  obtain ⟨gh, ch, curh, vH, _, _, hcell⟩ := hA.holds.at (fun _ => rfl) (show 3 < wvA.holds.length by rw [wvA_holds]; decide)
  rw [← hold_get, wvA_hold] at hcell
  rw [wvA_holds] at vH
  rw [vH] at pA2
  have m0 : w13.cell? ⟨gh, 12, none⟩ = some (.int .i64 1) := hcell 0 _ rfl
  have m1 : w13.cell? ⟨gh, 13, none⟩ = some (.int .i64 0) := hcell 1 _ rfl
  have m2 : w13.cell? ⟨gh, 14, none⟩ = some (.int .i64 0) := hcell 2 _ rfl
  have m3 : w13.cell? ⟨gh, 15, none⟩ = some (.int .i64 2) := hcell 3 _ rfl
  obtain ⟨go', co', curo', vO', hgo', blko', kO', kL'⟩ := hBs.orderAt (o := 0) (by rw [wvB_orders]; decide)
  obtain ⟨gl', cl', curl', vL', hgl', blkl', _, _, _, kl3'⟩ := hBs.lineAt (o := 0) (k := 0) (by rw [wvB_orders]; decide) (by rw [wvB_lines]; decide)
  rw [wvB_orders] at vO'
  rw [wvB_lines] at vL'
  rw [vO'] at pB1
  rw [vL'] at kL'
  rw [wvB_kind] at kO'
  rw [wvB_back] at kl3'
  have kO' : w13.cell? ⟨go', 0, none⟩ = some (.int .i64 2) := kO'
  have kL' : w13.cell? ⟨go', 1, none⟩ = some (.slice (some ⟨gl', 0, none⟩) 2 cl') := kL'
  have kl3' : w13.cell? ⟨gl', 3, none⟩ = some (.int .i64 5) := kl3'
  obtain ⟨Ag, cg, vG⟩ := hBs.holds.isSlice
  rw [wvB_holds] at vG
  rw [vG] at pB2
  simp only [List.length_nil] at pB2
  clear hcell vH vO vL vO' vL' vG hA hBs hbA hbB blko blkl blko' blkl' kl0 kl1 kl2 hgo hgl hgo' hgl'
  go_wp2_with fail
  go_ret
  exact ⟨rfl, hB13⟩

end Wh
namespace Wh
open Go Go.RowKit Go.Shelf Go.Proofs
def chosen (c : Int) (n : Nat) : Nat := ((if c < 0 then -(c + 1) else c).tmod n).toNat
theorem chosen_lt (c : Int) {n : Nat} (hn : 0 < n) : chosen c n < n := by
  unfold chosen
  have h : 0 ≤ (if c < 0 then -(c + 1) else c) := by split <;> omega
  generalize (if c < 0 then -(c + 1) else c) = d at h
  have h1 := Int.tmod_lt_of_pos d (show (0 : Int) < n by omega)
  have h2 := Int.tmod_nonneg (n : Int) h
  omega
theorem lChoose (w : World) (c : Int) (n : Nat) (hn : 0 < n) (hn2 : n ≤ 1000000000) (hc : -9223372036854775808 ≤ c ∧ c ≤ 9223372036854775807) :
    Calls Try.prog 19 #[.int .i64 c, .int .i64 n] w fun e w' => e = .returned (.int .i64 (chosen c n)) ∧ w = w' := by
  have hne : ((n : Int) == 0) = false := by simp; omega
  by_cases h : c < 0
  · have e1 : ((chosen c n : Nat) : Int) = (-(c + 1)).tmod n := by
      unfold chosen
      rw [if_pos h, Int.toNat_of_nonneg (Int.tmod_nonneg _ (by omega))]
    have hw1 : IntKind.i64.wrap (c + 1) = c + 1 := IntWalk.i64_in _ (by omega)
    have hw2 : IntKind.i64.wrap (-(c + 1)) = -(c + 1) := IntWalk.i64_in _ (by omega)
    have e2 := Lib.hid e1
    clear e1
    go_enter Try.func19, Try.ntmps19
    go_wp2_with fail
    go_ret
    exact ⟨ret_int (by rw [e2.out, Int.neg_tmod]), rfl⟩
  · have e1 : ((chosen c n : Nat) : Int) = c.tmod n := by
      unfold chosen
      rw [if_neg h, Int.toNat_of_nonneg (Int.tmod_nonneg _ (by omega))]
    have e2 := Lib.hid e1
    clear e1
    go_enter Try.func19, Try.ntmps19
    go_wp2_with fail
    go_ret
    exact ⟨ret_int (by rw [e2.out, Int.tmod_eq_emod_of_nonneg (by omega)]), rfl⟩
end Wh
namespace Wh
open Go Go.RowKit Go.Shelf Go.Proofs
attribute [local go_sem] run_indexAt_letter evL_tmp evL_const evL_func

theorem StateV.holdsV {w : World} {B : Nat} {V : SV} {s : State} (h : StateV w B V.val s) : Sl cHold w B V.holds s.holds := by
  obtain ⟨v0, v1, v2, v3, v4, v5, v6, e, _, _, h0, _⟩ := h
  unfold SV.val at e
  injection e with e
  simp only [Array.mk.injEq, List.cons.injEq, and_true] at e
  rw [e.2.2.1]
  exact h0
theorem hdKeptAt (w : World) (v : Value) (l : List Hold) (o ln : Int) (hok : holdsOk l = true) (hv : Sl cHold w w.heap.size v l) :
    Calls Try.prog 25 #[v, .int .i64 o, .int .i64 ln] w fun e w' => e = .returned (.tuple #[.int .i64 (kept l o ln), .int .i64 0]) ∧ Below w.heap.size w w' := by
  have := hdKept w v l o ln hv
  rwa [keptE_ok hok] at this

end Wh
namespace Wh
open Go Go.RowKit Go.Shelf Go.Proofs
attribute [local go_sem] run_indexAt_letter evL_tmp evL_const evL_func

theorem wvRelAt {p : Plan} {s x : State} {c : Int} (h : release p s = (x, c)) (w : World) (v vs : Value) (hp : PlanV w w.heap.size v p) (hv : StateV w w.heap.size vs s) :
    Calls Try.prog 26 #[v, vs] w fun e w' => ∃ V : SV, e = .returned (.tuple #[V.val, .int .i64 c]) ∧ OwnSt w' w.heap.size V x ∧ Below w.heap.size w w' := by
  have := wvRelease w v vs p s hp hv
  rw [h] at this
  exact this
end Wh
namespace Wh
open Go Go.RowKit Go.Shelf Go.Proofs
attribute [local go_sem] run_indexAt_letter evL_tmp evL_const evL_func

set_option maxHeartbeats 20000000 in
set_option maxRecDepth 100000 in
theorem waveFirstWalk (w : World) (vv vs : Value) (p : Plan) (s : State) (one two k i : Int) (hp : PlanV w w.heap.size vv p) (hv : StateV w w.heap.size vs s)
    (hone : -9223372036854775808 ≤ one ∧ one ≤ 9223372036854775807) (htwo : -9223372036854775808 ≤ two ∧ two ≤ 9223372036854775807) (hk : -9223372036854775808 ≤ k ∧ k ≤ 9223372036854775807) (hi : -9223372036854775808 ≤ i ∧ i ≤ 9223372036854775807) :
    Calls Try.prog 9 #[vv, vs, .int .i64 one, .int .i64 two, .int .i64 k, .int .i64 i] w fun e w' => e = .returned (.bool true) ∧ Below w.heap.size w w' := by
  have hone' := Lib.hid hone
  have htwo' := Lib.hid htwo
  have hk' := Lib.hid hk
  have hi' := Lib.hid hi
  clear hone htwo hk hi
  by_cases hc : checkState p s = 0
  · have hcs := Lib.hid hc
    have hsn := Lib.hid (checkState_zero.1 hc).1
    obtain ⟨a, ha⟩ : ∃ a, releaseS p s = a := ⟨_, rfl⟩
    have hra := Lib.hid (show release p s = (a, 0) by rw [release_ok hc, ha])
    have hca := Lib.hid (show checkState p a = 0 by rw [← ha]; exact release_check hc)
    have hsa := Lib.hid (checkState_zero.1 hca.out).1
    have hal := Lib.hid (show a.orders.length = s.orders.length by rw [← ha]; exact release_len hc)
    have hln := Lib.hid (show ∀ o, o < s.orders.length → (a.order o).lines.length = (s.order o).lines.length from fun o ho => by rw [← ha]; exact release_lines hc ho)
    have hfi := Lib.hid (show ∀ x y u v : Nat, x < y → y < s.orders.length → u < (s.order x).lines.length → v < (s.order y).lines.length → (a.line x u).good = (a.line y v).good → 0 < (a.line x u).back → (a.order x).kind = 1 → kept a.holds y v = kept s.holds y v from fun x y u v h1 h2 h3 h4 h5 h6 h7 => by
      rw [← ha] at h5 h6 h7 ⊢
      exact release_first hc h1 h2 h3 h4 h5 h6 h7)
    have h4 := hsn.out.orders4
    clear hc ha
    obtain ⟨Ab, cb, As, cs, rfl, hP', hBn, hSz, hlb, hls⟩ := openPl hp
    obtain ⟨A0, c0, A1, c1, A2, c2, A3, c3, A4, c4, A5, c5, A6, c6, rfl, hV, hN, hO, hH, hM, hI, hU, hX, hl0, hl1, hl2, hl3, hl4, hl5, hl6⟩ := openOne hv
    go_enter Try.func9, Try.ntmps9
    go_wp2_with fail
    obtain ⟨W0, hW0, hb0, hsz0, hsz1, hsE, hK⟩ := boxesTwo w p s Ab cb As cs A0 c0 A1 c1 A2 c2 A3 c3 A4 c4 A5 c5 A6 c6
    rw [hW0]
    clear hW0
    obtain ⟨⟨y0, y1⟩, x0, x1, x2, x3, x4, x5, x6, hbz0, hbz1⟩ := hK.out W0 (Below.refl W0.heap.size W0)
    go_wp2_with fail
    clear y0 y1 x0 x1 x2 x3 x4 x5 x6 hbz0 hbz1
    refine (wvRelAt hra.out _ _ _ (hP'.out _ hb0) (hV.out _ hb0)).mono ?_
    rintro e W1 ⟨V1, rfl, ho1, hb1⟩
    obtain ⟨Ao, co, hvo⟩ := ho1.ordersSlice
    rw [hal.out] at hvo
    obtain ⟨b0, b1, b2, b3, b4, b5, b6, b7, b8⟩ := V1
    obtain rfl : b1 = .slice Ao s.orders.length co := hvo
    have hone2 := (ho1).one
    have hnb2 := newBox (W1)
    go_wp2_with (refine wpList_store_state rfl (.tmp 13) (.tmp 29) rfl rfl (World.heap (W1)).size nilSV (⟨b0, .slice Ao s.orders.length co, b2, b3, b4, b5, b6, b7, b8⟩ : SV) hnb2 rfl rfl hone2 (fun w2 hbox2 hg2 => ?_); refine Hid.out ?_)
    unfold Hid
    have hbb2 := newBelow hg2
    have hbl2 := hbox2.lt
    clear hone2 hnb2 hg2
    have h02 := hb1.trans (hbb2.mono hb1.size)
    have hB2 := hb0.trans (h02.mono hb0.size)
    have hO2 := Lib.hid (ho1.below hbb2)
    have hv2 := Lib.hid (hO2.out.view0 (check_small hca.out))
    have hbox2' := Lib.hid hbox2
    clear hbox2 ho1 hb1 hbb2
    obtain ⟨⟨y0, y1⟩, x0, x1, x2, x3, x4, x5, x6, hbz0, hbz1⟩ := hK.out w2 (h02)
    have p1 : w2.cell? ⟨W1.heap.size, 1, none⟩ = some (.slice Ao s.orders.length co) := hbox2'.out.cells.2.1
    by_cases hl2 : s.orders.length < 2
    · have hl2' : (s.orders.length : Int) < 2 := by omega
      go_wp2_with fail
      clear y0 y1 x0 x1 x2 x3 x4 x5 x6 hbz0 hbz1
      clear p1
      refine (waveBegun _).mono ?_
      rintro e W9 ⟨rfl, h9⟩
      have h09 := h02.trans (h9.mono h02.size)
      obtain ⟨⟨y0, y1⟩, x0, x1, x2, x3, x4, x5, x6, hbz0, hbz1⟩ := hK.out W9 (h09)
      have p1 : W9.cell? ⟨W1.heap.size, 1, none⟩ = some (.slice Ao s.orders.length co) := (hbox2'.out.below h9 hbl2).cells.2.1
      go_wp2_with fail
      go_ret
      exact ⟨rfl, hB2.trans (h9.mono hB2.size)⟩
    have hl2' : ¬ (s.orders.length : Int) < 2 := by omega
    have hn1 : 0 < s.orders.length := by omega
    have hn2 : s.orders.length ≤ 1000000000 := by omega
    go_wp2_with fail
    have hone := hone'.out
    have htwo := htwo'.out
    go_quiet ((go_at_call 19; exact quiet_left (lChoose _ _ _ (by assumption) (by assumption) (by assumption))))
    clear hone htwo
    have h2q := below_drewN (Below.refl w2.heap.size w2) nq
    have hx := chosen_lt one (n := s.orders.length) (by omega)
    have hy := chosen_lt two (n := s.orders.length) (by omega)
    generalize chosen one s.orders.length = x at hx ⊢
    generalize chosen two s.orders.length = y at hy ⊢
    clear p1 hl2' hl2
    clear y0 y1 x0 x1 x2 x3 x4 x5 x6 hbz0 hbz1
    generalize w2.drewN nq = W3 at h2q ⊢
    have h03 := h02.trans (h2q.mono h02.size)
    have hB3 := hb0.trans (h03.mono hb0.size)
    have hxi : (x : Int) < (s.orders.length : Int) := by omega
    have hyi : (y : Int) < (s.orders.length : Int) := by omega
    by_cases hxy : y ≤ x
    · have hxy' : (y : Int) ≤ (x : Int) := by omega
      go_wp2_with fail
      go_quiet (fail)
      have hBq := below_drewN hB3 nq
      generalize W3.drewN nq = W4 at hBq ⊢
      go_wp2_with fail
      refine wp_region_wld (by kernel_rfl) (by kernel_rfl) ?_
      repeat (go_big_quiet_step ((go_at_call 30; refine calls_wld (waveBegun _))))
      refine wpQuiet_nil ?_
      intro W6 hw'
      have hb6 := below_of_cls hw'
      clear hw'
      go_wp2_with fail
      go_ret
      exact ⟨rfl, hBq.trans (hb6.mono hBq.size)⟩
    have hxy' : (x : Int) < (y : Int) := by omega
    have hxa : x < a.orders.length := by rw [hal.out]; exact hx
    have hya : y < a.orders.length := by rw [hal.out]; exact hy
    obtain ⟨go, _, _, eo, -⟩ := hO2.out.orderAt hxa
    injection eo with eo e2 e3
    subst eo
    clear e2 e3
    have l3x := hsn.out.lines3 hx
    have l3y := hsn.out.lines3 hy
    change 1 ≤ (orderAt s.orders x).lines.length ∧ (orderAt s.orders x).lines.length ≤ 3 at l3x
    change 1 ≤ (orderAt s.orders y).lines.length ∧ (orderAt s.orders y).lines.length ≤ 3 at l3y
    have n1 : (((orderAt s.orders x).lines.length : Int) == 0) = false := beq_eq_false_iff_ne.2 (by omega)
    have n2 : (((orderAt s.orders y).lines.length : Int) == 0) = false := beq_eq_false_iff_ne.2 (by omega)
    obtain ⟨⟨y0, y1⟩, x0, x1, x2, x3, x4, x5, x6, hbz0, hbz1⟩ := hK.out W3 (h03)
    have p1 : W3.cell? ⟨W1.heap.size, 1, none⟩ = some (.slice (some ⟨go, 0, none⟩) s.orders.length co) := (hbox2'.out.below h2q hbl2).cells.2.1
    obtain ⟨Ax, cx, ox, lx, _, d1, hsx⟩ := (hO.out W3 hB3).order hx
    obtain ⟨Ay, cy, oy, ly, _, d3, hsy⟩ := (hO.out W3 hB3).order hy
    obtain ⟨_, _, _, z1⟩ := (hO2.out.below h2q).orderCells hxa rfl
    obtain ⟨_, _, _, z3⟩ := (hO2.out.below h2q).orderCells hya rfl
    have hlx := hln.out x hx
    have hly := hln.out y hy
    obtain ⟨gx, cgx, ex, hgx⟩ := hO2.out.lineSlice hxa (by rw [hlx]; exact l3x.1)
    obtain ⟨gy, cgy, ey, hgy⟩ := hO2.out.lineSlice hya (by rw [hly]; exact l3y.1)
    rw [hlx] at ex
    rw [hly] at ey
    have ex' := Lib.hid ex
    have ey' := Lib.hid ey
    rw [ex] at z1
    rw [ey] at z3
    change W3.cell? _ = some (.slice _ (orderAt s.orders x).lines.length cgx) at z1
    change W3.cell? _ = some (.slice _ (orderAt s.orders y).lines.length cgy) at z3
    clear ex ey
    go_wp2_with fail
    go_quiet (fail)
    clear y0 y1 x0 x1 x2 x3 x4 x5 x6 hbz0 hbz1
    clear p1 d1 d3 z1 z3 hsx hsy ox lx oy ly n1 n2
    have h2r := below_drewN h2q nq
    generalize W3.drewN nq = W4 at h2r ⊢
    clear h2q h03 hB3
    have h04 := h02.trans (h2r.mono h02.size)
    have hB4 := hb0.trans (h04.mono hb0.size)
    obtain ⟨⟨y0, y1⟩, x0, x1, x2, x3, x4, x5, x6, hbz0, hbz1⟩ := hK.out W4 (h04)
    obtain ⟨Ax, cx, ox, lx, _, d1, hsx⟩ := (hO.out W4 hB4).order hx
    obtain ⟨Ay, cy, oy, ly, _, d3, hsy⟩ := (hO.out W4 hB4).order hy
    have m1 : 0 < (orderAt s.orders x).lines.length := l3x.1
    have m2 : (orderAt s.orders x).lines.length ≤ 1000000000 := by omega
    have m3 : 0 < (orderAt s.orders y).lines.length := l3y.1
    have m4 : (orderAt s.orders y).lines.length ≤ 1000000000 := by omega
    go_wp2_with fail
    have hk := hk'.out
    have hi := hi'.out
    go_quiet ((go_at_call 19; exact quiet_left (lChoose _ _ _ (by assumption) (by assumption) (by assumption))))
    clear hk hi
    have hu := chosen_lt k (n := (orderAt s.orders x).lines.length) m1
    have hvl := chosen_lt i (n := (orderAt s.orders y).lines.length) m3
    generalize chosen k (orderAt s.orders x).lines.length = u at hu ⊢
    generalize chosen i (orderAt s.orders y).lines.length = v at hvl ⊢
    clear y0 y1 x0 x1 x2 x3 x4 x5 x6 hbz0 hbz1
    clear d1 d3 hsx hsy ox lx oy ly m1 m2 m3 m4
    have h26 := below_drewN h2r nq
    generalize W4.drewN nq = W6 at h26 ⊢
    clear h2r h04 hB4
    have hke := Lib.hid (hfi.out x y u v (by omega) hy hu hvl)
    have hua : u < (a.order x).lines.length := by rw [hlx]; exact hu
    have hva : v < (a.order y).lines.length := by rw [hly]; exact hvl
    have hui : (u : Int) < ((s.order x).lines.length : Int) := by have : u < (s.order x).lines.length := hu; omega
    have hvi : (v : Int) < ((s.order y).lines.length : Int) := by have : v < (s.order y).lines.length := hvl; omega
    obtain ⟨_, hgol, _, z1⟩ := (hO2.out.below h26).orderCells hxa rfl
    obtain ⟨_, _, _, z3⟩ := (hO2.out.below h26).orderCells hya rfl
    rw [ex'.out] at z1
    rw [ey'.out] at z3
    obtain ⟨t1, f0, f1, f2, f3⟩ := (hO2.out.below h26).lineCells hxa hua ex'.out
    obtain ⟨t2, r0, r1, r2, r3⟩ := (hO2.out.below h26).lineCells hya hva ey'.out
    have p1 : W6.cell? ⟨W1.heap.size, 1, none⟩ = some (.slice (some ⟨go, 0, none⟩) s.orders.length co) := (hbox2'.out.below h26 hbl2).cells.2.1
    have t13 : W1.heap.size < W6.heap.size := Nat.lt_of_lt_of_le hbl2 h26.size
    have kAB1 : Blk ((W6.alloc (.cells #[.int .i64 (a.line x u).good, .int .i64 (a.line x u).want, .int .i64 (a.line x u).got, .int .i64 (a.line x u).back] 56)).alloc (.cells #[.int .i64 (a.line y v).good, .int .i64 (a.line y v).want, .int .i64 (a.line y v).got, .int .i64 (a.line y v).back] 56)).drew W6.heap.size 56 [.int .i64 (a.line x u).good, .int .i64 (a.line x u).want, .int .i64 (a.line x u).got, .int .i64 (a.line x u).back] ∧ Blk ((W6.alloc (.cells #[.int .i64 (a.line x u).good, .int .i64 (a.line x u).want, .int .i64 (a.line x u).got, .int .i64 (a.line x u).back] 56)).alloc (.cells #[.int .i64 (a.line y v).good, .int .i64 (a.line y v).want, .int .i64 (a.line y v).got, .int .i64 (a.line y v).back] 56)).drew (W6.heap.size + 1) 56 [.int .i64 (a.line y v).good, .int .i64 (a.line y v).want, .int .i64 (a.line y v).got, .int .i64 (a.line y v).back] ∧
        Below w2.heap.size w2 ((W6.alloc (.cells #[.int .i64 (a.line x u).good, .int .i64 (a.line x u).want, .int .i64 (a.line x u).got, .int .i64 (a.line x u).back] 56)).alloc (.cells #[.int .i64 (a.line y v).good, .int .i64 (a.line y v).want, .int .i64 (a.line y v).got, .int .i64 (a.line y v).back] 56)).drew := by
      have k1 := Blk.new (W6.alloc (.cells #[.int .i64 (a.line x u).good, .int .i64 (a.line x u).want, .int .i64 (a.line x u).got, .int .i64 (a.line x u).back] 56)) 56 #[.int .i64 (a.line y v).good, .int .i64 (a.line y v).want, .int .i64 (a.line y v).got, .int .i64 (a.line y v).back]
      rw [World.size_alloc] at k1
      exact ⟨(Blk.new W6 56 #[.int .i64 (a.line x u).good, .int .i64 (a.line x u).want, .int .i64 (a.line x u).got, .int .i64 (a.line x u).back]).alloc _, k1, ((h26.alloc h26.size _).alloc (by have := h26.size; simp; omega) _).drew⟩
    have kAB2 : Blk ((W6.alloc (.cells #[.int .i64 (a.line y v).good, .int .i64 (a.line y v).want, .int .i64 (a.line y v).got, .int .i64 (a.line y v).back] 56)).alloc (.cells #[.int .i64 (a.line x u).good, .int .i64 (a.line x u).want, .int .i64 (a.line x u).got, .int .i64 (a.line x u).back] 56)).drew (W6.heap.size + 1) 56 [.int .i64 (a.line x u).good, .int .i64 (a.line x u).want, .int .i64 (a.line x u).got, .int .i64 (a.line x u).back] ∧ Blk ((W6.alloc (.cells #[.int .i64 (a.line y v).good, .int .i64 (a.line y v).want, .int .i64 (a.line y v).got, .int .i64 (a.line y v).back] 56)).alloc (.cells #[.int .i64 (a.line x u).good, .int .i64 (a.line x u).want, .int .i64 (a.line x u).got, .int .i64 (a.line x u).back] 56)).drew W6.heap.size 56 [.int .i64 (a.line y v).good, .int .i64 (a.line y v).want, .int .i64 (a.line y v).got, .int .i64 (a.line y v).back] ∧
        Below w2.heap.size w2 ((W6.alloc (.cells #[.int .i64 (a.line y v).good, .int .i64 (a.line y v).want, .int .i64 (a.line y v).got, .int .i64 (a.line y v).back] 56)).alloc (.cells #[.int .i64 (a.line x u).good, .int .i64 (a.line x u).want, .int .i64 (a.line x u).got, .int .i64 (a.line x u).back] 56)).drew := by
      have k1 := Blk.new (W6.alloc (.cells #[.int .i64 (a.line y v).good, .int .i64 (a.line y v).want, .int .i64 (a.line y v).got, .int .i64 (a.line y v).back] 56)) 56 #[.int .i64 (a.line x u).good, .int .i64 (a.line x u).want, .int .i64 (a.line x u).got, .int .i64 (a.line x u).back]
      rw [World.size_alloc] at k1
      exact ⟨k1, (Blk.new W6 56 #[.int .i64 (a.line y v).good, .int .i64 (a.line y v).want, .int .i64 (a.line y v).got, .int .i64 (a.line y v).back]).alloc _, ((h26.alloc h26.size _).alloc (by have := h26.size; simp; omega) _).drew⟩
    have hAB1 := Lib.hid kAB1
    have hAB2 := Lib.hid kAB2
    clear kAB1 kAB2 hlx hly l3x l3y
    go_upto_region 8 with fail
    go_cut [19, 20] from 170 (fun pa pb wx => ∃ A B : Nat, pa = .pointer (some ⟨A, 0, none⟩) ∧ pb = .pointer (some ⟨B, 0, none⟩) ∧ Blk wx A 56 [.int .i64 (a.line x u).good, .int .i64 (a.line x u).want, .int .i64 (a.line x u).got, .int .i64 (a.line x u).back] ∧ Blk wx B 56 [.int .i64 (a.line y v).good, .int .i64 (a.line y v).want, .int .i64 (a.line y v).got, .int .i64 (a.line y v).back] ∧ Below w2.heap.size w2 wx)
    case first =>
      go_region
      · go_wp2_with fail
        go_meet
        exact ⟨_, _, rfl, rfl, hAB1.out⟩
      · go_wp2_with fail
        go_meet
        exact ⟨_, _, rfl, rfl, hAB2.out⟩
    case rest =>
      obtain ⟨A, B, rfl, rfl, hA, hB, h27⟩ := hcut
      clear hAB1 hAB2 p1 z1 z3 f0 f1 f2 f3 r0 r1 r2 r3 t1 t2 t13 hgol hxi hyi hui hvi
      have h07 := h02.trans (h27.mono h02.size)
      have hB7 := hb0.trans (h07.mono hb0.size)
      have hA' := Lib.hid hA
      have hB' := Lib.hid hB
      clear hA hB
      obtain ⟨⟨y0, y1⟩, x0, x1, x2, x3, x4, x5, x6, hbz0, hbz1⟩ := hK.out wc (h07)
      go_wp2_with fail
      clear y0 y1 x0 x1 x2 x3 x4 x5 x6 hbz0 hbz1
      refine (hdKeptAt _ _ s.holds y v hsn.out.holds (hH.out _ hB7)).mono ?_
      rintro e W8 ⟨rfl, h8⟩
      have h28 := h27.trans (h8.mono h27.size)
      have p2 : W8.cell? ⟨W1.heap.size, 2, none⟩ = some b2 := (hbox2'.out.below h28 hbl2).cells.2.2.1
      go_wp2_with fail
      clear p2
      refine (hdKeptAt _ _ a.holds y v hsa.out.holds (hv2.out.grow h28).holdsV).mono ?_
      rintro e W9 ⟨rfl, h9⟩
      have h89 := h8.trans (h9.mono h8.size)
      have h29 := h27.trans (h89.mono h27.size)
      have hB9 := hB7.trans (h89.mono hB7.size)
      go_wp2_with fail
      refine (waveBegun _).mono ?_
      rintro e W10 ⟨rfl, h10⟩
      have h710 := h89.trans (h10.mono h89.size)
      have h210 := h29.trans (h10.mono h29.size)
      have hB10 := hB9.trans (h10.mono hB9.size)
      have a0 := (hA'.out.below h710 hA'.out.lt).cell (j := 0) rfl
      have a3 := (hA'.out.below h710 hA'.out.lt).cell (j := 3) rfl
      have q0 := (hB'.out.below h710 hB'.out.lt).cell (j := 0) rfl
      obtain ⟨_, _, z0, _⟩ := (hO2.out.below h210).orderCells hxa rfl
      have p1 : W10.cell? ⟨W1.heap.size, 1, none⟩ = some (.slice (some ⟨go, 0, none⟩) s.orders.length co) := (hbox2'.out.below h210 hbl2).cells.2.1
      have hwas := hke.out
      have hln := (hsa.out.line hxa hua).2.2.2
      clear hA' hB' h710 h210 h89 h29
      by_cases g1 : (a.line x u).good = (a.line y v).good
      · have t1 : ((a.line x u).good != (a.line y v).good) = false := by simpa using g1
        by_cases g2 : (a.line x u).back = 0
        · rw [g2] at a3
          clear g1 g2
          go_wp2_with fail
          go_ret
          exact ⟨rfl, hB10⟩
        · have t2 : ((a.line x u).back == 0) = false := beq_eq_false_iff_ne.2 g2
          by_cases g3 : (a.order x).kind = 1
          · rw [hwas g1 (by omega) g3]
            rw [g3] at z0
            clear g1 g2 g3 hwas
            go_wp2_with fail
            go_ret
            exact ⟨rfl, hB10⟩
          · have t3 : ((a.order x).kind != 1) = true := by simpa using g3
            clear g1 g2 g3 hwas
            go_wp2_with fail
            go_ret
            exact ⟨rfl, hB10⟩
      · have t1 : ((a.line x u).good != (a.line y v).good) = true := by simpa using g1
        clear g1
        go_wp2_with fail
        go_ret
        exact ⟨rfl, hB10⟩
  · have hne : (checkState p s != 0) = true := by simpa using hc
    have hra := Lib.hid (release_bad hc)
    clear hc
    obtain ⟨Ab, cb, As, cs, rfl, hP', hBn, hSz, hlb, hls⟩ := openPl hp
    obtain ⟨A0, c0, A1, c1, A2, c2, A3, c3, A4, c4, A5, c5, A6, c6, rfl, hV, hN, hO, hH, hM, hI, hU, hX, hl0, hl1, hl2, hl3, hl4, hl5, hl6⟩ := openOne hv
    go_enter Try.func9, Try.ntmps9
    go_wp2_with fail
    obtain ⟨W0, hW0, hb0, hsz0, hsz1, hsE, hK⟩ := boxesTwo w p s Ab cb As cs A0 c0 A1 c1 A2 c2 A3 c3 A4 c4 A5 c5 A6 c6
    rw [hW0]
    clear hW0
    obtain ⟨⟨y0, y1⟩, x0, x1, x2, x3, x4, x5, x6, hbz0, hbz1⟩ := hK.out W0 (Below.refl W0.heap.size W0)
    go_wp2_with fail
    clear y0 y1 x0 x1 x2 x3 x4 x5 x6 hbz0 hbz1
    refine (wvRelAt hra.out _ _ _ (hP'.out _ hb0) (hV.out _ hb0)).mono ?_
    rintro e W1 ⟨V1, rfl, ho1, hb1⟩
    have hone2 := (ho1).one
    have hnb2 := newBox (W1)
    go_wp2_with (refine wpList_store_state rfl (.tmp 13) (.tmp 29) rfl rfl (World.heap (W1)).size nilSV V1 hnb2 rfl rfl hone2 (fun w2 hbox2 hg2 => ?_); refine Hid.out ?_)
    unfold Hid
    have hbb2 := newBelow hg2
    have hbl2 := hbox2.lt
    clear hone2 hnb2 hg2
    have hB2 := hb0.trans ((hb1.trans (hbb2.mono hb1.size)).mono hb0.size)
    clear hbox2 ho1 hb1 hbb2
    go_wp2_with fail
    refine (waveBegun _).mono ?_
    rintro e W9 ⟨rfl, h9⟩
    go_wp2_with fail
    go_ret
    exact ⟨rfl, hB2.trans (h9.mono hB2.size)⟩
end Wh
