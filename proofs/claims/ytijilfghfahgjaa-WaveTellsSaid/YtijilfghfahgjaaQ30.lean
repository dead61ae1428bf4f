/- Texts of the claim, joined: WaveE, Open, OpenT, OpenH. -/
import Derived.SizedLaws
import Derived.Deep.Slices
import Derived.Deep.Fields
import Derived.ChangeSame
import Derived.ChangeOld
import Derived.Carry
import Derived.Test.YtijilfghfahgjaaChecked
import Derived.KernelRfl
import Derived.Test.YtijilfghfahgjaaQ29
import Derived.Test.YtijilfghfahgjaaQ01
import Derived.Test.YtijilfghfahgjaaQ02
import Derived.Test.YtijilfghfahgjaaQ07
namespace Wh
open Go Go.RowKit Go.Shelf Go.Proofs
attribute [local go_sem] run_indexAt_letter evL_tmp evL_const evL_func

theorem release_small (p : Plan) (s : State) : small (release p s).1 = true := by
  by_cases h : checkState p s = 0
  · refine check_small (p := p) ?_
    rw [release_ok h]
    exact release_check h
  · rw [release_bad h]
    show small dState = true
    decide
theorem cancel_small (p : Plan) (s : State) (o : Int) : small (cancel p s o).1 = true := by
  have hd : small dState = true := by decide
  by_cases hc : checkState p s = 0
  · by_cases h2 : o < 0 ∨ (s.orders.length : Int) ≤ o
    · rw [cancel_none hc h2]
      exact hd
    · obtain ⟨i, rfl⟩ : ∃ i : Nat, o = i := ⟨o.toNat, by omega⟩
      by_cases hk : (s.order i).kind = 2
      · rw [cancel_done hc (by omega) hk]
        exact hd
      · rw [cancel_ok hc (by omega) hk]
        exact check_small (cancel_check hc (by omega))
  · rw [cancel_bad hc]
    exact hd

def wvA : State := (release yardP busyS).1
def wvB : State := (cancel yardP busyS 0).1
theorem wvRel : release yardP busyS = (wvA, 0) := Prod.ext rfl (by decide +kernel)
theorem wvCan : cancel yardP busyS 0 = (wvB, 0) := Prod.ext rfl (by decide +kernel)
theorem wvDone : cancel yardP wvB 0 = (dState, 6) := by decide +kernel
theorem wvNone : cancel yardP busyS 2 = (dState, 4) := by decide +kernel
theorem begRel (w : World) (v vs : Value) (hp : PlanV w w.heap.size v yardP) (hv : StateV w w.heap.size vs busyS) :
    Calls Try.prog 26 #[v, vs] w (ActPost (wvA, 0) w) := by
  rw [← wvRel]
  exact wvRelease w v vs yardP busyS hp hv
theorem begCan {s : State} {o : Int} {r : State × Int} (h : cancel yardP s o = r) (w : World) (v vs : Value) (hp : PlanV w w.heap.size v yardP) (hv : StateV w w.heap.size vs s) :
    Calls Try.prog 27 #[v, vs, .int .i64 o] w (ActPost r w) := by
  rw [← h]
  exact wvCancel w v vs yardP s o hp hv
theorem wvA_orders : wvA.orders.length = 2 := by decide +kernel
theorem wvA_kind : (wvA.order 1).kind = 1 := by decide +kernel
theorem wvA_lines : (wvA.order 1).lines.length = 1 := by decide +kernel
theorem wvA_back : (wvA.line 1 0).back = 2 := by decide +kernel
theorem wvA_holds : wvA.holds.length = 4 := by decide +kernel
theorem wvA_hold : hold wvA.holds 3 = ⟨1, 0, 0, 2⟩ := by decide +kernel
theorem wvB_orders : wvB.orders.length = 2 := by decide +kernel
theorem wvB_kind : (wvB.order 0).kind = 2 := by decide +kernel
theorem wvB_lines : (wvB.order 0).lines.length = 2 := by decide +kernel
theorem wvB_back : (wvB.line 0 0).back = 5 := by decide +kernel
theorem wvB_holds : wvB.holds = [] := by decide +kernel

set_option maxHeartbeats 4000000 in
set_option maxRecDepth 100000 in
theorem waveBegun (w : World) : Calls Try.prog 30 #[] w fun e w' => e = .returned (.bool true) ∧ Below w.heap.size w w' := by
  go_enter Try.func30, Try.ntmps30
  go_wp2_with fail
  refine (lYard _).mono ?_
  rintro e W1 ⟨u1, rfl, hu1, hb1⟩
  go_wp2_with fail
  refine (lBusy _).mono ?_
  rintro e W2 ⟨V2, rfl, ho2, hb2⟩
  go_wp2_with fail
  refine (begRel W2 _ _ (hu1.grow hb2) (ho2.view0 (by decide))).mono ?_
  rintro e W3 ⟨V3, rfl, ho3, hb3⟩
  have hone4 := (ho3).one
  have hnb4 := newBox (W3)
  go_wp2_with (refine wpList_store_state rfl (.tmp 1) (.tmp 13) rfl rfl (World.heap (W3)).size nilSV V3 hnb4 rfl rfl hone4 (fun w4 hbox4 hg4 => ?_); refine Hid.out ?_)
  unfold Hid
  have hbb4 := newBelow hg4
  have hbl4 := hbox4.lt
  clear hone4 hnb4 hg4
  have hB4 := hb1.trans ((hb2.trans ((hb3.trans (hbb4.mono hb3.size)).mono hb2.size)).mono hb1.size)
  have ho3' := Lib.hid (ho3.below hbb4)
  have hbox4' := Lib.hid hbox4
  clear ho3 hbox4 hbb4 hb3 hb2 hb1 hu1 ho2
  go_wp2_with fail
  refine (lYard _).mono ?_
  rintro e W5 ⟨u5, rfl, hu5, hb5⟩
  go_wp2_with fail
  refine (lBusy _).mono ?_
  rintro e W6 ⟨V6, rfl, ho6, hb6⟩
  go_wp2_with fail
  refine (begCan wvCan W6 _ _ (hu5.grow hb6) (ho6.view0 (by decide))).mono ?_
  rintro e W7 ⟨V7, rfl, ho7, hb7⟩
  have hone8 := (ho7).one
  have hnb8 := newBox (W7)
  go_wp2_with (refine wpList_store_state rfl (.tmp 3) (.tmp 19) rfl rfl (World.heap (W7)).size nilSV V7 hnb8 rfl rfl hone8 (fun w8 hbox8 hg8 => ?_); refine Hid.out ?_)
  unfold Hid
  have hbb8 := newBelow hg8
  have hbl8 := hbox8.lt
  clear hone8 hnb8 hg8
  have h48 := hb5.trans ((hb6.trans ((hb7.trans (hbb8.mono hb7.size)).mono hb6.size)).mono hb5.size)
  have ho7' := Lib.hid (ho7.below hbb8)
  have hbox8' := Lib.hid hbox8
  have hvw := Lib.hid (show ∀ W, Below w8.heap.size w8 W → StateV W W.heap.size (.agg #[V7.on, V7.orders, V7.holds, V7.moves, V7.inn, V7.out, V7.fixed]) wvB from fun W hW => (ho7'.out.below hW).view0 (cancel_small yardP busyS 0))
  have hbx := Lib.hid (show ∀ W, Below w8.heap.size w8 W → W.cell? ⟨W7.heap.size, 0, none⟩ = some V7.on ∧ W.cell? ⟨W7.heap.size, 1, none⟩ = some V7.orders ∧ W.cell? ⟨W7.heap.size, 2, none⟩ = some V7.holds ∧ W.cell? ⟨W7.heap.size, 3, none⟩ = some V7.moves ∧
      W.cell? ⟨W7.heap.size, 4, none⟩ = some V7.inn ∧ W.cell? ⟨W7.heap.size, 5, none⟩ = some V7.out ∧ W.cell? ⟨W7.heap.size, 6, none⟩ = some V7.fixed from fun W hW => (hbox8.below hW hbl8).cells)
  clear ho7 hbox8 hbb8 hb7 hb6 hb5 hu5 ho6
  have h88 := Below.refl w8.heap.size w8
  go_wp2_with fail
  refine wp_region_opsP 9 (fun wq => Below (w8).heap.size w8 wq) (KeepSt (w8).heap.size) 2 7 (by decide) (by decide) (by decide) (fun o ho => by injection ho with ho; subst ho; exact ⟨⟨2, .chain⟩, by simp, rfl, rfl⟩)
    [fun ph gq w' => phs (fun v w' => PlanV w' w'.heap.size v yardP) (fun _ _ => True) ph (gq 22) w', fun _ gq _ => gq 23 = .agg #[V7.on, V7.orders, V7.holds, V7.moves, V7.inn, V7.out, V7.fixed],
    fun ph gq w' => phs (fun _ _ => False) (fun v w' => ∃ V : SV, v = .tuple #[V.val, .int .i64 6] ∧ OwnSt w' (w8).heap.size V dState) ph (gq 24) w', fun ph gq w' => phs (fun _ _ => False) (fun v w' => ∃ V : SV, v = .tuple #[V.val, .int .i64 6] ∧ OwnSt w' (w8).heap.size V dState) ph (gq 21) w',
    fun ph gq w' => phs (fun _ _ => False) (fun v w' => ∃ V : SV, v = V.val ∧ OwnSt w' (w8).heap.size V dState) ph (gq 25) w', fun _ gq _ => gq 26 = .int .i64 6,
    fun ph gq w' => (fun (ph : Nat) (v : Value) w' => ∃ b, v = .pointer (some ⟨b, 0, none⟩) ∧ (w8).heap.size ≤ b ∧ (ph ≤ 1 → BoxAt w' b nilSV)) ph (gq 5) w',
    fun ph gq w' => ph = 2 ∧ (∃ b V, gq 5 = .pointer (some ⟨b, 0, none⟩) ∧ (w8).heap.size ≤ b ∧ BoxAt w' b V ∧ OwnSt w' (w8).heap.size V dState), fun _ gq _ => gq 6 = .int .i64 6] (by kernel_rfl) (by kernel_rfl) rfl (by kernel_rfl)
    (fun w1 w2 h h' => h.trans (h'.mono h.size)) (fun k w1 w2 h h' => h.trans h'.1) (Below.refl _ _).drew ?_ (fun f w9 hbw9 hR => ?_)
  simp only [List.take_succ_cons, List.take_zero]
  refine OpsPh.cons (OpPh.one (d := 22) rfl rfl (by decide) (by decide) (fun ph v w1 w2 h hb => by
      rcases ph with _ | ph
      · exact PlanV.grow h hb
      · trivial) (fun k v w1 w2 _ h hb => by trivial) (fun ph gq w' hb ho hd => ?_)) ?_
  · unfold OpRel
    go_simp
    refine (lYard w').mono ?_
    rintro e w2 ⟨u, rfl, hu, hb2⟩
    rcases ph with _ | ph
    · exact ⟨_, rfl, hu, hb2⟩
    · exact ⟨_, rfl, trivial, hb2⟩
  refine OpsPh.cons (OpPh.val rfl rfl (by decide) (by decide) (fun ph gq w' hb ho hd => ?_)) ?_
  · have e1 := ho 3 rfl
    obtain ⟨p0, p1, p2, p3, p4, p5, p6⟩ := hbx.out w' ((h88).trans (hb.mono (h88).size))
    go_simp
  refine OpsPh.cons (OpPh.first (d := 24) (p := phs (fun _ _ => False) (fun v w' => ∃ V : SV, v = .tuple #[V.val, .int .i64 6] ∧ OwnSt w' (w8).heap.size V dState)) rfl rfl (fun ph v w1 w2 h hb => by
      rcases ph with _ | ph
      · exact h
      · obtain ⟨V, h1, h2⟩ := h
        exact ⟨V, h1, h2.below hb⟩) (fun v w1 w2 h hb => by
      obtain ⟨V, h1, h2⟩ := h
      exact ⟨V, h1, hb.2.2 rfl _ _ _ h2⟩) (fun gq w' hb ho hd => ?_)) ?_
  · have eA0 : PlanV w' w'.heap.size (gq 22) yardP := hd ⟨0, .data⟩ (by simp) rfl (by decide)
    have eA1 : gq 23 = .agg #[V7.on, V7.orders, V7.holds, V7.moves, V7.inn, V7.out, V7.fixed] := hd ⟨1, .data⟩ (by simp) rfl (by decide)
    have hvx := hvw.out w' ((h88).trans (hb.mono (h88).size))
    unfold OpRel
    go_simp
    refine (begCan wvDone w' _ _ eA0 hvx).mono ?_
    rintro e w7 ⟨V7, rfl, ho7, hst7⟩
    exact ⟨_, rfl, ⟨V7, rfl, ho7.from_ hb.size⟩, hst7.mono hb.size, fun _ b V hbo => hbo.below hst7 hbo.lt, fun h => absurd h (by decide)⟩
  refine OpsPh.cons (OpPh.one (d := 21) (p := phs (fun _ _ => False) (fun v w' => ∃ V : SV, v = .tuple #[V.val, .int .i64 6] ∧ OwnSt w' (w8).heap.size V dState)) rfl rfl (by decide) (by decide) (fun ph v w1 w2 h hb => by
      rcases ph with _ | ph
      · exact h
      · obtain ⟨V, h1, h2⟩ := h
        exact ⟨V, h1, h2.below hb⟩) (fun k v w1 w2 hk h hb => by
      rcases (show k = 0 ∨ k = 1 by omega) with rfl | rfl
      · exact h.elim
      · obtain ⟨V, h1, h2⟩ := h
        exact ⟨V, h1, hb.2.2 rfl _ _ _ h2⟩) (fun ph gq w' hb ho hd => ?_)) ?_
  · have e90 : phs (fun _ _ => False) (fun v w' => ∃ V : SV, v = .tuple #[V.val, .int .i64 6] ∧ OwnSt w' (w8).heap.size V dState) ph (gq 24) w' := hd ⟨2, .data⟩ (by simp) rfl (by decide)
    rcases ph with _ | ph
    · exact e90.elim
    · obtain ⟨V7, e90, ho7⟩ := e90
      have ho7' := Lib.hid ho7
      clear ho7
      unfold OpRel
      go_simp
      exact ⟨⟨V7, rfl, ho7'.out⟩, Below.refl _ _⟩
  refine OpsPh.cons (OpPh.one (d := 25) (p := phs (fun _ _ => False) (fun v w' => ∃ V : SV, v = V.val ∧ OwnSt w' (w8).heap.size V dState)) rfl rfl (by decide) (by decide) (fun ph v w1 w2 h hb => by
      rcases ph with _ | ph
      · exact h
      · obtain ⟨V, h1, h2⟩ := h
        exact ⟨V, h1, h2.below hb⟩) (fun k v w1 w2 hk h hb => by
      rcases (show k = 0 ∨ k = 1 by omega) with rfl | rfl
      · exact h.elim
      · obtain ⟨V, h1, h2⟩ := h
        exact ⟨V, h1, hb.2.2 rfl _ _ _ h2⟩) (fun ph gq w' hb ho hd => ?_)) ?_
  · have e82 : phs (fun _ _ => False) (fun v w' => ∃ V : SV, v = .tuple #[V.val, .int .i64 6] ∧ OwnSt w' (w8).heap.size V dState) ph (gq 21) w' := hd ⟨3, .data⟩ (by simp) rfl (by decide)
    rcases ph with _ | ph
    · exact e82.elim
    · obtain ⟨V7, e82, ho7⟩ := e82
      have ho7' := Lib.hid ho7
      clear ho7
      unfold OpRel
      go_simp
      exact ⟨⟨V7, rfl, ho7'.out⟩, Below.refl _ _⟩
  refine OpsPh.cons (OpPh.val rfl rfl (by decide) (by decide) (fun ph gq w' hb ho hd => ?_)) ?_
  · have e82 : phs (fun _ _ => False) (fun v w' => ∃ V : SV, v = .tuple #[V.val, .int .i64 6] ∧ OwnSt w' (w8).heap.size V dState) ph (gq 21) w' := hd ⟨3, .data⟩ (by simp) rfl (by decide)
    rcases ph with _ | ph
    · exact e82.elim
    · obtain ⟨V7, e82, ho7⟩ := e82
      clear ho7
      go_simp
  refine OpsPh.cons (OpPh.one (d := 5) (p := fun (ph : Nat) (v : Value) w' => ∃ b, v = .pointer (some ⟨b, 0, none⟩) ∧ (w8).heap.size ≤ b ∧ (ph ≤ 1 → BoxAt w' b nilSV)) rfl rfl (by decide) (by decide) (fun ph v w1 w2 h hb => by
      obtain ⟨b, h1, h2, h3⟩ := h
      exact ⟨b, h1, h2, fun hp => (h3 hp).below hb (h3 hp).lt⟩) (fun k v w1 w2 hk h hb => by
      obtain ⟨b, h1, h2, h3⟩ := h
      refine ⟨b, h1, h2, fun hp => ?_⟩
      obtain rfl : k = 0 := by omega
      exact hb.2.1 rfl _ _ (h3 (by omega))) (fun ph gq w' hb ho hd => ?_)) ?_
  · unfold OpRel
    go_simp
    exact ⟨⟨hb.size, fun _ => Blk.new _ _ _⟩, (Below.refl _ _).alloc (Nat.le_refl _) _⟩
  refine OpsPh.cons (OpPh.second (p := fun gq w' => ∃ b V, gq 5 = .pointer (some ⟨b, 0, none⟩) ∧ (w8).heap.size ≤ b ∧ BoxAt w' b V ∧ OwnSt w' (w8).heap.size V dState) (by decide) rfl (fun gq w1 w2 h hb => by
      obtain ⟨b, V, h1, h2, h3, h4⟩ := h
      exact ⟨b, V, h1, h2, h3.below hb h3.lt, h4.below hb⟩) (fun gq gq' w1 he h => by
      have e1 := he 6 _ 5 (Anc.back (e := ⟨6, .data⟩) rfl (by simp) rfl rfl (Anc.self _)) rfl rfl
      rw [← e1]
      exact h) (fun gq w' hb ho hd => ?_)) ?_
  · have e16 : ∃ b, gq 5 = .pointer (some ⟨b, 0, none⟩) ∧ (w8).heap.size ≤ b ∧ (1 ≤ 1 → BoxAt w' b nilSV) := hd ⟨6, .data⟩ (by simp) rfl (by decide)
    have e91 : ∃ V : SV, gq 25 = V.val ∧ OwnSt w' (w8).heap.size V dState := hd ⟨4, .data⟩ (by simp) rfl (by decide)
    obtain ⟨b, e16, hbl, hbo⟩ := e16
    obtain ⟨V7, e91, ho7⟩ := e91
    have hbo := hbo (Nat.le_refl _)
    refine opRel_store_state (.tmp 5) (.tmp 25) rfl b nilSV V7 hbo e16 e91 ho7.one (fun w8 hbox8 hg8 => ?_)
    exact ⟨⟨b, V7, e16, hbl, hbox8, ho7.keptBy hg8 hbo.blk (by decide) (by decide) (by decide) (by decide) (by decide) (by decide)⟩, keepSt_box hbo hbl hg8⟩
  refine OpsPh.cons (OpPh.val rfl rfl (by decide) (by decide) (fun ph gq w' hb ho hd => ?_)) ?_
  · have e92 : gq 26 = .int .i64 6 := hd ⟨5, .data⟩ (by simp) rfl (by decide)
    go_simp
  exact OpsPh.nil
  obtain ⟨_, r1, ⟨V0, r2, _⟩, ⟨V00, r3, _⟩, ⟨V000, r4, _⟩, r6, _, ⟨_, w9', Vw9, r7, hlw9, hboxw9, how9⟩, r9, _⟩ := hR
  simp only [fillA, fillT, List.take_succ_cons, List.take_zero, List.drop_succ_cons, List.drop_zero, List.filterMap_cons, List.filterMap_nil, List.foldl_cons, List.foldl_nil, List.setIfInBounds_toArray, List.set_cons_zero, List.set_cons_succ, r1, r2, r3, r4, r6, r7, r9]
  generalize f 22 = zw9
  clear r1 r2 r3 r4 r6 r7 r9
  refine wpList_nil ?_
  clear hboxw9 how9 hvw hbx
  go_wp2_with fail
  refine (lYard _).mono ?_
  rintro e W10 ⟨u10, rfl, hu10, hb10⟩
  go_wp2_with fail
  refine (lBusy _).mono ?_
  rintro e W11 ⟨V11, rfl, ho11, hb11⟩
  go_wp2_with fail
  refine (begCan wvNone W11 _ _ (hu10.grow hb11) (ho11.view0 (by decide))).mono ?_
  rintro e W12 ⟨V12, rfl, ho12, hb12⟩
  have hone13 := (ho12).one
  have hnb13 := newBox (W12)
  go_wp2_with (refine wpList_store_state rfl (.tmp 7) (.tmp 31) rfl rfl (World.heap (W12)).size nilSV V12 hnb13 rfl rfl hone13 (fun w13 hbox13 hg13 => ?_); refine Hid.out ?_)
  unfold Hid
  have hbb13 := newBelow hg13
  have hbl13 := hbox13.lt
  clear hone13 hnb13 hg13
  have h913 := hb10.trans ((hb11.trans ((hb12.trans (hbb13.mono hb12.size)).mono hb11.size)).mono hb10.size)
  have h813 := hbw9.trans (h913.mono hbw9.size)
  have h413 := h48.trans (h813.mono h48.size)
  have hB13 := hB4.trans (h413.mono hB4.size)
  have hA := ho3'.out.below h413
  have hBs := ho7'.out.below h813
  have hbA := hbox4'.out.below h413 hbl4
  have hbB := hbox8'.out.below h813 hbl8
  clear ho12 hbox13 hbb13 hb12 hb11 hb10 hu10 ho11 ho3' ho7' hbox4' hbox8' h913 h813 h413 h48 h88
  obtain ⟨_, pA1, pA2, _, _, _, _⟩ := hbA.cells
  obtain ⟨_, pB1, pB2, _, _, _, _⟩ := hbB.cells
  obtain ⟨go, co, curo, vO, hgo, blko, kO, kL⟩ := hA.orderAt (o := 1) (by rw [wvA_orders]; decide)
  obtain ⟨gl, cl, curl, vL, hgl, blkl, kl0, kl1, kl2, kl3⟩ := hA.lineAt (o := 1) (k := 0) (by rw [wvA_orders]; decide) (by rw [wvA_lines]; decide)
  rw [wvA_orders] at vO
  rw [wvA_lines] at vL
  rw [vO] at pA1
  rw [vL] at kL
  rw [wvA_kind] at kO
  rw [wvA_back] at kl3
  have kO : w13.cell? ⟨go, 2, none⟩ = some (.int .i64 1) := kO
  have kL : w13.cell? ⟨go, 3, none⟩ = some (.slice (some ⟨gl, 0, none⟩) 1 cl) := kL
  have kl3 : w13.cell? ⟨gl, 3, none⟩ = some (.int .i64 2) := kl3
  obtain ⟨gh, ch, curh, vH, _, _, hcell⟩ := hA.holds.at (fun _ => rfl) (show 3 < wvA.holds.length by rw [wvA_holds]; decide)
  rw [← hold_get, wvA_hold] at hcell
  rw [wvA_holds] at vH
  rw [vH] at pA2
  have m0 : w13.cell? ⟨gh, 12, none⟩ = some (.int .i64 1) := hcell 0 _ rfl
  have m1 : w13.cell? ⟨gh, 13, none⟩ = some (.int .i64 0) := hcell 1 _ rfl
  have m2 : w13.cell? ⟨gh, 14, none⟩ = some (.int .i64 0) := hcell 2 _ rfl
  have m3 : w13.cell? ⟨gh, 15, none⟩ = some (.int .i64 2) := hcell 3 _ rfl
  obtain ⟨go', co', curo', vO', hgo', blko', kO', kL'⟩ := hBs.orderAt (o := 0) (by rw [wvB_orders]; decide)
  obtain ⟨gl', cl', curl', vL', hgl', blkl', _, _, _, kl3'⟩ := hBs.lineAt (o := 0) (k := 0) (by rw [wvB_orders]; decide) (by rw [wvB_lines]; decide)
  rw [wvB_orders] at vO'
  rw [wvB_lines] at vL'
  rw [vO'] at pB1
  rw [vL'] at kL'
  rw [wvB_kind] at kO'
  rw [wvB_back] at kl3'
  have kO' : w13.cell? ⟨go', 0, none⟩ = some (.int .i64 2) := kO'
  have kL' : w13.cell? ⟨go', 1, none⟩ = some (.slice (some ⟨gl', 0, none⟩) 2 cl') := kL'
  have kl3' : w13.cell? ⟨gl', 3, none⟩ = some (.int .i64 5) := kl3'
  obtain ⟨Ag, cg, vG⟩ := hBs.holds.isSlice
  rw [wvB_holds] at vG
  rw [vG] at pB2
  simp only [List.length_nil] at pB2
  clear hcell vH vO vL vO' vL' vG hA hBs hbA hbB blko blkl blko' blkl' kl0 kl1 kl2 hgo hgl hgo' hgl'
  go_wp2_with fail
  go_ret
  exact ⟨rfl, hB13⟩

set_option maxHeartbeats 4000000 in
set_option maxRecDepth 100000 in
theorem waveTellsWalk (w : World) (v vs : Value) (p : Plan) (s : State) (o : Int) (hp : PlanV w w.heap.size v p) (hv : StateV w w.heap.size vs s) :
    Calls Try.prog 8 #[v, vs, .int .i64 o] w fun e w' => e = .returned (.bool true) ∧ Below w.heap.size w w' := by
  obtain ⟨Ab, cb, As, cs, rfl, hP', hBn, hSz, hlb, hls⟩ := openPl hp
  obtain ⟨A0, c0, A1, c1, A2, c2, A3, c3, A4, c4, A5, c5, A6, c6, rfl, hV, hN, hO, hH, hM, hI, hU, hX, hl0, hl1, hl2, hl3, hl4, hl5, hl6⟩ := openOne hv
  go_enter Try.func8, Try.ntmps8
  go_wp2_with fail
  obtain ⟨W0, hW0, hb0, hsz0, hsz1, hsE, hK⟩ := boxesTwo w p s Ab cb As cs A0 c0 A1 c1 A2 c2 A3 c3 A4 c4 A5 c5 A6 c6
  rw [hW0]
  clear hW0
  obtain ⟨⟨y0, y1⟩, x0, x1, x2, x3, x4, x5, x6, hbz0, hbz1⟩ := hK.out W0 (Below.refl W0.heap.size W0)
  go_wp2_with fail
  clear y0 y1 x0 x1 x2 x3 x4 x5 x6 hbz0 hbz1
  refine (wvRelease _ _ _ p s (hP'.out _ hb0) (hV.out _ hb0)).mono ?_
  rintro e W1 ⟨V1, rfl, ho1, hb1⟩
  have hone2 := (ho1).one
  have hnb2 := newBox (W1)
  go_wp2_with (refine wpList_store_state rfl (.tmp 7) (.tmp 19) rfl rfl (World.heap (W1)).size nilSV V1 hnb2 rfl rfl hone2 (fun w2 hbox2 hg2 => ?_); refine Hid.out ?_)
  unfold Hid
  have hbb2 := newBelow hg2
  have hbl2 := hbox2.lt
  clear hone2 hnb2 hg2
  have h02 := hb1.trans (hbb2.mono hb1.size)
  have hB2 := hb0.trans (h02.mono hb0.size)
  have hv2 := Lib.hid ((ho1.below hbb2).view0 (release_small p s))
  have hbox2' := Lib.hid hbox2
  clear hbox2 ho1 hb1 hbb2
  obtain ⟨⟨y0, y1⟩, x0, x1, x2, x3, x4, x5, x6, hbz0, hbz1⟩ := hK.out w2 (h02)
  go_wp2_with fail
  clear y0 y1 x0 x1 x2 x3 x4 x5 x6 hbz0 hbz1
  refine (wvCancel _ _ _ p s o (hP'.out _ hB2) (hV.out _ hB2)).mono ?_
  rintro e W3 ⟨V3, rfl, ho3, hb3⟩
  have hone4 := (ho3).one
  have hnb4 := newBox (W3)
  go_wp2_with (refine wpList_store_state rfl (.tmp 9) (.tmp 26) rfl rfl (World.heap (W3)).size nilSV V3 hnb4 rfl rfl hone4 (fun w4 hbox4 hg4 => ?_); refine Hid.out ?_)
  unfold Hid
  have hbb4 := newBelow hg4
  have hbl4 := hbox4.lt
  clear hone4 hnb4 hg4
  have h24 := hb3.trans (hbb4.mono hb3.size)
  have h04 := h02.trans (h24.mono h02.size)
  have hB4 := hb0.trans (h04.mono hb0.size)
  have hv4 := Lib.hid ((ho3.below hbb4).view0 (cancel_small p s o))
  have hbox4' := Lib.hid hbox4
  clear hbox4 ho3 hb3 hbb4
  obtain ⟨⟨y0, y1⟩, x0, x1, x2, x3, x4, x5, x6, hbz0, hbz1⟩ := hK.out w4 (h04)
  go_wp2_with fail
  clear y0 y1 x0 x1 x2 x3 x4 x5 x6 hbz0 hbz1
  refine (rReleaseOf _ _ _ p s (hP'.out _ hB4) (hV.out _ hB4)).mono ?_
  rintro e W5 ⟨V5, rfl, ho5, hb5⟩
  have hone6 := (ho5).one
  have hnb6 := newBox (W5)
  go_wp2_with (refine wpList_store_state rfl (.tmp 11) (.tmp 32) rfl rfl (World.heap (W5)).size nilSV V5 hnb6 rfl rfl hone6 (fun w6 hbox6 hg6 => ?_); refine Hid.out ?_)
  unfold Hid
  have hbb6 := newBelow hg6
  have hbl6 := hbox6.lt
  clear hone6 hnb6 hg6
  have h46 := hb5.trans (hbb6.mono hb5.size)
  have h06 := h04.trans (h46.mono h04.size)
  have hB6 := hb0.trans (h06.mono hb0.size)
  have hv6 := Lib.hid ((ho5.below hbb6).view0 (release_small p s))
  have hbox6' := Lib.hid hbox6
  clear hbox6 ho5 hb5 hbb6
  obtain ⟨⟨y0, y1⟩, x0, x1, x2, x3, x4, x5, x6, hbz0, hbz1⟩ := hK.out w6 (h06)
  go_wp2_with fail
  clear y0 y1 x0 x1 x2 x3 x4 x5 x6 hbz0 hbz1
  refine (rCancelOf _ _ _ p s o (hP'.out _ hB6) (hV.out _ hB6)).mono ?_
  rintro e W7 ⟨V7, rfl, ho7, hb7⟩
  have hone8 := (ho7).one
  have hnb8 := newBox (W7)
  go_wp2_with (refine wpList_store_state rfl (.tmp 13) (.tmp 39) rfl rfl (World.heap (W7)).size nilSV V7 hnb8 rfl rfl hone8 (fun w8 hbox8 hg8 => ?_); refine Hid.out ?_)
  unfold Hid
  have hbb8 := newBelow hg8
  have hbl8 := hbox8.lt
  clear hone8 hnb8 hg8
  have h68 := hb7.trans (hbb8.mono hb7.size)
  have h08 := h06.trans (h68.mono h06.size)
  have hB8 := hb0.trans (h08.mono hb0.size)
  have hv8 := Lib.hid ((ho7.below hbb8).view0 (cancel_small p s o))
  have hbox8' := Lib.hid hbox8
  clear hbox8 ho7 hb7 hbb8
  go_wp2_with fail
  refine (waveBegun _).mono ?_
  rintro e W9 ⟨rfl, h9⟩
  have h89 := h9
  have h69 := h68.trans (h89.mono h68.size)
  have h49 := h46.trans (h69.mono h46.size)
  have h29 := h24.trans (h49.mono h24.size)
  have hB9 := hB8.trans (h9.mono hB8.size)
  obtain ⟨a0, a1, a2, a3, a4, a5, a6⟩ := (hbox2'.out.below h29 hbl2).cells
  obtain ⟨b0, b1, b2, b3, b4, b5, b6⟩ := (hbox6'.out.below h69 hbl6).cells
  have hx1 := Lib.hid (hv2.out.grow h29)
  have hx2 := Lib.hid (hv4.out.grow h49)
  have hx3 := Lib.hid (hv6.out.grow h69)
  have hx4 := Lib.hid (hv8.out.grow h89)
  have hy2 := Lib.hid (hbox4'.out.below h49 hbl4)
  have hy4 := Lib.hid (hbox8'.out.below h89 hbl8)
  have hl2 := Nat.lt_of_lt_of_le hbl4 h49.size
  have hl4 := Nat.lt_of_lt_of_le hbl8 h89.size
  clear hv2 hv4 hv6 hv8 hbox2' hbox4' hbox6' hbox8' h29 h49 h69 h89 h68 h46 h24 h02 h04 h06 h08
  go_wp2_with fail
  clear a0 a1 a2 a3 a4 a5 a6 b0 b1 b2 b3 b4 b5 b6
  refine (rSameStates _ _ _ _ hx1.out hx3.out).mono ?_
  rintro e W10 ⟨rfl, h10⟩
  obtain ⟨a0, a1, a2, a3, a4, a5, a6⟩ := (hy2.out.below h10 hl2).cells
  obtain ⟨b0, b1, b2, b3, b4, b5, b6⟩ := (hy4.out.below h10 hl4).cells
  have hx2' := Lib.hid (hx2.out.grow h10)
  have hx4' := Lib.hid (hx4.out.grow h10)
  have hB10 := hB9.trans (h10.mono hB9.size)
  go_wp2_with fail
  clear a0 a1 a2 a3 a4 a5 a6 b0 b1 b2 b3 b4 b5 b6
  refine (rSameStates _ _ _ _ hx2'.out hx4'.out).mono ?_
  rintro e W11 ⟨rfl, h11⟩
  go_wp2_with fail
  go_ret
  exact ⟨rfl, hB10.trans (h11.mono hB10.size)⟩
end Wh
namespace Wh
open Go Go.RowKit Go.ChangeShapes Go.WideShapes Go.Deep

theorem cell_lt {w : World} {a : Addr} {v : Value} (h : w.cell? a = some v) : a.block < w.heap.size := by
  by_cases hlt : a.block < w.heap.size
  · exact hlt
  · unfold World.cell? at h
    rw [Array.getElem?_eq_none (by omega)] at h
    simp at h

section
variable {H : Type} {en : TypeId × Value → H} {P : Program} {w : World} {base : Nat} {sp : Nat → Bool} {hd : Bool}

/-- Reads, and each of its slices is within the reach. -/
def Rd (en : TypeId × Value → H) (P : Program) (w : World) (base : Nat) (sp : Nat → Bool) (hd : Bool) (t : TypeId) (cs : List Value) : Prop :=
  ∃ (n : Nat) (x : DataW H × List MemPlace), DataW.trod en P w base sp hd n t cs = some x ∧ ∀ k ∈ x.1.weights P t, k ≤ reachBytes

theorem Rd.int {t : TypeId} {cs : List Value} (ht : P.underlying t = some (.int .i64)) (h : Rd en P w base sp hd t cs) : ∃ n, cs = [.int .i64 n] := by
  obtain ⟨n, x, h, _⟩ := h
  obtain ⟨m, hm, _⟩ := DataW.trod_int ht h
  exact ⟨m, hm⟩
theorem Rd.bool {t : TypeId} {cs : List Value} (ht : P.underlying t = some .bool) (h : Rd en P w base sp hd t cs) : ∃ b, cs = [.bool b] := by
  obtain ⟨n, x, h, _⟩ := h
  obtain ⟨m, hm, _⟩ := DataW.trod_bool ht h
  exact ⟨m, hm⟩

theorem Rd.fields {t : TypeId} {fs : Array Field} {cs : List Value} (hs : P.underlying t = some (.struct fs)) (hone : oneCellFields P fs = true) (hC : P.cellsOf t = fs.size) (h : Rd en P w base sp hd t cs) :
    cs.length = fs.size ∧ ∀ (j : Nat) (f : Field), fs[j]? = some f → ∃ v, cs[j]? = some v ∧ Rd en P w base sp hd f.type [v] := by
  obtain ⟨n, x, h, hw⟩ := h
  obtain ⟨xs, m, _, hx, hlen, hxl, hf⟩ := DataW.trod_struct hs h
  rw [hC] at hlen
  refine ⟨hlen, fun j f hj => ?_⟩
  have hjl : j < fs.size := (Array.getElem?_eq_some_iff.1 hj).1
  obtain ⟨ho, hk⟩ := hone_of hone j f hj
  have h1 := hf j f hj
  rw [ho, hk, List.drop_eq_getElem_cons (by omega)] at h1
  have hys : xs[j]? = some (xs[j]'(by omega)) := List.getElem?_eq_getElem (by omega)
  refine ⟨cs[j]'(by omega), List.getElem?_eq_getElem (by omega), m, xs[j]'(by omega), by rw [← hys, ← h1]; rfl, fun k hkm => hw k ?_⟩
  rw [hx]
  simp only [DataW.weights, hs]
  refine DataW.weights_mem_each (j := j) (t := f.type) (d := (xs[j]'(by omega)).1) ?_ ?_ k hkm
  · rw [List.getElem?_map, Array.getElem?_toList, hj]; rfl
  · rw [List.getElem?_map, hys]; rfl

theorem weights_mem_all {e : TypeId} : ∀ {ds : List (DataW H)} {j : Nat} {d : DataW H}, ds[j]? = some d → ∀ n ∈ d.weights P e, n ∈ DataW.weightsAll P e ds
  | d0 :: ds, 0, d, hd, n, hn => by
    simp only [List.getElem?_cons_zero, Option.some.injEq] at hd
    subst hd
    simp only [DataW.weightsAll, List.mem_append]
    exact Or.inl hn
  | d0 :: ds, j + 1, d, hd, n, hn => by
    simp only [List.getElem?_cons_succ] at hd
    simp only [DataW.weightsAll, List.mem_append]
    exact Or.inr (weights_mem_all hd n hn)
  | [], _, _, hd, _, _ => by simp at hd

/-- A slice's elements, each by itself. -/
theorem Rd.slice {t e : TypeId} {k : Nat} {cs : List Value} (ht : P.underlying t = some (.slice e)) (hC : P.cellsOf e = k) (hB : 0 < P.bytesOf e) (h : Rd en P w base sp hd t cs) :
    ∃ (A : Option Addr) (len c : Nat), cs = [.slice A len c] ∧ len ≤ 140737488355232 ∧
      ∀ i, i < len → ∃ cs', cs'.length = k ∧ Rd en P w base sp hd e cs' ∧ ∀ j v, cs'[j]? = some v → okA A ∧ ablk A < w.heap.size ∧ w.cell? ⟨ablk A, aoff A + (i * k + j), none⟩ = some v := by
  obtain ⟨n, x, h, hw⟩ := h
  rcases open_slice ht h with ⟨rfl, _⟩ | ⟨a, len, cap, m, n', D, Pl, rfl, _, hl, _, hm, hx, hi⟩
  · exact ⟨none, 0, 0, rfl, by omega, fun i hi => by omega⟩
  · have hlm : len ≤ m := by rw [hm]; split <;> omega
    have hreach : (len + (m - len)) * P.bytesOf e ≤ reachBytes := hw _ (by rw [hx]; simp [DataW.weights, ht])
    have hspot : 0 < len → 0 < k → a.spot = none := fun h1 h2 => by
      obtain ⟨cs', hc, _⟩ := hi 0 (by omega)
      rw [hC] at hc
      obtain ⟨_, hcl, hat⟩ := World.cells?_some hc
      have hcell := hat 0 h2
      rw [List.getElem?_eq_getElem (by omega), add_add] at hcell
      have := World.cell?_spot hcell
      simpa [Addr.add] using this
    refine ⟨some a, len, cap, rfl, ?_, fun i hi' => ?_⟩
    · have h1 : len * 1 ≤ (len + (m - len)) * P.bytesOf e := Nat.mul_le_mul (by omega) hB
      simp only [reachBytes] at hreach
      omega
    · obtain ⟨cs', hc, ht'⟩ := hi i (by omega)
      rw [hC] at hc
      obtain ⟨_, hcl, hat⟩ := World.cells?_some hc
      refine ⟨cs', hcl, ⟨n', _, ht', fun q hq => hw q ?_⟩, fun j v hj => ?_⟩
      · rw [hx]
        simp only [DataW.weights, ht, List.mem_cons, List.mem_append]
        refine .inr (.inl (weights_mem_all (j := i) (d := D i) ?_ q hq))
        rw [List.getElem?_map, List.getElem?_range hi']; rfl
      · have hjl : j < k := by rw [← hcl]; exact (List.getElem?_eq_some_iff.1 hj).1
        have hcell := hat j hjl
        rw [hj, add_add] at hcell
        obtain ⟨b, off, spot⟩ := a
        obtain rfl : spot = none := hspot (by omega) (by omega)
        rw [Addr.add_lit] at hcell
        exact ⟨okA_some _ _, cell_lt (a := ⟨b, off + (i * k + j), none⟩) hcell, hcell⟩

/-- A slice whose elements are all of the form 'enc x'. -/
theorem Rd.sl {α : Type} {enc : α → List Value} {k : Nat} {t e : TypeId} {cs : List Value} [Inhabited α] (ht : P.underlying t = some (.slice e)) (hC : P.cellsOf e = k) (hB : 0 < P.bytesOf e) (hk : ∀ x, (enc x).length = k) (h0 : 0 < k)
    (hel : ∀ cs', cs'.length = k → Rd en P w base sp hd e cs' → ∃ x : α, cs' = enc x) (h : Rd en P w base sp hd t cs) : ∃ v l, cs = [v] ∧ Sl enc w w.heap.size v l := by
  obtain ⟨A, len, c, rfl, hlen, hi⟩ := h.slice ht hC hB
  obtain ⟨X, hX⟩ := choose_lt (α := α) (n := len) (p := fun i x => ∀ j v, (enc x)[j]? = some v → okA A ∧ ablk A < w.heap.size ∧ w.cell? ⟨ablk A, aoff A + (i * k + j), none⟩ = some v) (fun i hil => by
    obtain ⟨cs', h1, h2, h3⟩ := hi i hil
    obtain ⟨x, rfl⟩ := hel cs' h1 h2
    exact ⟨x, h3⟩)
  refine ⟨_, (List.range len).map X, rfl, A, c, by simp, by simpa using hlen, fun hn => ?_⟩
  have hcell : ∀ j v, (((List.range len).map X).flatMap enc)[j]? = some v → okA A ∧ ablk A < w.heap.size ∧ w.cell? ⟨ablk A, aoff A + j, none⟩ = some v := fun j v hj => by
    have hjl : j < len * k := by
      have := (List.getElem?_eq_some_iff.1 hj).1
      rw [flat_length enc k hk] at this
      simpa using this
    have hq : j / k < len := (Nat.div_lt_iff_lt_mul h0).2 hjl
    have e1 : j / k * k + j % k = j := by rw [Nat.mul_comm]; exact Nat.div_add_mod j k
    have e2 := flat_get enc k hk ((List.range len).map X) (j / k) (j % k) (X (j / k)) (by rw [List.getElem?_map, List.getElem?_range hq]; rfl) (Nat.mod_lt _ h0)
    rw [e1, hj] at e2
    have := hX (j / k) hq (j % k) v e2.symm
    rwa [e1] at this
  have hlp : 0 < (((List.range len).map X).flatMap enc).length := List.length_pos_iff.2 hn
  obtain ⟨h1, h2, _⟩ := hcell 0 _ (List.getElem?_eq_getElem hlp)
  exact ⟨h1, h2, fun j v hj => (hcell j v hj).2.2⟩

/-- A slice of one-cell elements, each with a reading of its own. -/
theorem Rd.cells {α : Type} [Inhabited α] {k : Nat} {t e : TypeId} {cs : List Value} {enc : Value → α → List Value} {Q : Value → α → Prop} (ht : P.underlying t = some (.slice e)) (hC : P.cellsOf e = k) (hB : 0 < P.bytesOf e) (hk : ∀ v x, (enc v x).length = k) (h0 : 0 < k)
    (hel : ∀ cs', cs'.length = k → Rd en P w base sp hd e cs' → ∃ (v : Value) (x : α), cs' = enc v x ∧ Q v x) (h : Rd en P w base sp hd t cs) :
    ∃ (A : Option Addr) (c : Nat) (l : List α) (vs : List Value), cs = [.slice A l.length c] ∧ l.length ≤ 140737488355232 ∧ vs.length = l.length ∧ At w w.heap.size A ((l.zip vs).flatMap fun x => enc x.2 x.1) ∧
      ∀ (i : Nat) (x : α), l[i]? = some x → ∃ u, vs[i]? = some u ∧ Q u x := by
  obtain ⟨A, len, c, rfl, hlen, hi⟩ := h.slice ht hC hB
  obtain ⟨X, hX⟩ := choose_lt (α := α × Value) (n := len) (p := fun i x => Q x.2 x.1 ∧ ∀ j v, (enc x.2 x.1)[j]? = some v → okA A ∧ ablk A < w.heap.size ∧ w.cell? ⟨ablk A, aoff A + (i * k + j), none⟩ = some v) (fun i hil => by
    obtain ⟨cs', h1, h2, h3⟩ := hi i hil
    obtain ⟨v, x, rfl, hq⟩ := hel cs' h1 h2
    exact ⟨(x, v), hq, h3⟩)
  refine ⟨A, c, (List.range len).map (fun i => (X i).1), (List.range len).map (fun i => (X i).2), by simp, by simpa using hlen, by simp, ?_, fun i x hix => ?_⟩
  · have hz : ((List.range len).map (fun i => (X i).1)).zip ((List.range len).map (fun i => (X i).2)) = (List.range len).map X := by
      rw [List.zip_map']
    rw [hz]
    intro hn
    have hcell : ∀ j v, (((List.range len).map X).flatMap fun x => enc x.2 x.1)[j]? = some v → okA A ∧ ablk A < w.heap.size ∧ w.cell? ⟨ablk A, aoff A + j, none⟩ = some v := fun j v hj => by
      have hjl : j < len * k := by
        have := (List.getElem?_eq_some_iff.1 hj).1
        rw [flat_length (fun x : α × Value => enc x.2 x.1) k (fun x => hk _ _)] at this
        simpa using this
      have hq : j / k < len := (Nat.div_lt_iff_lt_mul h0).2 hjl
      have e1 : j / k * k + j % k = j := by rw [Nat.mul_comm]; exact Nat.div_add_mod j k
      have e2 := flat_get (fun x : α × Value => enc x.2 x.1) k (fun x => hk _ _) ((List.range len).map X) (j / k) (j % k) (X (j / k)) (by rw [List.getElem?_map, List.getElem?_range hq]; rfl) (Nat.mod_lt _ h0)
      rw [e1, hj] at e2
      have := (hX (j / k) hq).2 (j % k) v e2.symm
      rwa [e1] at this
    have hlp : 0 < (((List.range len).map X).flatMap fun x => enc x.2 x.1).length := List.length_pos_iff.2 hn
    obtain ⟨h1, h2, _⟩ := hcell 0 _ (List.getElem?_eq_getElem hlp)
    exact ⟨h1, h2, fun j v hj => (hcell j v hj).2.2⟩
  · rw [List.getElem?_map] at hix
    obtain ⟨i', hi', rfl⟩ := Option.map_eq_some_iff.1 hix
    have hil : i < len := by
      have := (List.getElem?_eq_some_iff.1 hi').1
      simpa using this
    rw [List.getElem?_range hil] at hi'
    obtain rfl := Option.some.inj hi'
    exact ⟨(X i).2, by rw [List.getElem?_map, List.getElem?_range hil]; rfl, (hX i hil).1⟩

end
end Wh
namespace Wh
open Go Go.RowKit Go.ChangeShapes Go.WideShapes Go.Deep Go.Proofs

instance : Inhabited Bin := ⟨⟨false, 0, 0, 0⟩⟩
instance : Inhabited Hold := ⟨⟨0, 0, 0, 0⟩⟩

def structFields (P : Program) (t : TypeId) : Array Field := match P.underlying t with
  | some (.struct fs) => fs
  | _ => #[]
theorem fields_eq {P : Program} {t : TypeId} (h : (match P.underlying t with | some (.struct _) => true | _ => false) = true) : P.underlying t = some (.struct (structFields P t)) := by
  unfold structFields
  split at h
  · rename_i h'; rw [h']
  · cases h

theorem u_int : Try.prog.underlying 3 = some (.int .i64) := by kernel_rfl
theorem u_bool : Try.prog.underlying 4 = some .bool := by kernel_rfl
theorem u_ints : Try.prog.underlying 23 = some (.slice 3) := by kernel_rfl
theorem u_rows : Try.prog.underlying 26 = some (.slice 23) := by kernel_rfl
theorem u_bins : Try.prog.underlying 22 = some (.slice 42) := by kernel_rfl
theorem c_int : Try.prog.cellsOf 3 = 1 := by kernel_rfl
theorem c_ints : Try.prog.cellsOf 23 = 1 := by kernel_rfl
theorem b_int : 0 < Try.prog.bytesOf 3 := of_decide_eq_true (by kernel_rfl)
theorem b_ints : 0 < Try.prog.bytesOf 23 := of_decide_eq_true (by kernel_rfl)
theorem b_bin : 0 < Try.prog.bytesOf 42 := of_decide_eq_true (by kernel_rfl)
theorem s_bin : Try.prog.underlying 42 = some (.struct (structFields Try.prog 42)) := fields_eq (by kernel_rfl)
theorem o_bin : oneCellFields Try.prog (structFields Try.prog 42) = true := by kernel_rfl
theorem n_bin : (structFields Try.prog 42).size = 4 := by kernel_rfl
theorem c_bin : Try.prog.cellsOf 42 = 4 := by kernel_rfl
theorem f_bin : (structFields Try.prog 42).toList.map (·.type) = [4, 3, 3, 3] := by kernel_rfl
theorem s_plan : Try.prog.underlying 25 = some (.struct (structFields Try.prog 25)) := fields_eq (by kernel_rfl)
theorem o_plan : oneCellFields Try.prog (structFields Try.prog 25) = true := by kernel_rfl
theorem n_plan : (structFields Try.prog 25).size = 2 := by kernel_rfl
theorem c_plan : Try.prog.cellsOf 25 = 2 := by kernel_rfl
theorem f_plan : (structFields Try.prog 25).toList.map (·.type) = [22, 23] := by kernel_rfl

section
variable {H : Type} {en : TypeId × Value → H} {w : World} {base : Nat} {sp : Nat → Bool} {hd : Bool}
theorem Rd.field {P : Program} {t : TypeId} {fs : Array Field} {cs : List Value} {ts : List TypeId} (hs : P.underlying t = some (.struct fs)) (hone : oneCellFields P fs = true) (hC : P.cellsOf t = fs.size) (hf : fs.toList.map (·.type) = ts)
    (h : Rd en P w base sp hd t cs) (j : Nat) (t' : TypeId) (hj : ts[j]? = some t') : ∃ v, cs[j]? = some v ∧ Rd en P w base sp hd t' [v] := by
  subst hf
  rw [List.getElem?_map, Array.getElem?_toList] at hj
  obtain ⟨f, hf, rfl⟩ := Option.map_eq_some_iff.1 hj
  exact (h.fields hs hone hC).2 j f hf
abbrev Rt (en : TypeId × Value → H) (w : World) (base : Nat) (sp : Nat → Bool) (hd : Bool) (t : TypeId) (cs : List Value) : Prop := Rd en Try.prog w base sp hd t cs
theorem Rt.ints {cs : List Value} (h : Rt en w base sp hd 23 cs) : ∃ v l, cs = [v] ∧ Sl cInt w w.heap.size v l :=
  Rd.sl u_ints c_int b_int (fun _ => rfl) (by decide) (fun cs' _ h => h.int u_int) h
theorem Rt.rows {cs : List Value} (h : Rt en w base sp hd 26 cs) : ∃ v l, cs = [v] ∧ SlSl cInt w w.heap.size v l := by
  obtain ⟨A, c, l, vs, rfl, h1, h2, h3, h4⟩ := Rd.cells (α := List Int) (k := 1) (enc := fun v _ => [v]) (Q := fun v x => Sl cInt w w.heap.size v x) u_rows c_ints b_ints (fun _ _ => rfl) (by decide) (fun cs' _ h => by
    obtain ⟨v, l, rfl, hs⟩ := Rt.ints h
    exact ⟨v, l, rfl, hs⟩) h
  refine ⟨_, l, rfl, A, c, vs, rfl, h1, h2, ?_, h4⟩
  have : ((l.zip vs).flatMap fun x => [x.2]) = vs := by
    rw [← List.map_eq_flatMap, List.map_snd_zip]
    omega
  rwa [this] at h3
theorem Rt.bin {cs : List Value} (hl : cs.length = 4) (h : Rt en w base sp hd 42 cs) : ∃ b, cs = cBin b := by
  match cs, hl with
  | [v0, v1, v2, v3], _ =>
    obtain ⟨x0, e0, r0⟩ := h.field s_bin o_bin (c_bin.trans n_bin.symm) f_bin 0 _ rfl
    obtain ⟨x1, e1, r1⟩ := h.field s_bin o_bin (c_bin.trans n_bin.symm) f_bin 1 _ rfl
    obtain ⟨x2, e2, r2⟩ := h.field s_bin o_bin (c_bin.trans n_bin.symm) f_bin 2 _ rfl
    obtain ⟨x3, e3, r3⟩ := h.field s_bin o_bin (c_bin.trans n_bin.symm) f_bin 3 _ rfl
    obtain rfl := Option.some.inj e0
    obtain rfl := Option.some.inj e1
    obtain rfl := Option.some.inj e2
    obtain rfl := Option.some.inj e3
    obtain ⟨b0, q0⟩ := r0.bool u_bool
    obtain ⟨b1, q1⟩ := r1.int u_int
    obtain ⟨b2, q2⟩ := r2.int u_int
    obtain ⟨b3, q3⟩ := r3.int u_int
    obtain rfl := (List.cons.inj q0).1
    obtain rfl := (List.cons.inj q1).1
    obtain rfl := (List.cons.inj q2).1
    obtain rfl := (List.cons.inj q3).1
    exact ⟨⟨b0, b1, b2, b3⟩, rfl⟩
theorem Rt.bins {cs : List Value} (h : Rt en w base sp hd 22 cs) : ∃ v l, cs = [v] ∧ Sl cBin w w.heap.size v l :=
  Rd.sl u_bins c_bin b_bin (fun _ => rfl) (by decide) (fun _ hl h => Rt.bin hl h) h
theorem Rt.plan {cs : List Value} (hl : cs.length = 2) (h : Rt en w base sp hd 25 cs) : ∃ v0 v1 p, cs = [v0, v1] ∧ PlanV w w.heap.size (.agg #[v0, v1]) p := by
  match cs, hl with
  | [v0, v1], _ =>
    obtain ⟨x0, e0, r0⟩ := h.field s_plan o_plan (c_plan.trans n_plan.symm) f_plan 0 _ rfl
    obtain ⟨x1, e1, r1⟩ := h.field s_plan o_plan (c_plan.trans n_plan.symm) f_plan 1 _ rfl
    obtain rfl := Option.some.inj e0
    obtain rfl := Option.some.inj e1
    obtain ⟨_, l0, q0, hs0⟩ := Rt.bins r0
    obtain ⟨_, l1, q1, hs1⟩ := Rt.ints r1
    obtain rfl := (List.cons.inj q0).1
    obtain rfl := (List.cons.inj q1).1
    exact ⟨_, _, ⟨l0, l1⟩, rfl, _, _, rfl, hs0, hs1⟩
theorem rd_of {P : Program} {ts : List TypeId} {ds : List (DataW H)} {j : Nat} {t : TypeId} {v : Value} {d : DataW H} {ps : List MemPlace} (hsz : (DataW.weightsEach P ts ds).all (· ≤ reachBytes) = true) (ht : ts[j]? = some t) (hds : ds[j]? = some d)
    (h : DataW.Trod en P w base sp hd t v d ps) : Rd en P w base sp hd t v.cells.toList := by
  obtain ⟨n, hn⟩ := h
  exact ⟨n, _, hn, fun k hk => by simpa using List.all_eq_true.1 hsz _ (DataW.weights_mem_each ht hds k hk)⟩
set_option maxRecDepth 100000 in
theorem plan_of {b0 : Nat} {r : Reach} {v : Value} (hv : Value.okWide Try.prog w r b0 25 v) (h : Rt en w base sp hd 25 v.cells.toList) : ∃ p, PlanV w w.heap.size v p := by
  obtain ⟨cs, rfl, hsz⟩ := okWide_struct s_plan hv
  obtain ⟨l⟩ := cs
  obtain ⟨v0, v1, p, e, hp⟩ := Rt.plan (by simpa [Value.cells] using hsz.trans c_plan) h
  have e' : l = [v0, v1] := by simpa [Value.cells] using e
  subst e'
  exact ⟨p, hp⟩
end
end Wh
namespace Wh
open Go Go.RowKit Go.ChangeShapes Go.WideShapes Go.Deep Go.Proofs

theorem u_holds : Try.prog.underlying 28 = some (.slice 63) := by kernel_rfl
theorem b_hold : 0 < Try.prog.bytesOf 63 := of_decide_eq_true (by kernel_rfl)
theorem s_hold : Try.prog.underlying 63 = some (.struct (structFields Try.prog 63)) := fields_eq (by kernel_rfl)
theorem o_hold : oneCellFields Try.prog (structFields Try.prog 63) = true := by kernel_rfl
theorem n_hold : (structFields Try.prog 63).size = 4 := by kernel_rfl
theorem c_hold : Try.prog.cellsOf 63 = 4 := by kernel_rfl
theorem f_hold : (structFields Try.prog 63).toList.map (·.type) = [3, 3, 3, 3] := by kernel_rfl

section
variable {H : Type} {en : TypeId × Value → H} {w : World} {base : Nat} {sp : Nat → Bool} {hd : Bool}
theorem Rt.four_ints {t : TypeId} (s_t : Try.prog.underlying t = some (.struct (structFields Try.prog t))) (o_t : oneCellFields Try.prog (structFields Try.prog t) = true) (c_t : Try.prog.cellsOf t = (structFields Try.prog t).size)
    (f_t : (structFields Try.prog t).toList.map (·.type) = [3, 3, 3, 3]) {cs : List Value} (hl : cs.length = 4) (h : Rt en w base sp hd t cs) : ∃ a b c d : Int, cs = [.int .i64 a, .int .i64 b, .int .i64 c, .int .i64 d] := by
  match cs, hl with
  | [v0, v1, v2, v3], _ =>
    obtain ⟨x0, e0, r0⟩ := h.field s_t o_t c_t f_t 0 _ rfl
    obtain ⟨x1, e1, r1⟩ := h.field s_t o_t c_t f_t 1 _ rfl
    obtain ⟨x2, e2, r2⟩ := h.field s_t o_t c_t f_t 2 _ rfl
    obtain ⟨x3, e3, r3⟩ := h.field s_t o_t c_t f_t 3 _ rfl
    obtain rfl := Option.some.inj e0
    obtain rfl := Option.some.inj e1
    obtain rfl := Option.some.inj e2
    obtain rfl := Option.some.inj e3
    obtain ⟨b0, q0⟩ := r0.int u_int
    obtain ⟨b1, q1⟩ := r1.int u_int
    obtain ⟨b2, q2⟩ := r2.int u_int
    obtain ⟨b3, q3⟩ := r3.int u_int
    obtain rfl := (List.cons.inj q0).1
    obtain rfl := (List.cons.inj q1).1
    obtain rfl := (List.cons.inj q2).1
    obtain rfl := (List.cons.inj q3).1
    exact ⟨b0, b1, b2, b3, rfl⟩
theorem Rt.hold {cs : List Value} (hl : cs.length = 4) (h : Rt en w base sp hd 63 cs) : ∃ x, cs = cHold x := by
  obtain ⟨a, b, c, d, rfl⟩ := Rt.four_ints s_hold o_hold (c_hold.trans n_hold.symm) f_hold hl h
  exact ⟨⟨a, b, c, d⟩, rfl⟩
theorem Rt.holds {cs : List Value} (h : Rt en w base sp hd 28 cs) : ∃ v l, cs = [v] ∧ Sl cHold w w.heap.size v l :=
  Rd.sl u_holds c_hold b_hold (fun _ => rfl) (by decide) (fun _ hl h => Rt.hold hl h) h
end
end Wh
