/- Texts of the claim, joined: RecvD. -/
import Derived.Test.YtnjgkhcnialplaaP43
import Derived.Test.YtnjgkhcnialplaaP40
namespace Wh
open Go Go.RowKit Go.Shelf Go.Proofs
attribute [local go_sem] run_indexAt_letter evL_tmp evL_const evL_func

theorem any_at {α : Type} {P : α → Bool} {l : List α} (d : α) {k : Nat} (hk : k < l.length) (h : P (l.getD k d) = true) : l.any P = true := by
  rw [List.any_eq_true]
  refine ⟨l[k], List.getElem_mem hk, ?_⟩
  simpa [List.getD_eq_getElem?_getD, hk] using h
theorem any_none {α : Type} {P : α → Bool} {l : List α} (d : α) (h : ∀ k, k < l.length → P (l.getD k d) = false) : l.any P = false := by
  rw [List.any_eq_false]
  intro x hx
  obtain ⟨k, hk, rfl⟩ := List.getElem_of_mem hx
  have := h k hk
  simp [List.getD_eq_getElem?_getD, hk] at this
  simp [this]

set_option maxHeartbeats 8000000 in
set_option maxRecDepth 100000 in
theorem rEnterOf (w : World) (v vs vl : Value) (p : Plan) (s : State) (l : List Line) (hp : PlanV w w.heap.size v p) (hv : StateV w w.heap.size vs s) (hl : Sl cLine w w.heap.size vl l) :
    Calls Try.prog 37 #[v, vs, vl] w (ActPost (enter p s l) w) := by
  have hL := Lib.hid hl
  obtain ⟨Al, cl, rfl, hll, hAl⟩ := hl
  clear hAl
  obtain ⟨Ab, cb, As, cs, rfl, hP', hBn, hSz, hlb, hls⟩ := openPl hp
  obtain ⟨A0, c0, A1, c1, A2, c2, A3, c3, A4, c4, A5, c5, A6, c6, rfl, hV, hN, hO, hH, hM, hI, hU, hX, hl0, hl1, hl2, hl3, hl4, hl5, hl6⟩ := openOne hv
  go_enter Try.func37, Try.ntmps37
  go_wp2_with fail
  obtain ⟨W0, hW0, hb0, hsz0, hsz1, hsE, hK, hR⟩ := boxesAct w p s Ab cb As cs A0 c0 A1 c1 A2 c2 A3 c3 A4 c4 A5 c5 A6 c6
  rw [hW0]
  clear hW0
  obtain ⟨⟨y0, y1⟩, x0, x1, x2, x3, x4, x5, x6, hbz0, hbz1⟩ := hK.out W0 (Below.refl W0.heap.size W0)
  go_wp2_with fail
  clear y0 y1 x0 x1 x2 x3 x4 x5 x6 hbz0 hbz1
  refine (rCheckState _ _ _ p s (hP'.out _ hb0) (hV.out _ hb0)).mono ?_
  rintro e W1 ⟨rfl, h1⟩
  have hB1 := hb0.trans (h1.mono hb0.size)
  obtain ⟨⟨y0, y1⟩, x0, x1, x2, x3, x4, x5, x6, hbz0, hbz1⟩ := hK.out W1 (h1)
  by_cases hc : checkState p s = 0
  · have hc' := Lib.hid hc
    have hsn := Lib.hid (checkState_zero.1 hc).1
    rw [hc]
    clear hc
    have hcnt := hsn.out.counts
    by_cases ho4 : 4 ≤ s.orders.length
    · have hfin := Lib.hid (enter_many (l := l) hc'.out (.inl (by omega)))
      have ho4' : (4 : Int) ≤ (s.orders.length : Int) := by omega
      clear ho4
      have hbx9 := hR.out _ h1
      go_wp2_with (refine wpList_store_state rfl (.tmp 6) (.tmp 29) rfl rfl (w.heap.size + 1 + 1) nilSV nilSV hbx9 rfl rfl rfl (fun w9 hbox9 hg9 => ?_))
      obtain ⟨p0, p1, p2, p3, p4, p5, p6⟩ := BoxAt.cells hbox9
      have hfin9 : Below w.heap.size w w9 := Below.grown hB1 hg9 (Below.size hB1) (fun k hk => by injection hk with hk; omega)
      go_wp2_with fail
      exact bodyPost_ret (v := .tuple #[nilSV.val, .int .i64 2]) (by simp [results, Try.results37, go_sem, SV.val, p0, p1, p2, p3, p4, p5, p6]) rfl (actErr hfin.out hfin9)
    have hne4 : (s.orders.length : Int) < 4 := by omega
    have ho : s.orders.length < 4 := by omega
    clear ho4
    go_wp2_with fail
    refine (rWithin l.length 1 3 _).mono ?_
    rintro e w' ⟨rfl, rfl⟩
    cases hw : within l.length 1 3
    · have hfin := Lib.hid (enter_many (p := p) (s := s) (l := l) hc'.out (.inr (by have := within_false.1 hw; omega)))
      clear hw
      have hbx9 := hR.out _ h1
      go_wp2_with (refine wpList_store_state rfl (.tmp 6) (.tmp 29) rfl rfl (w.heap.size + 1 + 1) nilSV nilSV hbx9 rfl rfl rfl (fun w9 hbox9 hg9 => ?_))
      obtain ⟨p0, p1, p2, p3, p4, p5, p6⟩ := BoxAt.cells hbox9
      have hfin9 : Below w.heap.size w w9 := Below.grown hB1 hg9 (Below.size hB1) (fun k hk => by injection hk with hk; omega)
      go_wp2_with fail
      exact bodyPost_ret (v := .tuple #[nilSV.val, .int .i64 2]) (by simp [results, Try.results37, go_sem, SV.val, p0, p1, p2, p3, p4, p5, p6]) rfl (actErr hfin.out hfin9)
    have hl13 : 1 ≤ l.length ∧ l.length ≤ 3 := by have := within_iff.1 hw; omega
    clear hw
    go_wp2_with fail
    go_loopw [9] (fun i wr => ∃ k : Nat, k ≤ l.length ∧ i = .int .i64 k ∧ (∀ j, j < k → badLine p (lineAt l j) = false) ∧ Below W0.heap.size W0 wr) (fun i _ => l.length - (intOf i).toNat)
    case atStart => exact ⟨0, Nat.zero_le _, rfl, fun j hj => by omega, h1⟩
    case round =>
      clear y0 y1 x0 x1 x2 x3 x4 x5 x6 hbz0 hbz1
      obtain ⟨k, hk, rfl, hall, hbw⟩ := hrel
      have hall' := Lib.hid hall
      have hB := hb0.trans (hbw.mono hb0.size)
      clear hall hB1 h1
      obtain ⟨⟨y0, y1⟩, x0, x1, x2, x3, x4, x5, x6, hbz0, hbz1⟩ := hK.out wr (hbw)
      by_cases hlt : k < l.length
      · obtain ⟨hok2, hAb2, e0, e1, e2, e3⟩ := (hL.out.grow hB).at_.line hlt
        have hlt' : (k : Int) < (l.length : Int) := by omega
        have q0 := fun o d os => cells_wld (w := wr) (b := w.heap.size) hbz1 o d os
        have q1 := fun o d os => cells_wld (w := wr) (b := ablk Al) hAb2 o d os
        have hP2 := Lib.hid (fun d os => hP'.out _ (hB.trans ((below_wld wr d os).mono hB.size)))
        cases hg : isGood p (lineAt l k).good
        · have hbad : badLine p (lineAt l k) = true := by unfold badLine; rw [hg]; rfl
          have hfin := Lib.hid (enter_range hc'.out ho hl13 (any_at dLine hlt hbad))
          have hrg : ∀ W : World, PlanV W W.heap.size (.agg #[.slice Ab p.bins.length cb, .slice As p.sizes.length cs]) p → Calls Try.prog 64 #[.agg #[.slice Ab p.bins.length cb, .slice As p.sizes.length cs], .int .i64 (lineAt l k).good] W fun e w' => e = .returned (.bool false) ∧ Below W.heap.size W w' := fun W hW => by
            have := rIsGood W _ p (lineAt l k).good hW (by omega)
            rwa [hg] at this
          have hrg' := Lib.hid hrg
          clear hg hbad hrg
          go_wp2_with fail
          refine wp_region_wld (by kernel_rfl) (by kernel_rfl) ?_
          repeat (go_big_quiet_step ((go_at_call 64; refine calls_wld (hrg'.out _ (hP2.out _ _)))))
          refine wpQuiet_nil ?_
          intro W2 hw'
          have hb2 := below_of_cls hw'
          clear hw'
          have h02 := hbw.trans (hb2.mono hbw.size)
          have hB2 := hb0.trans (h02.mono hb0.size)
          clear q0 q1
          have hbx9 := hR.out _ h02
          go_wp2_with (refine wpList_store_state rfl (.tmp 6) (.tmp 53) rfl rfl (w.heap.size + 1 + 1) nilSV nilSV hbx9 rfl rfl rfl (fun w9 hbox9 hg9 => ?_))
          obtain ⟨p0, p1, p2, p3, p4, p5, p6⟩ := BoxAt.cells hbox9
          have hfin9 : Below w.heap.size w w9 := Below.grown hB2 hg9 (Below.size hB2) (fun k hk => by injection hk with hk; omega)
          go_wp2_with fail
          exact bodyPost_ret (v := .tuple #[nilSV.val, .int .i64 3]) (by simp [results, Try.results37, go_sem, SV.val, p0, p1, p2, p3, p4, p5, p6]) rfl (actErr hfin.out hfin9)
        · have hrg : ∀ W : World, PlanV W W.heap.size (.agg #[.slice Ab p.bins.length cb, .slice As p.sizes.length cs]) p → Calls Try.prog 64 #[.agg #[.slice Ab p.bins.length cb, .slice As p.sizes.length cs], .int .i64 (lineAt l k).good] W fun e w' => e = .returned (.bool true) ∧ Below W.heap.size W w' := fun W hW => by
            have := rIsGood W _ p (lineAt l k).good hW (by omega)
            rwa [hg] at this
          have hrg' := Lib.hid hrg
          clear hrg
          cases hw : within (lineAt l k).want 1 200
          · have hbad : badLine p (lineAt l k) = true := by unfold badLine; rw [hg, hw]; rfl
            have hfin := Lib.hid (enter_range hc'.out ho hl13 (any_at dLine hlt hbad))
            have hrw : ∀ W : World, Calls Try.prog 45 #[.int .i64 (lineAt l k).want, .int .i64 1, .int .i64 200] W fun e w' => e = .returned (.bool false) ∧ W = w' := fun W => by
              have := rWithin (lineAt l k).want 1 200 W
              rwa [hw] at this
            have hrw' := Lib.hid hrw
            clear hg hw hbad hrw
            go_wp2_with fail
            refine wp_region_wld (by kernel_rfl) (by kernel_rfl) ?_
            repeat (go_big_quiet_step (first | (go_at_call 64; refine calls_wld (hrg'.out _ (hP2.out _ _))) | (go_at_call 45; refine calls_wld_same (hrw'.out _))))
            refine wpQuiet_nil ?_
            intro W2 hw'
            have hb2 := below_of_cls hw'
            clear hw'
            have h02 := hbw.trans (hb2.mono hbw.size)
            have hB2 := hb0.trans (h02.mono hb0.size)
            clear q0 q1
            have hbx9 := hR.out _ h02
            go_wp2_with (refine wpList_store_state rfl (.tmp 6) (.tmp 53) rfl rfl (w.heap.size + 1 + 1) nilSV nilSV hbx9 rfl rfl rfl (fun w9 hbox9 hg9 => ?_))
            obtain ⟨p0, p1, p2, p3, p4, p5, p6⟩ := BoxAt.cells hbox9
            have hfin9 : Below w.heap.size w w9 := Below.grown hB2 hg9 (Below.size hB2) (fun k hk => by injection hk with hk; omega)
            go_wp2_with fail
            exact bodyPost_ret (v := .tuple #[nilSV.val, .int .i64 3]) (by simp [results, Try.results37, go_sem, SV.val, p0, p1, p2, p3, p4, p5, p6]) rfl (actErr hfin.out hfin9)
          · have hok : badLine p (lineAt l k) = false := by unfold badLine; rw [hg, hw]; rfl
            have hok' := Lib.hid hok
            have hrw : ∀ W : World, Calls Try.prog 45 #[.int .i64 (lineAt l k).want, .int .i64 1, .int .i64 200] W fun e w' => e = .returned (.bool true) ∧ W = w' := fun W => by
              have := rWithin (lineAt l k).want 1 200 W
              rwa [hw] at this
            have hrw' := Lib.hid hrw
            clear hg hw hok hrw
            go_wp2_with fail
            refine wp_region_wld (by kernel_rfl) (by kernel_rfl) ?_
            repeat (go_big_quiet_step (first | (go_at_call 64; refine calls_wld (hrg'.out _ (hP2.out _ _))) | (go_at_call 45; refine calls_wld_same (hrw'.out _))))
            refine wpQuiet_nil ?_
            intro W2 hw'
            have hb2 := below_of_cls hw'
            clear hw'
            have h02 := hbw.trans (hb2.mono hbw.size)
            clear q0 q1
            go_wp2_with fail
            go_roundw
            case rel =>
              refine ⟨k + 1, by omega, by go_num, fun j hj => ?_, h02⟩
              rcases Nat.lt_succ_iff_lt_or_eq.1 hj with h | rfl
              · exact hall'.out j h
              · exact hok'.out
            case measure => simp [intOf]; omega
      · obtain rfl : k = l.length := by omega
        have hnb := Lib.hid (any_none dLine hall'.out)
        clear hall'
        go_wp2_with fail
        go_loopw [10] (fun i wr => ∃ k : Nat, k ≤ l.length ∧ i = .int .i64 k ∧ (∀ j, j < k → notNew (lineAt l j) = false) ∧ Below W0.heap.size W0 wr) (fun i _ => l.length - (intOf i).toNat)
        case atStart => exact ⟨0, Nat.zero_le _, rfl, fun j hj => by omega, hbw⟩
        case round =>
          clear y0 y1 x0 x1 x2 x3 x4 x5 x6 hbz0 hbz1
          clear hbw hB
          obtain ⟨k, hk, rfl, hall, hbw⟩ := hrel
          have hall' := Lib.hid hall
          have hB := hb0.trans (hbw.mono hb0.size)
          clear hall
          obtain ⟨⟨y0, y1⟩, x0, x1, x2, x3, x4, x5, x6, hbz0, hbz1⟩ := hK.out wr (hbw)
          by_cases hlt : k < l.length
          · obtain ⟨hok2, hAb2, e0, e1, e2, e3⟩ := (hL.out.grow hB).at_.line hlt
            have hlt' : (k : Int) < (l.length : Int) := by omega
            rcases notNew_parts (lineAt l k) with ⟨g1, hf⟩ | ⟨g1, g2, hf⟩ | ⟨g1, g2, hf⟩
            · have hfin := Lib.hid (enter_form hc'.out ho hl13 hnb.out (any_at dLine hlt hf))
              clear hf
              have hbx9 := hR.out _ hbw
              go_wp2_with (refine wpList_store_state rfl (.tmp 6) (.tmp 74) rfl rfl (w.heap.size + 1 + 1) nilSV nilSV hbx9 rfl rfl rfl (fun w9 hbox9 hg9 => ?_))
              obtain ⟨p0, p1, p2, p3, p4, p5, p6⟩ := BoxAt.cells hbox9
              have hfin9 : Below w.heap.size w w9 := Below.grown hB hg9 (Below.size hB) (fun k hk => by injection hk with hk; omega)
              go_wp2_with fail
              exact bodyPost_ret (v := .tuple #[nilSV.val, .int .i64 1]) (by simp [results, Try.results37, go_sem, SV.val, p0, p1, p2, p3, p4, p5, p6]) rfl (actErr hfin.out hfin9)
            · have hfin := Lib.hid (enter_form hc'.out ho hl13 hnb.out (any_at dLine hlt hf))
              clear hf
              have hbx9 := hR.out _ hbw
              go_wp2_with (refine wpList_store_state rfl (.tmp 6) (.tmp 74) rfl rfl (w.heap.size + 1 + 1) nilSV nilSV hbx9 rfl rfl rfl (fun w9 hbox9 hg9 => ?_))
              obtain ⟨p0, p1, p2, p3, p4, p5, p6⟩ := BoxAt.cells hbox9
              have hfin9 : Below w.heap.size w w9 := Below.grown hB hg9 (Below.size hB) (fun k hk => by injection hk with hk; omega)
              go_wp2_with fail
              exact bodyPost_ret (v := .tuple #[nilSV.val, .int .i64 1]) (by simp [results, Try.results37, go_sem, SV.val, p0, p1, p2, p3, p4, p5, p6]) rfl (actErr hfin.out hfin9)
            · have hf' := Lib.hid hf
              clear hf
              go_wp2_with fail
              go_roundw
              case rel =>
                refine ⟨k + 1, by omega, by go_num, fun j hj => ?_, hbw⟩
                rcases Nat.lt_succ_iff_lt_or_eq.1 hj with h | rfl
                · exact hall'.out j h
                · exact hf'.out
              case measure => simp [intOf]; omega
          · obtain rfl : k = l.length := by omega
            have hnn := any_none dLine hall'.out
            have hfin := Lib.hid (enter_ok hc'.out ho hl13 hnb.out hnn)
            clear hnn hall'
            go_wp2_with fail
            clear y0 y1 x0 x1 x2 x3 x4 x5 x6 hbz0 hbz1
            refine (rOwnState _ _ p s (hV.out _ hB) hsn.out).mono ?_
            rintro e W5 ⟨_, rfl, ⟨V5, rfl, ho5⟩, h5⟩
            have hone6 := (ho5).one
            have hnb6 := newBox (W5)
            go_wp2_with (refine wpList_store_state rfl (.tmp 11) (.tmp 76) rfl rfl (World.heap (W5)).size nilSV V5 hnb6 rfl rfl hone6 (fun w6 hbox6 hg6 => ?_); refine Hid.out ?_)
            unfold Hid
            have hbb6 := newBelow hg6
            have hbl6 := hbox6.lt
            clear hone6 hnb6 hg6
            have hx6 := Lib.hid (Bx.of hbox6 (ho5.below hbb6))
            have h06 := hbw.trans ((h5.trans (hbb6.mono h5.size)).mono hbw.size)
            have hB6 := hb0.trans (h06.mono hb0.size)
            have hle3 : w.heap.size ≤ wr.heap.size := hB.size
            have hle03 : W0.heap.size ≤ wr.heap.size := hbw.size
            have hle5 : wr.heap.size ≤ W5.heap.size := h5.size
            have hle6 : W5.heap.size < w6.heap.size := hbl6
            clear hbox6 ho5 hbb6 h5 hbl6
            go_wp2_with fail
            refine wp_region_ops 7 [fun gq _ => gq 77 = .pointer (some ⟨W5.heap.size, 1, none⟩), fun gq _ => gq 78 = V5.orders, fun gq w' => (fun v w' => ∃ b, v = .slice (some ⟨b, 0, none⟩) 0 0 ∧ w6.heap.size ≤ b ∧ Blk w' b 75 []) (gq 79) w', fun gq _ => gq 80 = .slice Al l.length cl, fun gq w' => (fun v w' => Own cLine 4 75 w' w6.heap.size v l) (gq 81) w', fun gq w' => (fun v w' => ∃ u, v = .agg #[.int .i64 0, u] ∧ Own cLine 4 75 w' w6.heap.size u l) (gq 82) w', fun gq w' => (fun v w' => ∃ bb u, v = .slice (some ⟨bb, 0, none⟩) 1 1 ∧ w'.cell? ⟨bb, 0, none⟩ = some (.int .i64 0) ∧ w'.cell? ⟨bb, 1, none⟩ = some u ∧ bb < w'.heap.size ∧ Own cLine 4 75 w' w6.heap.size u l) (gq 83) w'] (by kernel_rfl) (by kernel_rfl) rfl (by kernel_rfl) ?_ (fun f w2 hb2 hR => ?_)
            simp only [List.take_succ_cons, List.take_zero]
            refine OpsOK.cons (OpOK.val rfl rfl (fun gq w' hb ho hd => ?_)) ?_
            · have e11 := ho 11 rfl
              go_simp
            refine OpsOK.cons (OpOK.val rfl rfl (fun gq w' hb ho hd => ?_)) ?_
            · have e77 : gq 77 = .pointer (some ⟨W5.heap.size, 1, none⟩) := hd ⟨0, .data⟩ (by simp) rfl (by decide)
              have x1 := (hx6.out.below hb).cells.2.1
              go_simp
            refine OpsOK.cons (OpOK.one (d := 79) (p := (fun v w' => ∃ b, v = .slice (some ⟨b, 0, none⟩) 0 0 ∧ w6.heap.size ≤ b ∧ Blk w' b 75 [])) rfl rfl (fun v w1 w2 h hb => let ⟨b, h1, h2, h3⟩ := h; ⟨b, h1, h2, h3.below hb h3.lt⟩) (fun gq w' hb ho hd => ?_)) ?_
            · unfold OpRel
              go_simp
              exact ⟨⟨hb.size, Blk.new _ _ _⟩, (Below.refl _ _).alloc (Nat.le_refl _) _⟩
            refine OpsOK.cons (OpOK.val rfl rfl (fun gq w' hb ho hd => ?_)) ?_
            · have e2 := ho 2 rfl
              go_simp
            refine OpsOK.cons (OpOK.one (d := 81) (p := (fun v w' => Own cLine 4 75 w' w6.heap.size v l)) rfl rfl (fun v w1 w2 h hb => h.below hb) (fun gq w' hb ho hd => ?_)) ?_
            · have e79 : ∃ b, (gq 79) = .slice (some ⟨b, 0, none⟩) 0 0 ∧ w6.heap.size ≤ b ∧ Blk w' b 75 [] := hd ⟨2, .data⟩ (by simp) rfl (by decide)
              have e80 : gq 80 = .slice Al l.length cl := hd ⟨3, .data⟩ (by simp) rfl (by decide)
              obtain ⟨bb, e3, hbb2, hblk⟩ := e79
              have hAt := (hL.out.grow (hB6.trans (hb.mono hB6.size))).at_
              obtain ⟨u, w3, hr, hb3, h0, h⟩ := run_append_fresh (P := Try.prog) w' 63 63 75 _ 4 32 Try.underlying63 infoLine rfl (by decide) (by decide) bb hblk l Al cl w'.heap.size (fun _ => rfl) hAt (by omega)
              unfold OpRel
              simp only [execOp, resolve, invoke, builtin, evL_tmp, e80, e3, Sem.run_bind, Sem.run_pure, Result.andThen_ok, List.map_toArray, List.map_cons, List.map_nil, hr]
              exact ⟨(h (by omega)).from_ hb.size, hb3⟩
            refine OpsOK.cons (OpOK.one (d := 82) (p := (fun v w' => ∃ u, v = .agg #[.int .i64 0, u] ∧ Own cLine 4 75 w' w6.heap.size u l)) rfl rfl (fun v w1 w2 h hb => let ⟨u, h1, h2⟩ := h; ⟨u, h1, h2.below hb⟩) (fun gq w' hb ho hd => ?_)) ?_
            · have e81 : Own cLine 4 75 w' w6.heap.size (gq 81) l := hd ⟨4, .data⟩ (by simp) rfl (by decide)
              obtain ⟨E, kc, s30⟩ := e81.isSlice
              rw [s30] at e81
              have e' := Lib.hid e81
              clear e81
              unfold OpRel
              go_simp
              exact ⟨e'.out, Below.refl _ _⟩
            refine OpsOK.cons (OpOK.one (d := 83) (p := (fun v w' => ∃ bb u, v = .slice (some ⟨bb, 0, none⟩) 1 1 ∧ w'.cell? ⟨bb, 0, none⟩ = some (.int .i64 0) ∧ w'.cell? ⟨bb, 1, none⟩ = some u ∧ bb < w'.heap.size ∧ Own cLine 4 75 w' w6.heap.size u l)) rfl rfl (fun v w1 w2 h hb => let ⟨bb, u, h1, h2, h2', h3, h4⟩ := h; ⟨bb, u, h1, (hb.cell (p := ⟨bb, 0, none⟩) h3).trans h2, (hb.cell (p := ⟨bb, 1, none⟩) h3).trans h2', Nat.lt_of_lt_of_le h3 hb.size, h4.below hb⟩) (fun gq w' hb ho hd => ?_)) ?_
            · have e82 : ∃ u, (gq 82) = .agg #[.int .i64 0, u] ∧ Own cLine 4 75 w' w6.heap.size u l := hd ⟨5, .data⟩ (by simp) rfl (by decide)
              obtain ⟨u, e82, hu⟩ := e82
              obtain ⟨E, kc, s30⟩ := hu.isSlice
              rw [s30] at e82 hu
              have e' := Lib.hid hu
              clear hu
              unfold OpRel
              go_simp
              exact ⟨e'.out.alloc _, (Below.refl _ _).alloc (Nat.le_refl _) _⟩
            exact OpsOK.nil
            obtain ⟨r77, r78, r79, r80, r81, r82, r83, _⟩ := hR
            replace r79 : ∃ b, (f 79) = .slice (some ⟨b, 0, none⟩) 0 0 ∧ w6.heap.size ≤ b ∧ Blk w2 b 75 [] := r79
            replace r81 : Own cLine 4 75 w2 w6.heap.size (f 81) l := r81
            replace r82 : ∃ u, (f 82) = .agg #[.int .i64 0, u] ∧ Own cLine 4 75 w2 w6.heap.size u l := r82
            replace r83 : ∃ bb u, (f 83) = .slice (some ⟨bb, 0, none⟩) 1 1 ∧ w2.cell? ⟨bb, 0, none⟩ = some (.int .i64 0) ∧ w2.cell? ⟨bb, 1, none⟩ = some u ∧ bb < w2.heap.size ∧ Own cLine 4 75 w2 w6.heap.size u l := r83
            simp only [fillA, fillT, List.take_succ_cons, List.take_zero, List.drop_succ_cons, List.drop_zero, List.filterMap_cons, List.filterMap_nil, List.foldl_cons, List.foldl_nil, List.setIfInBounds_toArray, List.set_cons_zero, List.set_cons_succ, r77, r78, r80]
            clear r77 r78 r80
            obtain ⟨bb, u, r4, d0, d1, l4, o4⟩ := r83
            simp only [r4]
            clear r4 r81 r82
            obtain ⟨E, kc, rfl⟩ := o4.isSlice
            have hx2 := hx6.out.below hb2
            have ho4 := ords_length hx2.own.llen
            refine wpList_push _ rfl (.tmp 78) (.tmp 83) 27 73 rfl wr.heap.size _ 2 32 Try.underlying27 infoOrder rfl (by decide) (by decide) V5.orders (ords s.orders V5.lines) (0, .slice E l.length kc) rfl hx2.own.orders ⟨bb, 0, none⟩ 1 rfl rfl (fun j x hj => by
              rw [Addr.add_lit, Nat.zero_add]
              match j, hj with
              | 0, hj => exact d0.trans hj
              | 1, hj => exact d1.trans hj
              | j + 2, hj => simp [cOrd] at hj) (oneOrd _ rfl) (by omega) (by have := hb2.size; omega) ?_
            intro v7 w7 hown7 hg7 hat7 hbel7
            obtain ⟨hk7, ho7⟩ := hx6.out.pushOrder hb2 (x := ⟨0, l⟩) (o4.from_ (by omega)) (fun g hg => (o4.size g hg).1) hg7 hown7
            obtain ⟨Av, cv, hv7⟩ := hown7.isSlice
            simp only [List.length_append, List.length_cons, List.length_nil, Nat.zero_add] at hv7
            have h07 := h06.trans ((hb2.mono h06.size).trans (hbel7.mono (by omega)))
            have hT7 := hx2.ty
            rw [hv7] at ho7
            rw [hv7]
            have ho7' := Lib.hid ho7
            have hk7' := Lib.hid hk7
            clear hown7 hg7 hat7 hv7 d0 d1 l4 o4 hx2 ho4 hk7 ho7
            go_wp2_with (refine wp_st_orders' rfl (.tmp 85) (.tmp 84) rfl rfl Av _ cv hk7'.out ho7'.out hT7 rfl rfl rfl (fun w8 hx8 hst8 => ?_); refine Hid.out ?_)
            unfold Hid
            have hle7 := h07.size
            have h08 := h07.trans (hst8.below (B := W0.heap.size) (fun k hk => by omega) hle7)
            have hB8 := hb0.trans (h08.mono hb0.size)
            obtain ⟨V8, hx8⟩ : ∃ V8, Bx w8 wr.heap.size W5.heap.size 31 [] V8 { s with orders := s.orders ++ [⟨0, l⟩] } := ⟨_, hx8⟩
            have hx8' := Lib.hid hx8
            clear ho7' hk7' hx8 hst8 hle7
            have hbx9 := hR.out _ h08
            obtain ⟨b0, b1, b2, b3, b4, b5, b6⟩ := BoxAt.cells hx8'.out.boxAt
            have hone9 := OwnSt.one hx8'.out.own
            go_wp2_with (refine wpList_store_state rfl (.tmp 6) (.tmp 86) rfl rfl (w.heap.size + 1 + 1) nilSV V8 hbx9 rfl rfl hone9 (fun w9 hbox9 hg9 => ?_))
            have hO9 := OwnSt.keptBy hx8'.out.own hg9 hbx9 (by decide) (by decide) (by decide) (by decide) (by decide) (by decide)
            obtain ⟨p0, p1, p2, p3, p4, p5, p6⟩ := BoxAt.cells hbox9
            have hfin9 : Below w.heap.size w w9 := Below.grown hB8 hg9 (Below.size hB8) (fun k hk => by injection hk with hk; omega)
            clear b0 b1 b2 b3 b4 b5 b6
            go_wp2_with fail
            exact bodyPost_ret (v := .tuple #[SV.val V8, .int .i64 0]) (by simp [results, Try.results37, go_sem, SV.val, p0, p1, p2, p3, p4, p5, p6]) rfl (actOk hfin.out (hO9.from_ hle3) hfin9)
  · have hne : (checkState p s != 0) = true := by simpa using hc
    have hfin := Lib.hid (enter_bad (l := l) hc)
    clear hc
    have hbx9 := hR.out _ h1
    go_wp2_with (refine wpList_store_state rfl (.tmp 6) (.tmp 17) rfl rfl (w.heap.size + 1 + 1) nilSV nilSV hbx9 rfl rfl rfl (fun w9 hbox9 hg9 => ?_))
    obtain ⟨p0, p1, p2, p3, p4, p5, p6⟩ := BoxAt.cells hbox9
    have hfin9 : Below w.heap.size w w9 := Below.grown hB1 hg9 (Below.size hB1) (fun k hk => by injection hk with hk; omega)
    go_wp2_with fail
    exact bodyPost_ret (v := .tuple #[nilSV.val, .int .i64 (checkState p s)]) (by simp [results, Try.results37, go_sem, SV.val, p0, p1, p2, p3, p4, p5, p6]) rfl (actErr hfin.out hfin9)
end Wh
