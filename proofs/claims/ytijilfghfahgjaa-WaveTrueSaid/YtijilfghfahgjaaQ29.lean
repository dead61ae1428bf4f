/- Texts of the claim, joined: WaveD, StateN, StateP, RecvL, AllocL. -/
import Derived.StillTailTactics
import Derived.Test.YtijilfghfahgjaaQ27
import Derived.Test.YtijilfghfahgjaaQ28
import Derived.Test.YtijilfghfahgjaaQ17
import Derived.Test.YtijilfghfahgjaaQ11
import Derived.Test.YtijilfghfahgjaaQ24
import Derived.Test.YtijilfghfahgjaaQ18
import Derived.Test.YtijilfghfahgjaaQ04
import Derived.Test.YtijilfghfahgjaaQ09
namespace Wh
open Go Go.RowKit Go.Shelf Go.Proofs
attribute [local go_sem] run_indexAt_letter evL_tmp evL_const evL_func

/-- The holds of other orders, among the first k. -/
def othersTo (s : State) (i k : Nat) : List Hold := (s.holds.take k).filter fun h => decide (h.order ≠ (i : Int))
theorem othersTo_yes {s : State} {i k : Nat} (hk : k < s.holds.length) (h : (hold s.holds k).order ≠ (i : Int)) : othersTo s i (k + 1) = othersTo s i k ++ [hold s.holds k] := by
  unfold othersTo
  rw [hold_get hk] at h ⊢
  exact take_filter_yes hk _ (by simpa using h)
theorem othersTo_no {s : State} {i k : Nat} (hk : k < s.holds.length) (h : (hold s.holds k).order = (i : Int)) : othersTo s i (k + 1) = othersTo s i k := by
  unfold othersTo
  rw [hold_get hk] at h
  exact take_filter_no hk _ (by simpa using h)
theorem othersTo_all (s : State) (i : Nat) : othersTo s i s.holds.length = s.holds.filter fun h => decide (h.order ≠ (i : Int)) := by unfold othersTo; rw [List.take_length]
theorem othersTo_len (s : State) (i k : Nat) : (othersTo s i k).length ≤ s.holds.length := by
  unfold othersTo
  have h1 := List.length_filter_le (fun h : Hold => decide (h.order ≠ (i : Int))) (s.holds.take k)
  rw [List.length_take] at h1
  omega
def withH (s : State) (l : List Hold) : State := { s with holds := l }

set_option maxHeartbeats 8000000 in
set_option maxRecDepth 100000 in
theorem rCancelOf (w : World) (v vs : Value) (p : Plan) (s : State) (o : Int) (hp : PlanV w w.heap.size v p) (hv : StateV w w.heap.size vs s) :
    Calls Try.prog 29 #[v, vs, .int .i64 o] w (ActPost (cancel p s o) w) := by
  obtain ⟨Ab, cb, As, cs, rfl, hP', hBn, hSz, hlb, hls⟩ := openPl hp
  obtain ⟨A0, c0, A1, c1, A2, c2, A3, c3, A4, c4, A5, c5, A6, c6, rfl, hV, hN, hO, hH, hM, hI, hU, hX, hl0, hl1, hl2, hl3, hl4, hl5, hl6⟩ := openOne hv
  go_enter Try.func29, Try.ntmps29
  go_wp2_with fail
  obtain ⟨W0, hW0, hb0, hsz0, hsz1, hsE, hK, hR⟩ := boxesAct w p s Ab cb As cs A0 c0 A1 c1 A2 c2 A3 c3 A4 c4 A5 c5 A6 c6
  rw [hW0]
  clear hW0
  obtain ⟨⟨y0, y1⟩, x0, x1, x2, x3, x4, x5, x6, hbz0, hbz1⟩ := hK.out W0 (Below.refl W0.heap.size W0)
  go_wp2_with fail
  clear y0 y1 x0 x1 x2 x3 x4 x5 x6 hbz0 hbz1
  refine (rCheckState _ _ _ p s (hP'.out _ hb0) (hV.out _ hb0)).mono ?_
  rintro e W1 ⟨rfl, h1⟩
  have hB1 := hb0.trans (h1.mono hb0.size)
  obtain ⟨⟨y0, y1⟩, x0, x1, x2, x3, x4, x5, x6, hbz0, hbz1⟩ := hK.out W1 (h1)
  by_cases hc : checkState p s = 0
  · have hc' := Lib.hid hc
    have hsn := Lib.hid (checkState_zero.1 hc).1
    have h4 := hsn.out.orders4
    rw [hc]
    clear hc
    have hw4 : IntKind.i64.wrap ((s.orders.length : Int) - 1) = (s.orders.length : Int) - 1 := IntWalk.i64_in _ (by omega)
    cases g1 : within o 0 ((s.orders.length : Int) - 1)
    · have hfin := Lib.hid (cancel_none (o := o) hc'.out (by have := within_false.1 g1; omega))
      go_wp2_with fail
      refine (withinAt g1 _).mono ?_
      rintro e w' ⟨rfl, rfl⟩
      clear g1
      have hbx9 := hR.out _ h1
      go_wp2_with (refine wpList_store_state rfl (.tmp 6) (.tmp 26) rfl rfl (w.heap.size + 1 + 1) nilSV nilSV hbx9 rfl rfl rfl (fun w9 hbox9 hg9 => ?_))
      obtain ⟨p0, p1, p2, p3, p4, p5, p6⟩ := BoxAt.cells hbox9
      have hfin9 : Below w.heap.size w w9 := Below.grown hB1 hg9 (Below.size hB1) (fun k hk => by injection hk with hk; omega)
      go_wp2_with fail
      exact bodyPost_ret (v := .tuple #[nilSV.val, .int .i64 4]) (by simp [results, Try.results29, go_sem, SV.val, p0, p1, p2, p3, p4, p5, p6]) rfl (actErr hfin.out hfin9)
    have g1' := within_iff.1 g1
    obtain ⟨i, rfl⟩ : ∃ i : Nat, o = i := ⟨o.toNat, by omega⟩
    have hi : i < s.orders.length := by omega
    have hi' : (i : Int) < s.orders.length := by omega
    go_wp2_with fail
    refine (withinAt g1 _).mono ?_
    rintro e w' ⟨rfl, rfl⟩
    clear g1 g1' hw4
    obtain ⟨Al, cl, ol, ll, d0, d1, hsl⟩ := (hO.out W1 hB1).order hi
    change W1.cell? _ = some (Value.int IntKind.i64 (s.order i).kind) at d0
    by_cases hk : (s.order i).kind = 2
    · have hfin := Lib.hid (cancel_done hc'.out hi hk)
      rw [hk] at d0
      clear hk
      have hbx9 := hR.out _ h1
      go_wp2_with (refine wpList_store_state rfl (.tmp 6) (.tmp 34) rfl rfl (w.heap.size + 1 + 1) nilSV nilSV hbx9 rfl rfl rfl (fun w9 hbox9 hg9 => ?_))
      obtain ⟨p0, p1, p2, p3, p4, p5, p6⟩ := BoxAt.cells hbox9
      have hfin9 : Below w.heap.size w w9 := Below.grown hB1 hg9 (Below.size hB1) (fun k hk => by injection hk with hk; omega)
      go_wp2_with fail
      exact bodyPost_ret (v := .tuple #[nilSV.val, .int .i64 6]) (by simp [results, Try.results29, go_sem, SV.val, p0, p1, p2, p3, p4, p5, p6]) rfl (actErr hfin.out hfin9)
    have hfin := Lib.hid (cancel_ok hc'.out hi hk)
    have hq : ((s.order i).kind == 2) = false := by simpa using hk
    clear hk
    go_wp2_with fail
    clear y0 y1 x0 x1 x2 x3 x4 x5 x6 hbz0 hbz1
    clear d0 d1 hsl hq
    refine (rOwnState _ _ p s (hV.out _ hB1) hsn.out).mono ?_
    rintro e W5 ⟨_, rfl, ⟨V5, rfl, ho5⟩, h5⟩
    have hone6 := (ho5).one
    have hnb6 := newBox (W5)
    go_wp2_with (refine wpList_store_state rfl (.tmp 9) (.tmp 36) rfl rfl (World.heap (W5)).size nilSV V5 hnb6 rfl rfl hone6 (fun w6 hbox6 hg6 => ?_); refine Hid.out ?_)
    unfold Hid
    have hbb6 := newBelow hg6
    have hbl6 := hbox6.lt
    clear hone6 hnb6 hg6
    have hx6 := Lib.hid (Bx.of hbox6 (ho5.below hbb6))
    have h06 := h1.trans ((h5.trans (hbb6.mono h5.size)).mono h1.size)
    have hle : w.heap.size ≤ W1.heap.size := hB1.size
    have hle0 : W0.heap.size ≤ W1.heap.size := h1.size
    have hle5 : W1.heap.size ≤ W5.heap.size := h5.size
    clear hbox6 ho5 hbb6 h5 hbl6 h1 hB1
    generalize W1.heap.size = base at hx6 hle hle0 hle5
    generalize W5.heap.size = bx at hx6 hle5 ⊢
    obtain ⟨Ao, co, hvo⟩ := hx6.out.own.ordersSlice
    have hvo' := Lib.hid hvo
    clear hvo
    have h72 := ok_len72 hsn.out.holds
    go_wp2_with (refine wp_st_holds' rfl (.tmp 37) (.const (.slice none 0 0)) rfl rfl none 0 0 (V := V5) (V' := { V5 with holds := .slice none 0 0 }) (s' := { s with holds := [] }) (cs := []) (b := bx) (by rw [List.append_nil]; exact hx6.out.boxAt.blk) (hx6.out.own.newHolds (Below.refl _ _) Own.nil) boxT rfl rfl rfl (fun w8 hx8 hst8 => ?_); refine Hid.out ?_)
    unfold Hid
    have h08 := h06.trans (hst8.below (B := W0.heap.size) (fun q hq => by omega) h06.size)
    have hx8 : Bx w8 base bx 31 [] { V5 with holds := .slice none 0 0 } (withH s (othersTo s i 0)) := hx8
    have hx8' := Lib.hid hx8
    clear hx8 hst8 hx6 h06
    go_wp2_with fail
    go_loopw [10] (fun j wr => ∃ (k : Nat) (V : SV), V = { V5 with holds := V.holds } ∧ k ≤ s.holds.length ∧ j = .int .i64 k ∧ Bx wr base bx 31 [] V (withH s (othersTo s i k)) ∧ Below W0.heap.size W0 wr) (fun j _ => s.holds.length - (intOf j).toNat)
    case atStart => exact ⟨0, _, rfl, Nat.zero_le _, rfl, hx8'.out, h08⟩
    case round =>
      clear hx8' h08
      obtain ⟨k, V, hV5, hkl, rfl, hx, h0⟩ := hrel
      have hx' := Lib.hid hx
      have hV5' := Lib.hid hV5
      clear hx hV5
      obtain ⟨⟨y0, y1⟩, x0, x1, x2, x3, x4, x5, x6, hbz0, hbz1⟩ := hK.out wr (h0)
      by_cases hkt : k < s.holds.length
      · have hki : (k : Int) < (s.holds.length : Int) := by omega
        have hB0 := hb0.trans (h0.mono hb0.size)
        obtain ⟨hok4, hAb4, q0, q1, q2, q3⟩ := (hH.out wr hB0).at_.hold hkt
        by_cases hne : (hold s.holds k).order = (i : Int)
        · have hq : ((hold s.holds k).order != (i : Int)) = false := by simpa using hne
          have hx2 := Lib.hid (show Bx wr base bx 31 [] V (withH s (othersTo s i (k + 1))) by rw [othersTo_no hkt hne]; exact hx'.out)
          clear hne
          go_wp2_with fail
          go_roundw
          case rel => exact ⟨k + 1, V, hV5'.out, by omega, by go_num, hx2.out, h0⟩
          case measure => simp [intOf]; omega
        · have hq : ((hold s.holds k).order != (i : Int)) = true := by simpa using hne
          have hyes := Lib.hid (othersTo_yes hkt hne)
          have hol := Lib.hid (othersTo_len s i k)
          obtain ⟨Ah, ch, hvh⟩ := hx'.out.own.holds.isSlice
          have hvh' := Lib.hid (show V.holds = .slice Ah (othersTo s i k).length ch from hvh)
          have hrow := Lib.hid (fun r (hr : V.holds.ownBlock = some r) => hx'.out.own.holds.size r hr)
          have hbs : base ≤ wr.heap.size := by have := hx'.out.lt; omega
          have hTB := Lib.hid (fun w' (hT : wr.grownBy w' V.holds.ownBlock) => (h0.grown hT h0.size (fun r hr => by have := (hrow.out r hr).1; omega) : Below W0.heap.size W0 w'))
          have hbrow := Lib.hid (show some bx ≠ V.holds.ownBlock from fun he => by
            rcases hx'.out.own.holds.notBox hx'.out.boxAt.blk (by decide) with h | h
            · rw [h] at he; cases he
            · exact h he.symm)
          have hnew := Lib.hid (fun g (hg : wr.heap.size ≤ g) => (show some g ≠ V.holds.ownBlock from fun he => by have := (hrow.out g he.symm).2; omega))
          have hh4 := Lib.hid (fun w' (hB : Below W0.heap.size W0 w') => (show _ from (hH.out w' (hb0.trans (hB.mono hb0.size))).at_.hold hkt))
          have hok4' := Lib.hid hok4
          clear hne hvh
          go_wp2_with fail
          clear y0 y1 x0 x1 x2 x3 x4 x5 x6 hbz0 hbz1
          clear q0 q1 q2 q3 hq hAb4 hok4
          refine wp_region_opsB 10 (fun w' => wr.grownBy w' V.holds.ownBlock) (fun w' => Below wr.heap.size wr w') (fun w1 w2 => w1.grownBy w2 V.holds.ownBlock) 8 [
            fun g _ => g 53 = .pointer (some ⟨bx, 2, none⟩), fun g _ => g 54 = .slice Ah (othersTo s i k).length ch, fun g _ => g 55 = .pointer (some ⟨w.heap.size + 1, 2, none⟩), fun g _ => g 56 = .slice A2 s.holds.length c2,
            fun g _ => g 57 = .int .i64 k, fun g _ => g 58 = .pointer (some ⟨ablk A2, aoff A2 + k * 4, none⟩), fun g _ => g 59 = .agg #[.int .i64 (hold s.holds k).order, .int .i64 (hold s.holds k).line, .int .i64 (hold s.holds k).bin, .int .i64 (hold s.holds k).n],
            fun g w' => (fun v w' => ∃ b, v = .slice (some ⟨b, 0, none⟩) 1 1 ∧ wr.heap.size ≤ b ∧ Blk w' b 63 [.int .i64 (hold s.holds k).order, .int .i64 (hold s.holds k).line, .int .i64 (hold s.holds k).bin, .int .i64 (hold s.holds k).n]) (g 60) w',
            fun g w' => Own cHold 4 63 w' base (g 61) (othersTo s i k ++ [hold s.holds k]),
            fun g _ => g 62 = .pointer (some ⟨bx, 2, none⟩)] (by kernel_rfl) (by kernel_rfl) rfl (by kernel_rfl)
            (fun w1 w2 h hb => grown_trans h (grown_of_below hb)) (fun w1 w2 h h' => grown_trans h h') (fun w1 w2 h hb => h.trans (hb.mono h.size)) (grown_of_below (Below.refl _ _).drew) (Below.refl _ _).drew ?_ (fun f w2 hT hR => ?_)
          · simp only [List.take_succ_cons, List.take_zero]
            refine OpsBrk.cons (OpBrk.val rfl rfl (by decide) (fun g w' hT ho hd => ?_)) ?_
            · have e1 := ho 9 rfl
              go_simp
            refine OpsBrk.cons (OpBrk.val rfl rfl (by decide) (fun g w' hT ho hd => ?_)) ?_
            · have e1 : g 53 = .pointer (some ⟨bx, 2, none⟩) := hd ⟨0, .data⟩ (by simp) rfl (by decide)
              have y1 := (hx'.out.boxAt.grown hT hbrow.out).cells.2.2.1
              rw [hvh'.out] at y1
              go_simp
            refine OpsBrk.cons (OpBrk.val rfl rfl (by decide) (fun g w' hT ho hd => ?_)) ?_
            · have e1 := ho 4 rfl
              go_simp
            refine OpsBrk.cons (OpBrk.val rfl rfl (by decide) (fun g w' hT ho hd => ?_)) ?_
            · have e1 : g 55 = .pointer (some ⟨w.heap.size + 1, 2, none⟩) := hd ⟨2, .data⟩ (by simp) rfl (by decide)
              obtain ⟨⟨y0, y1⟩, x0, x1, x2, x3, x4, x5, x6, hbz0, hbz1⟩ := hK.out w' (hTB.out w' hT)
              go_simp
            refine OpsBrk.cons (OpBrk.val rfl rfl (by decide) (fun g w' hT ho hd => ?_)) ?_
            · have e1 := ho 10 rfl
              go_simp
            refine OpsBrk.cons (OpBrk.val rfl rfl (by decide) (fun g w' hT ho hd => ?_)) ?_
            · have e1 : g 56 = .slice A2 s.holds.length c2 := hd ⟨3, .data⟩ (by simp) rfl (by decide)
              have e2 : g 57 = .int .i64 k := hd ⟨4, .data⟩ (by simp) rfl (by decide)
              have hok4 := hok4'.out
              go_simp
            refine OpsBrk.cons (OpBrk.val rfl rfl (by decide) (fun g w' hT ho hd => ?_)) ?_
            · have e1 : g 58 = .pointer (some ⟨ablk A2, aoff A2 + k * 4, none⟩) := hd ⟨5, .data⟩ (by simp) rfl (by decide)
              obtain ⟨_, _, q0, q1, q2, q3⟩ := hh4.out w' (hTB.out w' hT)
              go_simp
            refine OpsBrk.cons (OpBrk.one (d := 60) (p := fun v w' => ∃ b, v = .slice (some ⟨b, 0, none⟩) 1 1 ∧ wr.heap.size ≤ b ∧ Blk w' b 63 [.int .i64 (hold s.holds k).order, .int .i64 (hold s.holds k).line, .int .i64 (hold s.holds k).bin, .int .i64 (hold s.holds k).n]) rfl rfl (by decide) (fun v w1 w2 h hb => h.elim fun b h => ⟨b, h.1, h.2.1, h.2.2.below hb h.2.2.lt⟩) (fun v w1 w2 h hb => h.elim fun b h => ⟨b, h.1, h.2.1, h.2.2.grown hb (hnew.out b h.2.1)⟩) (fun g w' hT ho hd => ?_)) ?_
            · have e1 : g 59 = .agg #[.int .i64 (hold s.holds k).order, .int .i64 (hold s.holds k).line, .int .i64 (hold s.holds k).bin, .int .i64 (hold s.holds k).n] := hd ⟨6, .data⟩ (by simp) rfl (by decide)
              unfold OpRel
              go_simp
              exact ⟨⟨hT.size, Blk.new _ _ _⟩, (Below.refl _ _).alloc (Nat.le_refl _) _⟩
            refine OpsBrk.cons ⟨fun g w1 w2 h hb => h.below hb, fun hne => absurd rfl hne, fun g g' w1 he h => ?_, fun g w' hT hJ ho hd => ?_⟩ ?_
            · have e61 := he 8 _ 61 (.self 8) rfl rfl
              simp only [e61] at h
              exact h
            · have e1 : g 54 = .slice Ah (othersTo s i k).length ch := hd ⟨1, .data⟩ (by simp) rfl (by decide)
              obtain ⟨gb, e3, hgb, hblk⟩ : ∃ b, g 60 = .slice (some ⟨b, 0, none⟩) 1 1 ∧ wr.heap.size ≤ b ∧ Blk w' b 63 [.int .i64 (hold s.holds k).order, .int .i64 (hold s.holds k).line, .int .i64 (hold s.holds k).bin, .int .i64 (hold s.holds k).n] := hd ⟨7, .data⟩ (by simp) rfl (by decide)
              have hown : Own cHold 4 63 w' base V.holds (othersTo s i k) := hx'.out.own.holds.below (hJ rfl)
              have hol1 := hol.out
              obtain ⟨ii, hi, hz, hsize, hbytes⟩ := infoHold
              obtain ⟨v', w3, hr, hown3, hg3, _, _⟩ := run_append_own_at (P := Try.prog) w' base 28 28 63 ii _ 4 32 Try.underlying28 hi hz hsize hbytes rfl (by decide) V.holds _ _ hown ⟨gb, 0, none⟩ 1 1 (cHold (hold s.holds k)) rfl
                (fun j u hj => by rw [Addr.add_lit, Nat.zero_add]; exact hblk.cell hj) (oneHold _) (by unfold maxLen; omega) (by omega) (Nat.le_trans hbs hT.size)
              rw [hvh'.out] at hr
              unfold OpRel
              simp only [execOp, resolve, invoke, builtin, evL_tmp, e1, e3, Sem.run_bind, Sem.run_pure, Result.andThen_ok, List.map_toArray, List.map_cons, List.map_nil, hr]
              refine ⟨?_, .inr ⟨trivial, hg3⟩⟩
              have h2 : Own cHold 4 63 w3 base v' (othersTo s i k ++ [hold s.holds k]) := by
                unfold Own
                rw [List.length_append, List.flatMap_append]
                simpa using hown3
              simpa [updO, upd] using h2
            refine OpsBrk.cons (OpBrk.val rfl rfl (by decide) (fun g w' hT ho hd => ?_)) ?_
            · have e1 := ho 9 rfl
              go_simp
            exact OpsBrk.nil
          · obtain ⟨r0, r1, r2, r3, r4, r5, r6, ⟨gb, r7, _, _⟩, hv, r9, _⟩ := hR
            simp only [fillA, fillT, List.take_succ_cons, List.take_zero, List.drop_succ_cons, List.drop_zero, List.filterMap_cons, List.filterMap_nil, List.foldl_cons, List.foldl_nil, List.setIfInBounds_toArray, List.set_cons_zero, List.set_cons_succ, r0, r1, r2, r3, r4, r5, r6, r7, r9]
            clear r0 r1 r2 r3 r4 r5 r6 r7 r9
            rw [← hyes.out] at hv
            obtain ⟨Av, cv, hv7⟩ := hv.isSlice
            rw [hv7] at hv
            simp only [hv7]
            have hO7 := hx'.out.own.wroteHolds hT hv
            have hb7 := hx'.out.boxAt.grown hT hbrow.out
            have h07 := hTB.out w2 hT
            clear hv7 hv
            refine wp_st_holds' rfl (.tmp 62) (.tmp 61) rfl rfl Av (othersTo s i (k + 1)).length cv (V := V) (cs := []) (b := bx) (by rw [List.append_nil]; exact hb7.blk) hO7 boxT rfl rfl rfl (fun w8 hx8 hst8 => ?_)
            refine wpList_nil ?_
            have h08 := h07.trans (hst8.below (B := W0.heap.size) (fun q hq => by omega) h07.size)
            have hx8' := Lib.hid (show Bx w8 base bx 31 [] { V with holds := .slice Av (othersTo s i (k + 1)).length cv } (withH s (othersTo s i (k + 1))) from hx8)
            have hV8 := Lib.hid (show ({ V with holds := .slice Av (othersTo s i (k + 1)).length cv } : SV) = { V5 with holds := .slice Av (othersTo s i (k + 1)).length cv } by rw [hV5'.out])
            clear hx8 hst8 hO7 hb7 h07 hT hx' hrow hTB hbrow hnew hh4 hok4' hyes hol
            go_wp2_with fail
            go_roundw
            case rel => exact ⟨k + 1, _, hV8.out, by omega, by go_num, hx8'.out, h08⟩
            case measure => simp [intOf]; omega
      · obtain rfl : k = s.holds.length := by omega
        have hx7 := Lib.hid (show Bx wr base bx 31 [] V (withH s (s.holds.filter fun h => decide (h.order ≠ (i : Int)))) by rw [← othersTo_all]; exact hx'.out)
        obtain ⟨l7, hl7⟩ : ∃ l7, (s.holds.filter fun h => decide (h.order ≠ (i : Int))) = l7 := ⟨_, rfl⟩
        have hfl := Lib.hid hl7
        rw [hl7] at hx7
        have hvo7 := Lib.hid (show V.orders = .slice Ao s.orders.length co by rw [hV5'.out]; exact hvo'.out)
        clear hx' hl7 hvo' hV5'
        obtain ⟨go, _, _, eo, -⟩ := hx7.out.own.orderAt (o := i) hi
        rw [hvo7.out] at eo
        injection eo with eo e2 e3
        subst eo
        clear e2 e3
        obtain ⟨hgo, hgol, z0, z1⟩ := hx7.out.own.orderCells (o := i) hi hvo7.out
        have c1 := hx7.out.cells.2.1
        rw [hvo7.out] at c1
        go_wp2_with (refine wp_st_kind rfl (.tmp 67) (.const (.int .i64 2)) rfl rfl (i := i) (q := 2) hx7.out hi hvo7.out rfl rfl (fun w9 hx9 hst9 => ?_); refine Hid.out ?_)
        unfold Hid
        clear y0 y1 x0 x1 x2 x3 x4 x5 x6 hbz0 hbz1
        have hx9 : Bx w9 base bx 31 [] V (cancK s l7 i 0) := by rw [← cancK_zero]; exact hx9
        have h09 := h0.trans (hst9.below (B := W0.heap.size) (fun q hq => by omega) h0.size)
        have hx9' := Lib.hid hx9
        clear hst9 hx9 z0 z1 c1 hx7 h0
        have l13 := hsn.out.lines3 hi
        obtain ⟨gl, cl, e1, hgl⟩ := hx9'.out.own.lineSlice (o := i) (by rw [cancK_len]; exact hi) (by rw [cancK_lines hi]; omega)
        rw [cancK_lines hi] at e1
        have e1' := Lib.hid e1
        clear e1
        go_wp2_with fail
        go_loopw [11] (fun j wr => ∃ k : Nat, k ≤ (s.order i).lines.length ∧ j = .int .i64 k ∧ Bx wr base bx 31 [] V (cancK s l7 i k) ∧ Below W0.heap.size W0 wr) (fun j _ => (s.order i).lines.length - (intOf j).toNat)
        case atStart => exact ⟨0, Nat.zero_le _, rfl, hx9'.out, h09⟩
        case round =>
          clear hx9' h09
          obtain ⟨k, hkl, rfl, hx, h0⟩ := hrel
          have hx' := Lib.hid hx
          clear hx
          have hon : i < (cancK s l7 i k).orders.length := by rw [cancK_len]; exact hi
          obtain ⟨_, _, _, z1⟩ := hx'.out.own.orderCells hon hvo7.out
          rw [e1'.out] at z1
          have c1 := hx'.out.cells.2.1
          rw [hvo7.out] at c1
          have hon' := Lib.hid hon
          clear hon
          by_cases hkt : k < (s.order i).lines.length
          · have hki : (k : Int) < ((s.order i).lines.length : Int) := by omega
            have hkn : k < ((cancK s l7 i k).order i).lines.length := by rw [cancK_lines hi]; exact hkt
            obtain ⟨hgll, f0, f1, f2, f3⟩ := hx'.out.own.lineCells hon'.out hkn e1'.out
            rw [cancK_line hi hkt] at f1 f2
            have hlr := hsn.out.line hi hkt
            have hwr : IntKind.i64.wrap ((s.line i k).want - (s.line i k).got) = (s.line i k).want - (s.line i k).got := by rw [IntKind.wrap_i64]; omega
            have hx'd := Lib.hid hx'.out.drew
            have hkn' := Lib.hid hkn
            clear f0 f3 hlr hkn
            go_wp2_with fail
            go_still_tail 30, (by kernel_rfl)
            change wpList _ _ _ _ _ wr.drew
            refine wp_st_line rfl (.tmp 108) (.tmp 106) rfl rfl (j := 3) (y := { s.line i k with back := (s.line i k).want - (s.line i k).got }) hx'd.out hon'.out hkn'.out e1'.out (by decide) (by rw [cancK_line hi hkt]; rfl) rfl rfl (fun w9 hx9 hst9 => ?_)
            refine wpList_nil ?_
            rw [cancK_succ hi hkt] at hx9
            have h09 := h0.drew.trans (hst9.below (B := W0.heap.size) (fun q hq => by omega) h0.drew.size)
            have hx9' := Lib.hid hx9
            clear hst9 hx9 z1 f1 f2 c1 hx' hx'd hwr
            go_wp2_with fail
            go_roundw
            case rel => exact ⟨k + 1, by omega, by go_num, hx9'.out, h09⟩
            case measure => simp [intOf]; omega
          · obtain rfl : k = (s.order i).lines.length := by omega
            have hB0 := hb0.trans (h0.mono hb0.size)
            have hx2 := Lib.hid (show Bx wr base bx 31 [] V (cancelS s i) by rw [← cancK_all, hfl.out]; exact hx'.out)
            have hvv := hvo7.out
            clear hx' hvo7 e1'
            obtain ⟨a0, a1, a2, a3, a4, a5, a6, a7, a8⟩ := V
            obtain rfl : a1 = .slice (some ⟨go, 0, none⟩) s.orders.length co := hvv
            have hbx9 := hR.out _ h0
            obtain ⟨b0, b1, b2, b3, b4, b5, b6⟩ := BoxAt.cells hx2.out.boxAt
            have hone9 := OwnSt.one hx2.out.own
            go_wp2_with (refine wpList_store_state rfl (.tmp 6) (.tmp 109) rfl rfl (w.heap.size + 1 + 1) nilSV (⟨a0, .slice (some ⟨go, 0, none⟩) s.orders.length co, a2, a3, a4, a5, a6, a7, a8⟩ : SV) hbx9 rfl rfl hone9 (fun w9 hbox9 hg9 => ?_))
            have hO9 := OwnSt.keptBy hx2.out.own hg9 hbx9 (by decide) (by decide) (by decide) (by decide) (by decide) (by decide)
            obtain ⟨p0, p1, p2, p3, p4, p5, p6⟩ := BoxAt.cells hbox9
            have hfin9 : Below w.heap.size w w9 := Below.grown hB0 hg9 (Below.size hB0) (fun k hk => by injection hk with hk; omega)
            clear b0 b1 b2 b3 b4 b5 b6
            go_wp2_with fail
            exact bodyPost_ret (v := .tuple #[SV.val (⟨a0, .slice (some ⟨go, 0, none⟩) s.orders.length co, a2, a3, a4, a5, a6, a7, a8⟩ : SV), .int .i64 0]) (by simp [results, Try.results29, go_sem, SV.val, p0, p1, p2, p3, p4, p5, p6]) rfl (actOk hfin.out (hO9.from_ hle) hfin9)
  · have hne : (checkState p s != 0) = true := by simpa using hc
    have hfin := Lib.hid (cancel_bad (o := o) hc)
    clear hc
    have hbx9 := hR.out _ h1
    go_wp2_with (refine wpList_store_state rfl (.tmp 6) (.tmp 17) rfl rfl (w.heap.size + 1 + 1) nilSV nilSV hbx9 rfl rfl rfl (fun w9 hbox9 hg9 => ?_))
    obtain ⟨p0, p1, p2, p3, p4, p5, p6⟩ := BoxAt.cells hbox9
    have hfin9 : Below w.heap.size w w9 := Below.grown hB1 hg9 (Below.size hB1) (fun k hk => by injection hk with hk; omega)
    go_wp2_with fail
    exact bodyPost_ret (v := .tuple #[nilSV.val, .int .i64 (checkState p s)]) (by simp [results, Try.results29, go_sem, SV.val, p0, p1, p2, p3, p4, p5, p6]) rfl (actErr hfin.out hfin9)
end Wh
namespace Wh
open Go Go.RowKit Go.Shelf Go.Proofs
attribute [local go_sem] run_indexAt_letter evL_tmp evL_const evL_func

theorem Own.at_block {α : Type} {enc : α → List Value} {size : Nat} {e : TypeId} {w : World} {base g : Nat} {cs : Array Value} {l : List α} (hb : base ≤ g) (hg : w.heap[g]? = some (.cells cs e)) (hc : cs.toList = l.flatMap enc)
    (hk : ∀ x, (enc x).length = size) (hl : l.length ≤ 1000000) : Own enc size e w base (.slice (some ⟨g, 0, none⟩) l.length l.length) l := by
  refine ⟨by rw [flat_length enc size hk], .inr ⟨g, l.length, cs, rfl, hb, hg, Nat.le_refl _, by unfold maxLen; omega, ?_, ?_⟩⟩
  · rw [← Array.length_toList, hc, flat_length enc size hk]
  · rw [hc, ← flat_length enc size hk, List.take_length]

def busyS : State := ⟨[[9, 0], [3, 0], [0, 6]], [⟨1, [⟨0, 6, 1, 0⟩, ⟨1, 9, 0, 3⟩]⟩, ⟨0, [⟨0, 4, 0, 0⟩]⟩], [⟨0, 0, 0, 2⟩, ⟨0, 0, 1, 3⟩, ⟨0, 1, 2, 6⟩], [⟨0, 0, 1, 5⟩], [13, 6], [1, 0], [0, 0]⟩
def busyV (n : Nat) : SV :=
  ⟨.slice (some ⟨n + 4, 0, none⟩) 3 3, .slice (some ⟨n + 7, 0, none⟩) 2 2, .slice (some ⟨n + 8, 0, none⟩) 3 3, .slice (some ⟨n + 9, 0, none⟩) 1 1, .slice (some ⟨n + 10, 0, none⟩) 2 2, .slice (some ⟨n + 11, 0, none⟩) 2 2, .slice (some ⟨n + 12, 0, none⟩) 2 2,
   [.slice (some ⟨n + 1, 0, none⟩) 2 2, .slice (some ⟨n + 2, 0, none⟩) 2 2, .slice (some ⟨n + 3, 0, none⟩) 2 2], [.slice (some ⟨n + 5, 0, none⟩) 2 2, .slice (some ⟨n + 6, 0, none⟩) 1 1]⟩
def busyO (n : Nat) : List Obj := [
  .cells (busyV n).cells.toArray 31,
  .cells #[.int .i64 9, .int .i64 0] 3, .cells #[.int .i64 3, .int .i64 0] 3, .cells #[.int .i64 0, .int .i64 6] 3,
  .cells #[.slice (some ⟨n + 1, 0, none⟩) 2 2, .slice (some ⟨n + 2, 0, none⟩) 2 2, .slice (some ⟨n + 3, 0, none⟩) 2 2] 23,
  .cells #[.int .i64 0, .int .i64 6, .int .i64 1, .int .i64 0, .int .i64 1, .int .i64 9, .int .i64 0, .int .i64 3] 56,
  .cells #[.int .i64 0, .int .i64 4, .int .i64 0, .int .i64 0] 56,
  .cells #[.int .i64 1, .slice (some ⟨n + 5, 0, none⟩) 2 2, .int .i64 0, .slice (some ⟨n + 6, 0, none⟩) 1 1] 53,
  .cells #[.int .i64 0, .int .i64 0, .int .i64 0, .int .i64 2, .int .i64 0, .int .i64 0, .int .i64 1, .int .i64 3, .int .i64 0, .int .i64 1, .int .i64 2, .int .i64 6] 63,
  .cells #[.int .i64 0, .int .i64 0, .int .i64 1, .int .i64 5] 40,
  .cells #[.int .i64 13, .int .i64 6] 3, .cells #[.int .i64 1, .int .i64 0] 3, .cells #[.int .i64 0, .int .i64 0] 3]
def lay (w : World) (os : List Obj) : World := { w with heap := w.heap ++ os.toArray }
theorem lay_alloc (w : World) (os : List Obj) (o : Obj) : (lay w os).alloc o = lay w (os ++ [o]) := by
  unfold lay World.alloc
  simp
theorem lay_nil (w : World) : lay w [] = w := by unfold lay; simp
theorem lay_foldl (w : World) (os : List Obj) : lay w os = os.foldl World.alloc w := by
  suffices h : ∀ (os ps : List Obj), lay w (ps ++ os) = os.foldl World.alloc (lay w ps) by
    have := h os []
    rwa [lay_nil] at this
  intro os
  induction os with
  | nil => intro ps; simp
  | cons o os ih =>
    intro ps
    have := ih (ps ++ [o])
    rw [List.foldl_cons, lay_alloc, ← this]
    simp
theorem lay_below (w : World) (os : List Obj) : Below w.heap.size w (lay w os) := below_wld w w.drawn os.toArray
theorem lay_at (w : World) (os : List Obj) (i : Nat) : (lay w os).heap[w.heap.size + i]? = os[i]? := by
  unfold lay
  rw [Array.getElem?_append_right (by omega)]
  simp
theorem busyOwn (w : World) : OwnSt (lay w (busyO w.heap.size)) w.heap.size (busyV w.heap.size) busyS := by
  have H := lay_at w (busyO w.heap.size)
  refine ⟨Own.at_block (by omega) (H 4) rfl (fun _ => rfl) (by simp [busyV]), rfl, fun b hb => ?_, Own.at_block (by omega) (H 7) rfl (fun _ => rfl) (by simp [ords, busyS, busyV]), rfl, fun o ho => ?_, Own.at_block (by omega) (H 8) rfl (fun _ => rfl) (by decide), Own.at_block (by omega) (H 9) rfl (fun _ => rfl) (by decide),
    Own.at_block (by omega) (H 10) rfl (fun _ => rfl) (by decide), Own.at_block (by omega) (H 11) rfl (fun _ => rfl) (by decide), Own.at_block (by omega) (H 12) rfl (fun _ => rfl) (by decide), ?_, ?_⟩
  · match b, hb with
    | 0, _ => exact Own.at_block (l := ([9, 0] : List Int)) (by omega) (H 1) rfl (fun _ => rfl) (by decide)
    | 1, _ => exact Own.at_block (l := ([3, 0] : List Int)) (by omega) (H 2) rfl (fun _ => rfl) (by decide)
    | 2, _ => exact Own.at_block (l := ([0, 6] : List Int)) (by omega) (H 3) rfl (fun _ => rfl) (by decide)
    | b + 3, hb => simp [busyS] at hb; omega
  · match o, ho with
    | 0, _ => exact Own.at_block (l := ([⟨0, 6, 1, 0⟩, ⟨1, 9, 0, 3⟩] : List Line)) (by omega) (H 5) rfl (fun _ => rfl) (by decide)
    | 1, _ => exact Own.at_block (l := ([⟨0, 4, 0, 0⟩] : List Line)) (by omega) (H 6) rfl (fun _ => rfl) (by decide)
    | o + 2, ho => simp [busyS] at ho; omega
  · unfold apartL busyV
    simp [Value.ownBlock]
  · unfold apartL busyV
    simp [Value.ownBlock]

set_option maxHeartbeats 4000000 in
theorem lBusy (w : World) : Calls Try.prog 48 #[] w fun e w' => ∃ V, e = .returned V.val ∧ OwnSt w' w.heap.size V busyS ∧ Below w.heap.size w w' := by
  go_enter Try.func48, Try.ntmps48
  go_wp2_with fail
  have h1 := busyOwn w
  have h2 := lay_below w (busyO w.heap.size)
  rw [lay_foldl] at h1 h2
  refine bodyPost_ret (v := (busyV w.heap.size).val) ?_ rfl ⟨busyV w.heap.size, rfl, h1, h2⟩
  simp [results, Try.results48, go_sem, SV.val, busyV]

def small (s : State) : Bool := decide (s.on.length ≤ 1000) && s.on.all (fun r => decide (r.length ≤ 1000)) && decide (s.orders.length ≤ 1000) && s.orders.all (fun o => decide (o.lines.length ≤ 1000)) && decide (s.holds.length ≤ 1000) && decide (s.moves.length ≤ 1000) && decide (s.inn.length ≤ 1000) && decide (s.out.length ≤ 1000) && decide (s.fixed.length ≤ 1000)
/-- It reads as the state, however that is. -/
theorem OwnSt.view0 {w : World} {base : Nat} {V : SV} {s : State} (h : OwnSt w base V s) (hs : small s = true) : StateV w w.heap.size V.val s := by
  unfold small at hs
  simp only [Bool.and_eq_true, decide_eq_true_eq, List.all_eq_true] at hs
  obtain ⟨⟨⟨⟨⟨⟨⟨⟨s1, s2⟩, s3⟩, s4⟩, s5⟩, s6⟩, s7⟩, s8⟩, s9⟩ := hs
  obtain ⟨A, c, hv, _, hA⟩ := h.on.sl (by rw [h.rlen]; omega)
  obtain ⟨A1, c1, hv1, _, hA1⟩ := h.orders.sl (by rw [ords_length h.llen]; omega)
  refine ⟨_, _, _, _, _, _, _, rfl, ⟨A, c, V.rows, by rw [hv, h.rlen], by omega, h.rlen, ?_, fun i x hi => ?_⟩, ⟨A1, c1, V.lines, by rw [hv1, ords_length h.llen], by omega, h.llen, ?_, fun i x hi => ?_⟩, h.holds.sl (by omega), h.moves.sl (by omega), h.inn.sl (by omega), h.out.sl (by omega), h.fixed.sl (by omega)⟩
  · have : V.rows.flatMap (fun u => [u]) = V.rows := by simp
    rw [this] at hA
    exact hA
  · have hil : i < s.on.length := (List.getElem?_eq_some_iff.1 hi).1
    have hx : rowAt s.on i = x := by rw [rowAt_eq hil]; exact (List.getElem?_eq_some_iff.1 hi).2
    have := s2 x (List.mem_of_getElem? hi)
    exact ⟨_, h.rowGet hil, by rw [← hx]; exact (h.row i hil).sl (by rw [hx]; omega)⟩
  · have e : (s.orders.zip V.lines).flatMap (fun x => [Value.int .i64 x.1.kind, x.2]) = (ords s.orders V.lines).flatMap cOrd := by
      unfold ords cOrd
      rw [List.zip_eq_zipWith, List.flatMap_def, List.flatMap_def, List.map_zipWith, List.map_zipWith]
    rw [e]
    exact hA1
  · have hil : i < s.orders.length := (List.getElem?_eq_some_iff.1 hi).1
    have hx : s.order i = x := by unfold State.order; rw [orderAt_eq hil]; exact (List.getElem?_eq_some_iff.1 hi).2
    have := s4 x (List.mem_of_getElem? hi)
    exact ⟨_, h.lineGet hil, by rw [← hx]; exact (h.line i hil).sl (by rw [hx]; omega)⟩
end Wh
namespace Wh
open Go Go.RowKit Go.Shelf Go.Proofs
attribute [local go_sem] run_indexAt_letter evL_tmp evL_const evL_func

section
variable {p : Plan} {s : State} {b g n e : Int} (w : World) (v vs : Value) (hp : PlanV w w.heap.size v p) (hv : StateV w w.heap.size vs s)
include hp hv
theorem sAvailAt (h : availE p s b g = (n, e)) : Calls Try.prog 32 #[v, vs, .int .i64 b, .int .i64 g] w fun x w' => x = .returned (.tuple #[.int .i64 n, .int .i64 e]) ∧ Below w.heap.size w w' := by
  have := sAvail w v vs p s b g hp hv
  rwa [h] at this
theorem sCheckAt (h : checkState p s = e) : Calls Try.prog 21 #[v, vs] w fun x w' => x = .returned (.int .i64 e) ∧ Below w.heap.size w w' := by
  have := sCheck w v vs p s hp hv
  rwa [h] at this
end
section
variable {p : Plan} {on : List (List Int)} {b g e : Int} (w : World) (v vo : Value) (hp : PlanV w w.heap.size v p) (ho : SlSl cInt w w.heap.size vo on)
include hp ho
end
end Wh
namespace Wh
open Go Go.RowKit Go.Shelf Go.Proofs
attribute [local go_sem] run_indexAt_letter evL_tmp evL_const evL_func

theorem sane_small {p : Plan} {s : State} (h : Sane p s) : small s = true := by
  have hc := h.counts
  have h4 := h.orders4
  have h8 := h.moves8
  have h72 := ok_len72 h.holds
  unfold small
  simp only [Bool.and_eq_true, decide_eq_true_eq, List.all_eq_true]
  refine ⟨⟨⟨⟨⟨⟨⟨⟨?_, fun r hr => ?_⟩, ?_⟩, fun o ho => ?_⟩, ?_⟩, ?_⟩, ?_⟩, ?_⟩, ?_⟩
  · rw [h.onLen]; omega
  · obtain ⟨i, hi, rfl⟩ := List.getElem_of_mem hr
    have h1 := h.rowLen (b := i) (by rw [← h.onLen]; exact hi)
    rw [rowAt_eq hi] at h1
    omega
  · omega
  · obtain ⟨i, hi, rfl⟩ := List.getElem_of_mem ho
    have h1 := h.lines3 hi
    unfold State.order at h1
    rw [orderAt_eq hi] at h1
    omega
  · omega
  · omega
  · rw [h.inn.1]; omega
  · rw [h.out.1]; omega
  · rw [h.fixed.1]; omega
theorem check_small {p : Plan} {s : State} (h : checkState p s = 0) : small s = true := sane_small (checkState_zero.1 h).1
theorem ActPost.at {r : State × Int} {c : Int} (hc : r.2 = c) {w : World} {e : Ending} {w' : World} (h : ActPost r w e w') : ∃ V, e = .returned (.tuple #[V.val, .int .i64 c]) ∧ OwnSt w' w.heap.size V r.1 ∧ Below w.heap.size w w' := by rw [← hc]; exact h
end Wh
namespace Wh
open Go Go.RowKit Go.Shelf Go.Proofs
attribute [local go_sem] run_indexAt_letter evL_tmp evL_const evL_func

theorem At.tail {w : World} {B g o : Nat} {xs ys : List Value} (h : At w B (some ⟨g, o, none⟩) (xs ++ ys)) : At w B (some ⟨g, o + xs.length, none⟩) ys := by
  intro hn
  obtain ⟨h1, h2, h3⟩ := h (by simp [hn])
  refine ⟨⟨g, _, rfl⟩, h2, fun j v hj => ?_⟩
  have := h3 (xs.length + j) v (by rw [List.getElem?_append_right (by omega), Nat.add_sub_cancel_left]; exact hj)
  rw [← Nat.add_assoc] at this
  exact this
end Wh
