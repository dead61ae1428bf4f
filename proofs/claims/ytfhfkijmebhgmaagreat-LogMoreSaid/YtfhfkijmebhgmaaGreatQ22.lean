/- Texts of the claim, joined: WaveC, PlainL, PickA. -/
import Derived.StillTailTactics
import Derived.Test.YtfhfkijmebhgmaaGreatQ20
import Derived.Test.YtfhfkijmebhgmaaGreatQ21
import Derived.Test.YtfhfkijmebhgmaaGreatQ15
import Derived.Test.YtfhfkijmebhgmaaGreatQ10
import Derived.Test.YtfhfkijmebhgmaaGreatQ18
import Derived.Test.YtfhfkijmebhgmaaGreatQ17
import Derived.Test.YtfhfkijmebhgmaaGreatQ03
import Derived.Test.YtfhfkijmebhgmaaGreatQ06
import Derived.Test.YtfhfkijmebhgmaaGreatQ07
import Derived.Test.YtfhfkijmebhgmaaGreatQ08
import Derived.Test.YtfhfkijmebhgmaaGreatQ09
namespace Wh
open Go Go.RowKit Go.Shelf Go.Proofs
attribute [local go_sem] run_indexAt_letter evL_tmp evL_const evL_func

/-- The boxes of a plan, a state, a number, and of the state that comes. -/
theorem boxesCan (w : World) (o : Int) (p : Plan) (s : State) (Ab : Option Addr) (cb : Nat) (As : Option Addr) (cs : Nat) (A0 : Option Addr) (c0 : Nat) (A1 : Option Addr) (c1 : Nat) (A2 : Option Addr) (c2 : Nat) (A3 : Option Addr) (c3 : Nat) (A4 : Option Addr) (c4 : Nat) (A5 : Option Addr) (c5 : Nat) (A6 : Option Addr) (c6 : Nat) :
    ∃ W0 : World, (((w.alloc (.cells #[.slice Ab p.bins.length cb, .slice As p.sizes.length cs] 25)).alloc (.cells #[.slice A0 s.on.length c0, .slice A1 s.orders.length c1, .slice A2 s.holds.length c2, .slice A3 s.moves.length c3, .slice A4 s.inn.length c4, .slice A5 s.out.length c5, .slice A6 s.fixed.length c6] 31)).alloc (.cells #[.int .i64 o] 3)).alloc (.cells #[.slice none 0 0, .slice none 0 0, .slice none 0 0, .slice none 0 0, .slice none 0 0, .slice none 0 0, .slice none 0 0] 31) = W0 ∧ Below w.heap.size w W0 ∧ w.heap.size + 1 < W0.heap.size ∧ w.heap.size < W0.heap.size ∧ Hid (W0.heap.size = w.heap.size + 1 + 1 + 1 + 1) ∧
      Hid (∀ W, Below W0.heap.size W0 W → (W.cell? ⟨w.heap.size, 0, none⟩ = some (.slice Ab p.bins.length cb) ∧ W.cell? ⟨w.heap.size, 1, none⟩ = some (.slice As p.sizes.length cs)) ∧ W.cell? ⟨w.heap.size + 1, 0, none⟩ = some (.slice A0 s.on.length c0) ∧ W.cell? ⟨w.heap.size + 1, 1, none⟩ = some (.slice A1 s.orders.length c1) ∧ W.cell? ⟨w.heap.size + 1, 2, none⟩ = some (.slice A2 s.holds.length c2) ∧ W.cell? ⟨w.heap.size + 1, 3, none⟩ = some (.slice A3 s.moves.length c3) ∧ W.cell? ⟨w.heap.size + 1, 4, none⟩ = some (.slice A4 s.inn.length c4) ∧ W.cell? ⟨w.heap.size + 1, 5, none⟩ = some (.slice A5 s.out.length c5) ∧ W.cell? ⟨w.heap.size + 1, 6, none⟩ = some (.slice A6 s.fixed.length c6) ∧ w.heap.size + 1 < W.heap.size ∧ w.heap.size < W.heap.size) ∧
      Hid (∀ W, Below W0.heap.size W0 W → W.cell? ⟨w.heap.size + 1 + 1, 0, none⟩ = some (.int .i64 o) ∧ w.heap.size + 1 + 1 < W.heap.size) ∧
      Hid (∀ W, Below W0.heap.size W0 W → Blk W (w.heap.size + 1 + 1 + 1) 31 [.slice none 0 0, .slice none 0 0, .slice none 0 0, .slice none 0 0, .slice none 0 0, .slice none 0 0, .slice none 0 0]) := by
  obtain ⟨W1, e1, b1, s1, s2, s3, hK⟩ := boxesTwo w p s Ab cb As cs A0 c0 A1 c1 A2 c2 A3 c3 A4 c4 A5 c5 A6 c6
  rw [e1]
  have e3 : W1.heap.size = w.heap.size + 1 + 1 := s3
  have ha0 : Below W1.heap.size W1 (W1.alloc (.cells #[.int .i64 o] 3)) := (Below.refl _ _).alloc (Nat.le_refl _) _
  have h0 : Blk (W1.alloc (.cells #[.int .i64 o] 3)) W1.heap.size 3 [.int .i64 o] := Blk.new _ _ _
  generalize hW2 : W1.alloc (.cells #[.int .i64 o] 3) = W2 at ha0 h0 ⊢
  have e4 : W2.heap.size = w.heap.size + 1 + 1 + 1 := by rw [← hW2, World.size_alloc, e3]
  have ha : Below W2.heap.size W2 (W2.alloc (.cells #[.slice none 0 0, .slice none 0 0, .slice none 0 0, .slice none 0 0, .slice none 0 0, .slice none 0 0, .slice none 0 0] 31)) := (Below.refl _ _).alloc (Nat.le_refl _) _
  have h1 : Blk (W2.alloc (.cells #[.slice none 0 0, .slice none 0 0, .slice none 0 0, .slice none 0 0, .slice none 0 0, .slice none 0 0, .slice none 0 0] 31)) W2.heap.size 31 [.slice none 0 0, .slice none 0 0, .slice none 0 0, .slice none 0 0, .slice none 0 0, .slice none 0 0, .slice none 0 0] := Blk.new _ _ _
  have h2 : Blk (W2.alloc (.cells #[.slice none 0 0, .slice none 0 0, .slice none 0 0, .slice none 0 0, .slice none 0 0, .slice none 0 0, .slice none 0 0] 31)) W1.heap.size 3 [.int .i64 o] := h0.below ha h0.lt
  have h12 := ha0.trans (ha.mono ha0.size)
  rw [e3] at h2
  rw [e4] at h1
  refine ⟨_, rfl, b1.trans (h12.mono b1.size), by simp [e4] <;> omega, by simp [e4] <;> omega, Lib.hid (by simp [e4]), Lib.hid fun W hW => ?_, Lib.hid fun W hW => ?_, Lib.hid fun W hW => h1.below hW (by simp [e4])⟩
  · exact RowKit.Hid.out hK W (h12.trans (hW.mono h12.size))
  · have h3 := h2.below hW (by simp [e4] <;> omega)
    exact ⟨h3.cell rfl, h3.lt⟩

theorem off_apart {a b : Option Nat} (h : a = none ∨ a ≠ b) : ∀ k, a = some k → ¬ b = some k := by
  rintro k rfl h2
  rcases h with h | h
  · cases h
  · exact h h2.symm
/-- Another slice of holds, when the old one's block may have been written. -/
theorem OwnSt.stepHolds {w w' : World} {base : Nat} {V : SV} {s : State} (h : OwnSt w base V s) (hs : Step (fun q => V.holds.ownBlock = some q) w w') {v : Value} {l : List Hold} (hv : Own cHold 4 46 w' base v l) : OwnSt w' base { V with holds := v } { s with holds := l } :=
  ⟨h.on.step hs (off_apart (h.on.apart h.holds (by decide))), h.rlen, fun b hb => (h.row b hb).step hs (off_apart ((h.row b hb).apart h.holds (by decide))), h.orders.step hs (off_apart (h.orders.apart h.holds (by decide))), h.llen, fun o ho => (h.line o ho).step hs (off_apart ((h.line o ho).apart h.holds (by decide))),
    hv, h.moves.step hs (off_apart (h.moves.apart h.holds (by decide))), h.inn.step hs (off_apart (h.inn.apart h.holds (by decide))), h.out.step hs (off_apart (h.out.apart h.holds (by decide))), h.fixed.step hs (off_apart (h.fixed.apart h.holds (by decide))), h.apart, h.apartl⟩

set_option maxHeartbeats 2000000 in
theorem canHold (x : Hold) (o : Int) (W : World) (B : Nat) (h0 : W.cell? ⟨B, 0, none⟩ = some (.int .i64 o)) (hB : B < W.heap.size) :
    Calls Tryz.prog 100 (#[vHold x] ++ #[.pointer (some ⟨B, 0, none⟩)]) W fun e W' => e = .returned (.bool (x.order == o)) ∧ Below W.heap.size W W' := by
  have hb0 : Below W.heap.size W (W.alloc (.cells #[.int .i64 (x).order, .int .i64 (x).line, .int .i64 (x).bin, .int .i64 (x).n] 46)) := (Below.refl _ _).alloc (Nat.le_refl _) _
  change Calls Tryz.prog 100 #[vHold x, .pointer (some ⟨B, 0, none⟩)] W _
  unfold vHold
  go_enter Tryz.func100, Tryz.ntmps100
  go_wp2_with fail
  go_ret
  exact ⟨rfl, hb0⟩
theorem entersCan : Enters Tryz.prog 100 := enters_of Tryz.func100 (by kernel_rfl) rfl


set_option maxHeartbeats 8000000 in
set_option maxRecDepth 100000 in
theorem wvCancel (w : World) (v vs : Value) (p : Plan) (s : State) (o : Int) (hp : PlanV w w.heap.size v p) (hv : StateV w w.heap.size vs s) :
    Calls Tryz.prog 47 #[v, vs, .int .i64 o] w (ActPost (cancel p s o) w) := by
  obtain ⟨Ab, cb, As, cs, rfl, hP', hBn, hSz, hlb, hls⟩ := openPl hp
  obtain ⟨A0, c0, A1, c1, A2, c2, A3, c3, A4, c4, A5, c5, A6, c6, rfl, hV, hN, hO, hH, hM, hI, hU, hX, hl0, hl1, hl2, hl3, hl4, hl5, hl6⟩ := openOne hv
  go_enter Tryz.func47, Tryz.ntmps47
  go_wp2_with fail
  obtain ⟨W0, hW0, hb0, hsz0, hsz1, hsE, hK, hJ, hR⟩ := boxesCan w o p s Ab cb As cs A0 c0 A1 c1 A2 c2 A3 c3 A4 c4 A5 c5 A6 c6
  rw [hW0]
  clear hW0
  obtain ⟨⟨y0, y1⟩, x0, x1, x2, x3, x4, x5, x6, hbz0, hbz1⟩ := hK.out W0 (Below.refl W0.heap.size W0)
  go_wp2_with fail
  clear y0 y1 x0 x1 x2 x3 x4 x5 x6 hbz0 hbz1
  refine (sCheck _ _ _ p s (hP'.out _ hb0) (hV.out _ hb0)).mono ?_
  rintro e W1 ⟨rfl, h1⟩
  have hB1 := hb0.trans (h1.mono hb0.size)
  obtain ⟨⟨y0, y1⟩, x0, x1, x2, x3, x4, x5, x6, hbz0, hbz1⟩ := hK.out W1 (h1)
  obtain ⟨i0, i1⟩ := hJ.out W1 h1
  by_cases hc : checkState p s = 0
  · have hc' := Lib.hid hc
    have hsn := Lib.hid (checkState_zero.1 hc).1
    have h4 := hsn.out.orders4
    rw [hc]
    clear hc
    by_cases q0 : o < 0
    · have hfin := Lib.hid (cancel_none hc'.out (.inl q0))
      have hbx9 := hR.out _ h1
      go_wp2_with (refine wpList_store_state rfl (.tmp 6) (.tmp 29) rfl rfl (w.heap.size + 1 + 1 + 1) nilSV nilSV hbx9 rfl rfl rfl (fun w9 hbox9 hg9 => ?_))
      obtain ⟨p0, p1, p2, p3, p4, p5, p6⟩ := BoxAt.cells hbox9
      have hfin9 : Below w.heap.size w w9 := Below.grown hB1 hg9 (Below.size hB1) (fun k hk => by injection hk with hk; omega)
      go_wp2_with fail
      exact bodyPost_ret (v := .tuple #[nilSV.val, .int .i64 4]) (by simp [results, Tryz.results47, go_sem, SV.val, p0, p1, p2, p3, p4, p5, p6]) rfl (actErr hfin.out hfin9)
    by_cases q1 : (s.orders.length : Int) ≤ o
    · have hfin := Lib.hid (cancel_none hc'.out (.inr q1))
      have q0' : decide (o < 0) = false := by simp; omega
      have hbx9 := hR.out _ h1
      go_wp2_with (refine wpList_store_state rfl (.tmp 6) (.tmp 29) rfl rfl (w.heap.size + 1 + 1 + 1) nilSV nilSV hbx9 rfl rfl rfl (fun w9 hbox9 hg9 => ?_))
      obtain ⟨p0, p1, p2, p3, p4, p5, p6⟩ := BoxAt.cells hbox9
      have hfin9 : Below w.heap.size w w9 := Below.grown hB1 hg9 (Below.size hB1) (fun k hk => by injection hk with hk; omega)
      go_wp2_with fail
      exact bodyPost_ret (v := .tuple #[nilSV.val, .int .i64 4]) (by simp [results, Tryz.results47, go_sem, SV.val, p0, p1, p2, p3, p4, p5, p6]) rfl (actErr hfin.out hfin9)
    obtain ⟨i, rfl⟩ : ∃ i : Nat, o = i := ⟨o.toNat, by omega⟩
    have hi : i < s.orders.length := by omega
    have hi' : (i : Int) < s.orders.length := by omega
    have q0' : decide ((i : Int) < 0) = false := by simp
    have q1' : decide ((s.orders.length : Int) ≤ i) = false := by simp; omega
    clear q0 q1
    obtain ⟨Al, cl, ol, ll, d0, d1, hsl⟩ := (hO.out W1 hB1).order hi
    change W1.cell? _ = some (Value.int IntKind.i64 (s.order i).kind) at d0
    by_cases hk : (s.order i).kind = 2
    · have hfin := Lib.hid (cancel_done hc'.out hi hk)
      rw [hk] at d0
      clear hk
      have hbx9 := hR.out _ h1
      go_wp2_with (refine wpList_store_state rfl (.tmp 6) (.tmp 37) rfl rfl (w.heap.size + 1 + 1 + 1) nilSV nilSV hbx9 rfl rfl rfl (fun w9 hbox9 hg9 => ?_))
      obtain ⟨p0, p1, p2, p3, p4, p5, p6⟩ := BoxAt.cells hbox9
      have hfin9 : Below w.heap.size w w9 := Below.grown hB1 hg9 (Below.size hB1) (fun k hk => by injection hk with hk; omega)
      go_wp2_with fail
      exact bodyPost_ret (v := .tuple #[nilSV.val, .int .i64 6]) (by simp [results, Tryz.results47, go_sem, SV.val, p0, p1, p2, p3, p4, p5, p6]) rfl (actErr hfin.out hfin9)
    · have hfin := Lib.hid (cancel_ok hc'.out hi hk)
      have hq : ((s.order i).kind == 2) = false := by simpa using hk
      clear hk
      go_wp2_with fail
      clear y0 y1 x0 x1 x2 x3 x4 x5 x6 hbz0 hbz1
      clear d0 d1 i0 i1 hsl hq
      refine (sOwn _ _ p s (hV.out _ hB1) hsn.out).mono ?_
      rintro e W5 ⟨_, rfl, ⟨V5, rfl, ho5⟩, h5⟩
      have hone6 := (ho5).one
      have hnb6 := newBox (W5)
      go_wp2_with (refine wpList_store_state rfl (.tmp 9) (.tmp 39) rfl rfl (World.heap (W5)).size nilSV V5 hnb6 rfl rfl hone6 (fun w6 hbox6 hg6 => ?_); refine Hid.out ?_)
      unfold Hid
      have hbb6 := newBelow hg6
      have hbl6 := hbox6.lt
      clear hone6 hnb6 hg6
      have hx6 := Lib.hid (Bx.of hbox6 (ho5.below hbb6))
      have h06 := h1.trans ((h5.trans (hbb6.mono h5.size)).mono h1.size)
      have hle : w.heap.size ≤ W1.heap.size := hB1.size
      have hle0 : W0.heap.size ≤ W1.heap.size := h1.size
      have hle5 : W1.heap.size ≤ W5.heap.size := h5.size
      clear hbox6 ho5 hbb6 h5 hbl6 h1 hB1
      generalize W1.heap.size = base at hx6 hle hle0 hle5
      generalize W5.heap.size = bx at hx6 hle5 ⊢
      obtain ⟨Ao, co, hvo⟩ := hx6.out.own.ordersSlice
      have hvo' := Lib.hid hvo
      obtain ⟨Ah, ch, hvh⟩ := hx6.out.own.holds.isSlice
      have c2 := hx6.out.cells.2.2.1
      rw [hvh] at c2
      have hoh := hx6.out.own.holds
      rw [hvh] at hoh
      have hvh' := Lib.hid hvh
      have hoh' := Lib.hid hoh
      clear hvo hvh hoh
      go_wp2_with fail
      clear c2
      refine (delFuncHold w6 base _ s.holds 100 #[.pointer (some ⟨w.heap.size + 1 + 1, 0, none⟩)] (fun x => x.order == (i : Int)) entersCan hoh'.out (by have := ok_len72 hsn.out.holds; omega) (fun k hk W hW => by
        have h0W := h06.trans (hW.below (B := W0.heap.size) (fun q hq => by
          have h9 := hoh'.out.size q hq
          omega) h06.size)
        obtain ⟨j0, j1⟩ := hJ.out W h0W
        exact canHold _ _ W _ j0 j1)).mono ?_
      rintro e w7 ⟨v7, rfl, ho7, hst7, hob7⟩
      obtain ⟨A7, c7, rfl⟩ := ho7.isSlice
      have hl7 : ∃ l7, (s.holds.filter fun x => !(x.order == (i : Int))) = l7 := ⟨_, rfl⟩
      obtain ⟨l7, hl7⟩ := hl7
      rw [hl7] at ho7 hob7 ⊢
      have hst7' : Step (fun q => V5.holds.ownBlock = some q) w6 w7 := by rw [hvh'.out]; exact hst7
      have hO7 := hx6.out.own.stepHolds hst7' ho7
      have hb7 : BoxAt w7 bx V5 := hst7'.blk hx6.out.boxAt.blk (off_apart (hx6.out.own.holds.notBox hx6.out.boxAt.blk (by decide)) _ · rfl)
      have hfl := Lib.hid (show l7 = s.holds.filter fun h => decide (h.order ≠ (i : Int)) by
        rw [← hl7]
        congr 1
        funext x
        by_cases hx : x.order = (i : Int) <;> simp [hx])
      have hle7 : l7.length ≤ 1000000 := by
        rw [← hl7]
        have := List.length_filter_le (fun x => !(x.order == (i : Int))) s.holds
        have := ok_len72 hsn.out.holds
        omega
      have h07 := Lib.hid (h06.trans (hst7.below (B := W0.heap.size) (fun q hq => by
          have h9 := hoh'.out.size q hq
          omega) h06.size))
      have hO7' := Lib.hid hO7
      have hb7' := Lib.hid hb7
      clear ho7 hob7 hst7 hst7' hO7 hb7 hx6 hoh' h06 hl7
      go_wp2_with (refine wp_st_holds' rfl (.tmp 44) (.tmp 43) rfl rfl A7 l7.length c7 (V := V5) (cs := []) (b := bx) (by rw [List.append_nil]; exact hb7'.out.blk) hO7'.out boxT rfl rfl rfl (fun w8 hx8 hst8 => ?_); refine Hid.out ?_)
      unfold Hid
      have h08 := h07.out.trans (hst8.below (B := W0.heap.size) (fun q hq => by omega) h07.out.size)
      obtain ⟨i0, i1⟩ := hJ.out w8 h08
      have hx8' := Lib.hid hx8
      obtain ⟨V8, hV8⟩ : ∃ V8 : SV, { V5 with holds := .slice A7 l7.length c7 } = V8 := ⟨_, rfl⟩
      rw [hV8] at hx8'
      have hvo8 : V8.orders = .slice Ao s.orders.length co := by rw [← hV8]; exact hvo'.out
      have hvo8' := Lib.hid hvo8
      clear hx8 hst8 hV8 hO7' hb7' h07 hvo8 hvo' hvh'
      obtain ⟨go, _, _, eo, -⟩ := hx8'.out.own.orderAt (o := i) hi
      rw [hvo8'.out] at eo
      injection eo with eo e2 e3
      subst eo
      clear e2 e3
      obtain ⟨hgo, hgol, z0, z1⟩ := hx8'.out.own.orderCells (o := i) hi hvo8'.out
      have c1 := hx8'.out.cells.2.1
      rw [hvo8'.out] at c1
      go_wp2_with (refine wp_st_kind rfl (.tmp 51) (.const (.int .i64 2)) rfl rfl (i := i) (q := 2) hx8'.out hi hvo8'.out rfl rfl (fun w9 hx9 hst9 => ?_); refine Hid.out ?_)
      unfold Hid
      have hx9 : Bx w9 base bx 31 [] V8 (cancK s l7 i 0) := by rw [← cancK_zero]; exact hx9
      have h09 := h08.trans (hst9.below (B := W0.heap.size) (fun q hq => by omega) h08.size)
      have hx9' := Lib.hid hx9
      clear hst9 hx9 z0 z1 c1 hx8' h08 i0 i1
      have l13 := hsn.out.lines3 hi
      obtain ⟨_, _, z0, z1⟩ := hx9'.out.own.orderCells (o := i) (by rw [cancK_len]; exact hi) hvo8'.out
      obtain ⟨gl, cl, e1, hgl⟩ := hx9'.out.own.lineSlice (o := i) (by rw [cancK_len]; exact hi) (by rw [cancK_lines hi]; omega)
      rw [cancK_lines hi] at e1
      have e1' := Lib.hid e1
      rw [e1] at z1
      clear e1 z0
      go_wp2_with fail
      clear z1
      go_loopw [57, 11, 12] (fun j _ _ wr => ∃ k : Nat, k ≤ (s.order i).lines.length ∧ j = .int .i64 k ∧ Bx wr base bx 31 [] V8 (cancK s l7 i k) ∧ Below W0.heap.size W0 wr) (fun j _ _ _ => (s.order i).lines.length - (intOf j).toNat)
      case atStart => exact ⟨0, Nat.zero_le _, rfl, hx9'.out, h09⟩
      case round =>
        clear hx9' h09
        obtain ⟨k, hkl, rfl, hx, h0⟩ := hrel
        have hx' := Lib.hid hx
        clear hx
        by_cases hkt : k < (s.order i).lines.length
        · have hki : (k : Int) < ((s.order i).lines.length : Int) := by omega
          have hon : i < (cancK s l7 i k).orders.length := by rw [cancK_len]; exact hi
          have hkn : k < ((cancK s l7 i k).order i).lines.length := by rw [cancK_lines hi]; exact hkt
          obtain ⟨_, _, _, z1⟩ := hx'.out.own.orderCells hon hvo8'.out
          rw [e1'.out] at z1
          obtain ⟨hgll, f0, f1, f2, f3⟩ := hx'.out.own.lineCells hon hkn e1'.out
          rw [cancK_line hi hkt] at f1 f2
          have hlr := hsn.out.line hi hkt
          have hwr : IntKind.i64.wrap ((s.line i k).want - (s.line i k).got) = (s.line i k).want - (s.line i k).got := by rw [IntKind.wrap_i64]; omega
          have hx'd := Lib.hid hx'.out.drew
          clear f0 f3 hlr
          go_wp2_with fail
          go_still_tail 12, (by kernel_rfl)
          change wpList _ _ _ _ _ wr.drew
          refine wp_st_line rfl (.tmp 77) (.tmp 75) rfl rfl (j := 3) (y := { s.line i k with back := (s.line i k).want - (s.line i k).got }) hx'd.out hon hkn e1'.out (by decide) (by rw [cancK_line hi hkt]; rfl) rfl rfl (fun w9 hx9 hst9 => ?_)
          refine wpList_nil ?_
          rw [cancK_succ hi hkt] at hx9
          have h09 := h0.drew.trans (hst9.below (B := W0.heap.size) (fun q hq => by omega) h0.drew.size)
          have hx9' := Lib.hid hx9
          clear hst9 hx9 z1 f1 f2 hx' hx'd hon hkn hwr
          go_wp2_with fail
          go_roundw
          case rel => exact ⟨k + 1, by omega, by go_num, hx9'.out, h09⟩
          case measure => simp [intOf]; omega
        · obtain rfl : k = (s.order i).lines.length := by omega
          have hB0 := hb0.trans (h0.mono hb0.size)
          have hx2 := Lib.hid (show Bx wr base bx 31 [] V8 (cancelS s i) by rw [← cancK_all, ← hfl.out]; exact hx'.out)
          clear hx'
          have hbx9 := hR.out _ h0
          obtain ⟨b0, b1, b2, b3, b4, b5, b6⟩ := BoxAt.cells hx2.out.boxAt
          have hone9 := OwnSt.one hx2.out.own
          go_wp2_with (refine wpList_store_state rfl (.tmp 6) (.tmp 79) rfl rfl (w.heap.size + 1 + 1 + 1) nilSV V8 hbx9 rfl rfl hone9 (fun w9 hbox9 hg9 => ?_))
          have hO9 := OwnSt.keptBy hx2.out.own hg9 hbx9 (by decide) (by decide) (by decide) (by decide) (by decide) (by decide)
          obtain ⟨p0, p1, p2, p3, p4, p5, p6⟩ := BoxAt.cells hbox9
          have hfin9 : Below w.heap.size w w9 := Below.grown hB0 hg9 (Below.size hB0) (fun k hk => by injection hk with hk; omega)
          clear b0 b1 b2 b3 b4 b5 b6
          go_wp2_with fail
          exact bodyPost_ret (v := .tuple #[SV.val V8, .int .i64 0]) (by simp [results, Tryz.results47, go_sem, SV.val, p0, p1, p2, p3, p4, p5, p6]) rfl (actOk hfin.out (hO9.from_ hle) hfin9)
  · have hne : (checkState p s != 0) = true := by simpa using hc
    have hfin := Lib.hid (cancel_bad (o := o) hc)
    clear hc
    have hbx9 := hR.out _ h1
    go_wp2_with (refine wpList_store_state rfl (.tmp 6) (.tmp 18) rfl rfl (w.heap.size + 1 + 1 + 1) nilSV nilSV hbx9 rfl rfl rfl (fun w9 hbox9 hg9 => ?_))
    obtain ⟨p0, p1, p2, p3, p4, p5, p6⟩ := BoxAt.cells hbox9
    have hfin9 : Below w.heap.size w w9 := Below.grown hB1 hg9 (Below.size hB1) (fun k hk => by injection hk with hk; omega)
    go_wp2_with fail
    exact bodyPost_ret (v := .tuple #[nilSV.val, .int .i64 (checkState p s)]) (by simp [results, Tryz.results47, go_sem, SV.val, p0, p1, p2, p3, p4, p5, p6]) rfl (actErr hfin.out hfin9)
end Wh
namespace Wh

/-- What is picked, ahead of the line. -/
def preS (s : State) (o k b : Nat) (n : Int) : State :=
  { s with on := setCell s.on b (s.line o k).good.toNat (cell s.on b (s.line o k).good.toNat - n), out := s.out.set (s.line o k).good.toNat (intAt s.out (s.line o k).good.toNat + n), holds := withHold s.holds ⟨o, k, b, 0⟩ }
theorem picked_eq (s : State) (o k b : Nat) (held n : Int) : picked s o k b held n = (preS s o k b n).setLine o k { s.line o k with got := (s.line o k).got + n, back := (s.line o k).back + held - n } := rfl

/-- What may be picked. -/
structure Picks (p : Plan) (s : State) (o k b : Nat) (n : Int) : Prop where
  ho : o < s.orders.length
  hk : k < (s.order o).lines.length
  hb : b < p.bins.length
  held : 1 ≤ keptAt s.holds o k b
  n0 : 0 ≤ n
  n1 : n ≤ keptAt s.holds o k b
  out : intAt s.out (s.line o k).good.toNat + n ≤ 1048576

section
variable {p : Plan} {s : State} {o k b : Nat} {n : Int}
theorem keptAt_kept {l : List Hold} (hl : holdsOk l = true) (o ln : Int) (b : Nat) : keptAt l o ln b ≤ kept l o ln := by
  by_cases hb : b < 6
  · rw [kept_bins hl]
    have h0 : ∀ i, i < 6 → 0 ≤ keptAt l o ln i := fun i _ => kept_pos hl _ _ _
    have : ∀ m, b < m → m ≤ 6 → keptAt l o ln b ≤ sumTo (fun i => keptAt l o ln i) m := by
      intro m
      induction m with
      | zero => intro h; omega
      | succ m ih =>
        intro h h6
        have hs : ∀ q, q ≤ 6 → 0 ≤ sumTo (fun i => keptAt l o ln i) q := by
          intro q
          induction q with
          | zero => intro _; exact Int.le_refl _
          | succ q ih => intro hq; have := ih (by omega); have := h0 q (by omega); show 0 ≤ sumTo (fun i => keptAt l o ln i) q + keptAt l o ln q; omega
        show _ ≤ sumTo _ m + keptAt l o ln m
        by_cases e : b = m
        · subst e
          have := hs b (by omega)
          omega
        · have := ih (by omega) (by omega)
          have := h0 m (by omega)
          omega
    exact this 6 hb (by omega)
  · have h1 := kept_range hl o ln
    by_cases h0 : keptAt l o ln b = 0
    · rw [h0]; exact h1.1
    · have := (keptAt_key (holdsOk_iff.1 hl).1 (holdsOk_iff.1 hl).2 h0).1
      unfold keyOk at this
      omega
theorem picks_good (h : Right p s) (f : Picks p s o k b n) : ((s.line o k).good.toNat : Int) = (s.line o k).good ∧ (s.line o k).good.toNat < p.sizes.length := by
  have := (h.sane.line f.ho f.hk).1
  omega
theorem picks_kind (h : Right p s) (f : Picks p s o k b n) : (s.order o).kind = 1 := by
  have h1 := h.lineSum f.ho f.hk
  have h2 := h.sane.kind f.ho
  have h3 := keptAt_kept h.sane.holds o k b
  have h4 := f.held
  have h5 := h.sane.line f.ho f.hk
  have h6 : (s.order o).kind ≠ 0 := fun e => by rw [if_pos e] at h1; omega
  have h7 : (s.order o).kind ≠ 2 := fun e => h1.2 ⟨e, by omega⟩
  omega
theorem picks_cell (h : Right p s) (f : Picks p s o k b n) : keptAt s.holds o k b ≤ bound s b (s.line o k).good ∧ bound s b (s.line o k).good ≤ cell s.on b (s.line o k).good.toNat ∧ cell s.on b (s.line o k).good.toNat ≤ 200 := by
  obtain ⟨e, hg⟩ := picks_good h f
  have h1 := keptAt_held h.sane o k b
  have h2 := goingOf_nonneg h.sane b (s.line o k).good
  have h3 := h.bnd f.hb hg
  rw [e] at h3
  have h4 := h.sane.cell f.hb hg
  simp only [Int.toNat_natCast] at h1
  exact ⟨by unfold bound; omega, h3, h4.2⟩
theorem picked_line (f : Picks p s o k b n) (held : Int) (o' k' : Nat) : (picked s o k b held n).line o' k' = if o' = o ∧ k' = k then { s.line o k with got := (s.line o k).got + n, back := (s.line o k).back + held - n } else s.line o' k' :=
  line_setLine (s := preS s o k b n) f.ho f.hk _ o' k'
theorem picked_kind (f : Picks p s o k b n) (held : Int) (o' : Nat) : ((picked s o k b held n).order o').kind = (s.order o').kind := kind_setLine (s := preS s o k b n) f.ho _ _ _
theorem picked_lines (f : Picks p s o k b n) (held : Int) (o' : Nat) : ((picked s o k b held n).order o').lines.length = (s.order o').lines.length := lines_setLine (s := preS s o k b n) f.ho _ _ _
theorem picked_orders (held : Int) : (picked s o k b held n).orders.length = s.orders.length := orders_setLine _ _ _ _
theorem picked_fixed (f : Picks p s o k b n) (held : Int) (o' k' : Nat) : ((picked s o k b held n).line o' k').good = (s.line o' k').good ∧ ((picked s o k b held n).line o' k').want = (s.line o' k').want := by
  rw [picked_line f]
  split
  · rename_i hq
    obtain ⟨rfl, rfl⟩ := hq
    exact ⟨rfl, rfl⟩
  · exact ⟨rfl, rfl⟩
theorem picked_holdsOk (h : Right p s) (f : Picks p s o k b n) (held : Int) : holdsOk (picked s o k b held n).holds = true :=
  with_ok (h := ⟨o, k, b, 0⟩) h.sane.holds (key_of h.sane f.ho f.hk f.hb) ⟨Int.le_refl _, by show (0 : Int) ≤ 200; omega⟩
theorem picked_keptAt (h : Right p s) (f : Picks p s o k b n) (held : Int) (o' k' b' : Int) : keptAt (picked s o k b held n).holds o' k' b' = if (o : Int) = o' ∧ (k : Int) = k' ∧ (b : Int) = b' then 0 else keptAt s.holds o' k' b' := by
  have e := keptAt_with (h := ⟨o, k, b, 0⟩) h.sane.holds (key_of h.sane f.ho f.hk f.hb) ⟨Int.le_refl _, by show (0 : Int) ≤ 200; omega⟩ o' k' b'
  exact e
theorem picked_kept (h : Right p s) (f : Picks p s o k b n) (held : Int) (o' k' : Int) : kept (picked s o k b held n).holds o' k' = kept s.holds o' k' - if (o : Int) = o' ∧ (k : Int) = k' then keptAt s.holds o k b else 0 := by
  have e := kept_with (h := ⟨o, k, b, 0⟩) h.sane.holds (key_of h.sane f.ho f.hk f.hb) ⟨Int.le_refl _, by show (0 : Int) ≤ 200; omega⟩ o' k'
  refine e.trans ?_
  simp only
  split <;> omega
theorem picked_bound (h : Right p s) (f : Picks p s o k b n) (held : Int) (b' g : Int) : bound (picked s o k b held n) b' g = bound s b' g - if (b : Int) = b' ∧ (s.line o k).good = g then keptAt s.holds o k b else 0 := by
  have e1 : heldIn (picked s o k b held n) b' g = heldIn { s with holds := withHold s.holds ⟨o, k, b, 0⟩ } b' g :=
    heldIn_congr (s := { s with holds := withHold s.holds ⟨o, k, b, 0⟩ }) (t := picked s o k b held n) rfl (fun o' k' => (picked_fixed f held o' k').1) b' g
  have e2 := heldIn_with (s := s) (h := ⟨o, k, b, 0⟩) h.sane.holds (key_of h.sane f.ho f.hk f.hb) b' g
  unfold bound
  rw [e1, e2]
  simp only [Int.toNat_natCast]
  have : goingOf (picked s o k b held n).moves b' g = goingOf s.moves b' g := rfl
  rw [this]
  split <;> omega
theorem picked_right (h : Right p s) (f : Picks p s o k b n) : Right p (picked s o k b (keptAt s.holds o k b) n) := by
  obtain ⟨e, hg⟩ := picks_good h f
  obtain ⟨c1, c2, c3⟩ := picks_cell h f
  have hkd := picks_kind h f
  have hn0 := f.n0
  have hn1 := f.n1
  have hout := f.out
  have hs := h.sane
  have hbl : b < s.on.length := by rw [hs.onLen]; exact f.hb
  have hgl : (s.line o k).good.toNat < (rowAt s.on b).length := by rw [hs.rowLen f.hb]; exact hg
  have hol : (s.line o k).good.toNat < s.out.length := by rw [hs.out.1]; exact hg
  have hls := h.lineSum f.ho f.hk
  have hln := hs.line f.ho f.hk
  have hkk := keptAt_kept hs.holds o k b
  rw [if_neg (by omega)] at hls
  refine Right.of (Sane.of ?_ (by rw [picked_orders]; exact hs.orders4) hs.moves8 (fun o' ho' => ?_) (fun o' k' ho' hk' => ?_) (picked_holdsOk h f _) (fun x hx => ?_) (fun x hx => List.all_eq_true.1 (formed_iff.1 hs.form).2.2.2.1 x hx)
    (formed_iff.1 hs.form).2.2.2.2.1 (sumsOk_set (formed_iff.1 hs.form).2.2.2.2.2.1 hol (by have := (hs.out.2 hg).1; omega) hout) (formed_iff.1 hs.form).2.2.2.2.2.2) (fun g hg' => ?_) (fun b' g hb' hg' => ?_) (fun o' k' ho' hk' => ?_)
  · exact checkShelf_zero.2 ⟨hs.plan, setCell_ok (checkShelf_zero.1 hs.shelf).2 (by omega) f.hb hg⟩
  · rw [picked_orders] at ho'
    rw [picked_lines f, picked_kind f]
    exact ⟨hs.lines3 ho', hs.kind ho'⟩
  · rw [picked_orders] at ho'
    rw [picked_lines f] at hk'
    have hl := hs.line ho' hk'
    rw [picked_line f, lineOk_iff]
    split
    · rename_i hq
      obtain ⟨rfl, rfl⟩ := hq
      simp only
      omega
    · exact hl
  · have hin : holdIn p s x = true := by
      rcases with_mem.1 hx with ⟨h1, _⟩ | ⟨_, h1⟩
      · exact List.all_eq_true.1 (formed_iff.1 hs.form).2.2.1 x h1
      · exact absurd rfl h1
    have := holdIn_iff.1 hin
    exact holdIn_iff.2 ⟨by rw [picked_orders]; exact this.1, by rw [picked_lines f]; exact this.2.1, this.2.2⟩
  · have h1 := h.sum hg'
    have e1 : sumOf (picked s o k b (keptAt s.holds o k b) n).on g = _ := sumOf_setCell (n := cell s.on b (s.line o k).good.toNat - n) hbl hgl g
    have e2 : intAt (picked s o k b (keptAt s.holds o k b) n).out g = if g = (s.line o k).good.toNat then intAt s.out (s.line o k).good.toNat + n else intAt s.out g := intAt_set hol
    have e3 : intAt (picked s o k b (keptAt s.holds o k b) n).inn g = intAt s.inn g := rfl
    have e4 : intAt (picked s o k b (keptAt s.holds o k b) n).fixed g = intAt s.fixed g := rfl
    rw [e1, e2, e3, e4]
    split
    · rename_i hq
      subst hq
      omega
    · omega
  · have h1 := h.bnd hb' hg'
    rw [picked_bound h f]
    have e1 : cell (picked s o k b (keptAt s.holds o k b) n).on b' g = if b' = b ∧ g = (s.line o k).good.toNat then cell s.on b (s.line o k).good.toNat - n else cell s.on b' g := cell_setCell hbl hgl
    rw [e1]
    by_cases hq : b' = b ∧ g = (s.line o k).good.toNat
    · rw [if_pos hq, if_pos ⟨by omega, by omega⟩]
      obtain ⟨rfl, rfl⟩ := hq
      rw [e]
      omega
    · rw [if_neg hq, if_neg (by omega)]
      omega
  · rw [picked_orders] at ho'
    rw [picked_lines f] at hk'
    obtain ⟨l1, l2⟩ := h.lineSum ho' hk'
    obtain ⟨g1, g2⟩ := picked_fixed f (keptAt s.holds o k b) o' k'
    refine lineSummed_iff.2 ?_
    rw [g2, picked_kept h f, picked_kind f, picked_line f]
    by_cases hq : o' = o ∧ k' = k
    · obtain ⟨rfl, rfl⟩ := hq
      rw [if_pos ⟨rfl, rfl⟩, if_pos ⟨rfl, rfl⟩, if_neg (by omega)]
      simp only
      exact ⟨by omega, by omega⟩
    · rw [if_neg hq, if_neg (by omega), Int.sub_zero]
      exact ⟨l1, l2⟩
theorem picked_may (h : Right p s) (f : Picks p s o k b n) : May (picked s o k b (keptAt s.holds o k b) n) o k (keptAt s.holds o k b - n) := by
  have hln := (h.sane.line f.ho f.hk).2.2.2.1
  refine ⟨by rw [picked_orders]; exact f.ho, by rw [picked_lines f]; exact f.hk, by rw [picked_kind f]; exact picks_kind h f, by have := f.n1; omega, ?_⟩
  rw [picked_line f, if_pos ⟨rfl, rfl⟩]
  simp only
  omega
/-- The state behind the pick, ahead of its closing. -/
def pickT (p : Plan) (s : State) (o k b : Nat) (n : Int) : State := (takeS p (picked s o k b (keptAt s.holds o k b) n) o k (keptAt s.holds o k b - n) b).1
theorem pickS_eq : pickS p s o k b n = close (pickT p s o k b n) o := rfl
theorem pickT_held (h : Right p s) (f : Picks p s o k b n) :
    Held p (picked s o k b (keptAt s.holds o k b) n) (pickT p s o k b n) o k (keptAt s.holds o k b - n - (takeS p (picked s o k b (keptAt s.holds o k b) n) o k (keptAt s.holds o k b - n) b).2) ∧ 0 ≤ (takeS p (picked s o k b (keptAt s.holds o k b) n) o k (keptAt s.holds o k b - n) b).2 ∧
    (takeS p (picked s o k b (keptAt s.holds o k b) n) o k (keptAt s.holds o k b - n) b).2 ≤ keptAt s.holds o k b - n := takeS_held (picked_right h f) (picked_may h f)
/-- Nothing is held in that bin. -/
theorem takeGo_but {o k b : Nat} : ∀ {bs : List Nat} {s : State} {n : Int}, Right p s → (∀ x ∈ bs, x < p.bins.length) → May s o k n → keptAt (takeGo o k (b : Int) bs s n).1.holds o k b = keptAt s.holds o k b
  | [], _, _, _, _, _ => rfl
  | c :: r, s, n, h, hb, hm => by
    by_cases hq : (c : Int) = b ∨ min n (avail s c (s.line o k).good) < 1
    · rw [takeGo_skip hq]
      exact takeGo_but h (fun x hx => hb x (List.mem_cons_of_mem _ hx)) hm
    · rw [takeGo_one (by omega) (by omega)]
      have f := hm.fits (p := p) (b := c) (m := min n (avail s c (s.line o k).good)) (hb c (List.mem_cons_self ..)) (by omega) (by omega) (by omega)
      have h1 := Held.one h f
      rw [takeGo_but h1.right (fun x hx => hb x (List.mem_cons_of_mem _ hx)) (hm.held h1 (by omega)), hold1_keptAt h f, if_neg (by omega), Int.add_zero]

-- closing
theorem close_order (t : State) (o : Nat) (ho : o < t.orders.length) (o' : Nat) : (close t o).order o' = if o' = o ∧ allGot (t.order o) = true then { t.order o with kind := 2 } else t.order o' := by
  unfold close
  by_cases ha : allGot (t.order o) = true
  · rw [if_pos ha]
    have : State.order { t with orders := t.orders.set o { t.order o with kind := 2 } } o' = if o' = o then { t.order o with kind := 2 } else t.order o' := orderAt_set ho _ _
    rw [this]
    by_cases e : o' = o
    · rw [if_pos e, if_pos ⟨e, ha⟩]
    · rw [if_neg e, if_neg (fun h => e h.1)]
  · rw [if_neg ha, if_neg (fun h => ha h.2)]
theorem close_lines (t : State) (o : Nat) (ho : o < t.orders.length) (o' : Nat) : ((close t o).order o').lines = (t.order o').lines := by
  rw [close_order t o ho]
  split
  · rename_i h; rw [h.1]
  · rfl
theorem close_line (t : State) (o : Nat) (ho : o < t.orders.length) (o' k' : Nat) : (close t o).line o' k' = t.line o' k' := by
  unfold State.line
  rw [close_lines t o ho]
theorem close_len (t : State) (o : Nat) : (close t o).orders.length = t.orders.length := by
  unfold close
  split <;> simp
theorem close_rest (t : State) (o : Nat) : (close t o).on = t.on ∧ (close t o).holds = t.holds ∧ (close t o).moves = t.moves ∧ (close t o).inn = t.inn ∧ (close t o).out = t.out ∧ (close t o).fixed = t.fixed := by
  unfold close
  split <;> exact ⟨rfl, rfl, rfl, rfl, rfl, rfl⟩
theorem close_bound (t : State) (o : Nat) (ho : o < t.orders.length) (b g : Int) : bound (close t o) b g = bound t b g := by
  have e : heldIn (close t o) b g = heldIn t b g := heldIn_congr (close_rest t o).2.1 (fun o' k' => by rw [close_line t o ho]) b g
  unfold bound
  rw [e, (close_rest t o).2.2.1]
theorem close_check {t : State} {o : Nat} (h : Right p t) (ho : o < t.orders.length) (hkd : (t.order o).kind = 1) (hot : ∀ o', o' < t.orders.length → o' ≠ o → ¬ ((t.order o').kind = 1 ∧ allGot (t.order o') = true)) : checkState p (close t o) = 0 := by
  have hs := h.sane
  obtain ⟨r1, r2, r3, r4, r5, r6⟩ := close_rest t o
  have hord := close_order t o ho
  have hkind : ∀ o', ((close t o).order o').kind = if o' = o ∧ allGot (t.order o) = true then 2 else (t.order o').kind := fun o' => by
    rw [hord]
    split <;> rfl
  refine check_iff.2 ⟨Right.of (Sane.of (by rw [r1]; exact hs.shelf) (by rw [close_len]; exact hs.orders4) (by rw [r3]; exact hs.moves8) (fun o' ho' => ?_) (fun o' k' ho' hk' => ?_) (by rw [r2]; exact hs.holds) (fun x hx => ?_) (fun x hx => ?_)
    (by rw [r4]; exact (formed_iff.1 hs.form).2.2.2.2.1) (by rw [r5]; exact (formed_iff.1 hs.form).2.2.2.2.2.1) (by rw [r6]; exact (formed_iff.1 hs.form).2.2.2.2.2.2)) (fun g hg => ?_) (fun b g hb hg => ?_) (fun o' k' ho' hk' => ?_), fun o' ho' => ?_⟩
  · rw [close_len] at ho'
    rw [close_lines t o ho, hkind]
    refine ⟨hs.lines3 ho', ?_⟩
    have := hs.kind ho'
    split <;> omega
  · rw [close_len] at ho'
    rw [close_lines t o ho] at hk'
    rw [close_line t o ho]
    exact lineOk_iff.2 (hs.line ho' hk')
  · rw [r2] at hx
    have := holdIn_iff.1 (List.all_eq_true.1 (formed_iff.1 hs.form).2.2.1 x hx)
    exact holdIn_iff.2 ⟨by rw [close_len]; exact this.1, by rw [close_lines t o ho]; exact this.2.1, this.2.2⟩
  · rw [r3] at hx
    exact List.all_eq_true.1 (formed_iff.1 hs.form).2.2.2.1 x hx
  · rw [r1, r4, r5, r6]
    exact h.sum hg
  · rw [close_bound t o ho, r1]
    exact h.bnd hb hg
  · rw [close_len] at ho'
    rw [close_lines t o ho] at hk'
    have h1 := h.lineSum ho' hk'
    have h2 := hs.line ho' hk'
    have h3 := (kept_range hs.holds o' k').1
    refine lineSummed_iff.2 ?_
    rw [close_line t o ho, r2, hkind]
    by_cases hq : o' = o ∧ allGot (t.order o) = true
    · rw [if_pos hq]
      obtain ⟨rfl, ha⟩ := hq
      have h4 := allGot_iff.1 ha k' hk'
      change (t.line o' k').got = (t.line o' k').want at h4
      rw [if_neg (by omega)] at h1
      rw [if_neg (by omega)]
      omega
    · rw [if_neg hq]
      exact h1
  · rw [close_len] at ho'
    rw [hkind]
    by_cases hq : o' = o ∧ allGot (t.order o) = true
    · rw [if_pos hq]
      omega
    · rw [if_neg hq]
      have e : allGot ((close t o).order o') = allGot (t.order o') := by
        unfold allGot
        rw [close_lines t o ho]
      rw [e]
      by_cases ho2 : o' = o
      · subst ho2
        rintro ⟨_, ha⟩
        exact hq ⟨rfl, ha⟩
      · exact hot o' ho' ho2

/-- What is known of what was picked. -/
theorem pickS_true (hc : checkState p s = 0) (f : Picks p s o k b n) : checkState p (pickS p s o k b n) = 0 ∧ (pickS p s o k b n).orders.length = s.orders.length ∧ (∀ o', ((pickS p s o k b n).order o').lines.length = (s.order o').lines.length) ∧
    (∀ o' k' : Nat, ¬ (o' = o ∧ k' = k) → kept (pickS p s o k b n).holds o' k' = kept s.holds o' k' ∧ (pickS p s o k b n).line o' k' = s.line o' k') ∧ ((pickS p s o k b n).line o k).got = (s.line o k).got + n ∧
    (((pickS p s o k b n).order o).kind = 2 ↔ allGot ((pickS p s o k b n).order o) = true) := by
  obtain ⟨h, hgot⟩ := check_iff.1 hc
  obtain ⟨ht, _, _⟩ := pickT_held h f
  have hot : o < (pickT p s o k b n).orders.length := by rw [ht.orders, picked_orders]; exact f.ho
  have hkd : ((pickT p s o k b n).order o).kind = 1 := by rw [ht.kind, picked_kind f]; exact picks_kind h f
  have hline : ∀ o' k', ¬ (o' = o ∧ k' = k) → (pickT p s o k b n).line o' k' = s.line o' k' := fun o' k' hn => by
    have h1 := ht.line o' k'
    have h2 := ht.back o' k'
    rw [if_neg hn, Int.sub_zero] at h2
    rw [picked_line f, if_neg hn] at h1 h2
    obtain ⟨a1, a2, a3⟩ := h1
    cases hx : (pickT p s o k b n).line o' k'
    cases hy : s.line o' k'
    rw [hx, hy] at a1 a2 a3 h2
    simp only at a1 a2 a3 h2
    rw [a1, a2, a3, h2]
  rw [pickS_eq]
  refine ⟨close_check ht.right hot hkd (fun o' ho' hne => ?_), by rw [close_len, ht.orders, picked_orders], fun o' => by rw [close_lines _ o hot, ht.lines, picked_lines f], fun o' k' hn => ⟨?_, ?_⟩, ?_, ?_⟩
  · rw [ht.orders, picked_orders] at ho'
    rw [ht.kind, picked_kind f, ht.allGot]
    have e : allGot ((picked s o k b (keptAt s.holds o k b) n).order o') = allGot (s.order o') := by
      have : (picked s o k b (keptAt s.holds o k b) n).order o' = s.order o' := by
        have := order_setLine (s := preS s o k b n) f.ho k { s.line o k with got := (s.line o k).got + n, back := (s.line o k).back + keptAt s.holds o k b - n } o'
        rw [if_neg hne] at this
        exact this
      rw [this]
    rw [e]
    exact hgot o' ho'
  · rw [(close_rest _ o).2.1, ht.kept, if_neg (by omega), picked_kept h f, if_neg (by omega)]
    omega
  · rw [close_line _ o hot, hline o' k' hn]
  · rw [close_line _ o hot, (ht.line o k).2.2, picked_line f, if_pos ⟨rfl, rfl⟩]
  · have e : allGot ((close (pickT p s o k b n) o).order o) = allGot ((pickT p s o k b n).order o) := by
      unfold allGot
      rw [close_lines _ o hot]
    rw [e, close_order _ o hot]
    by_cases ha : allGot ((pickT p s o k b n).order o) = true
    · rw [if_pos ⟨rfl, ha⟩]
      simp [ha]
    · rw [if_neg (fun hh => ha hh.2)]
      simp only [ha]
      constructor
      · intro hh; omega
      · intro hh; cases hh
/-- What is not found is looked for elsewhere. -/
theorem pickS_short (hc : checkState p s = 0) (f : Picks p s o k b n) : keptAt (pickS p s o k b n).holds o k b = 0 ∧ ((pickS p s o k b n).line o k).got + ((pickS p s o k b n).line o k).back + kept (pickS p s o k b n).holds o k = ((pickS p s o k b n).line o k).want ∧
    ((pickS p s o k b n).line o k).good = (s.line o k).good ∧ ((s.line o k).back < ((pickS p s o k b n).line o k).back → ∀ b' : Nat, b' < p.bins.length → b' ≠ b → avail (pickS p s o k b n) b' (s.line o k).good = 0) := by
  obtain ⟨h, hgot⟩ := check_iff.1 hc
  obtain ⟨ht, ht1, ht2⟩ := pickT_held h f
  have hot : o < (pickT p s o k b n).orders.length := by rw [ht.orders, picked_orders]; exact f.ho
  have hcx := (pickS_true hc f).1
  have hx := right_of_check hcx
  have hlen := (pickS_true hc f).2.1
  have hlines := (pickS_true hc f).2.2.1
  have hls := (hx.lineSum (o := o) (k := k) (by rw [hlen]; exact f.ho) (by rw [hlines]; exact f.hk)).1
  have hkd : ((pickS p s o k b n).order o).kind ≠ 0 := by
    rw [pickS_eq, close_order _ o hot]
    split
    · simp only; omega
    · rw [ht.kind, picked_kind f, picks_kind h f]; omega
  rw [if_neg hkd] at hls
  refine ⟨?_, hls, ?_, fun hlt b' hb' hne => ?_⟩
  · rw [pickS_eq, (close_rest _ o).2.1]
    have := takeGo_but (b := b) (picked_right h f) (way_bins p) (picked_may h f)
    change keptAt (pickT p s o k b n).holds o k b = _ at this
    rw [this, picked_keptAt h f, if_pos ⟨rfl, rfl, rfl⟩]
  · rw [pickS_eq, close_line _ o hot, (ht.line o k).1, (picked_fixed f _ o k).1]
  · rw [pickS_eq, close_line _ o hot, ht.back, if_pos ⟨rfl, rfl⟩, picked_line f, if_pos ⟨rfl, rfl⟩] at hlt
    simp only at hlt
    have := takeS_left (but := b) (picked_right h f) (picked_may h f) (by omega) hb' (by omega)
    change avail (pickT p s o k b n) b' _ = 0 at this
    rw [(picked_fixed f _ o k).1] at this
    rw [pickS_eq]
    unfold avail at this ⊢
    rw [close_bound _ o hot, (close_rest _ o).1]
    exact this

theorem pick_right {o k b n : Int} (h : (pick p s o k b n).2 = 0) : checkState p s = 0 ∧ ∃ i j c : Nat, o = i ∧ k = j ∧ b = c ∧ Picks p s i j c n ∧ (pick p s o k b n).1 = pickS p s i j c n := by
  unfold pick at h ⊢
  by_cases h1 : checkState p s = 0
  · rw [if_neg (fun hn => hn h1)] at h ⊢
    by_cases h2 : keptAt s.holds o k b = 0
    · rw [if_pos h2] at h
      simp at h
    rw [if_neg h2] at h ⊢
    cases h3 : within n 0 (keptAt s.holds o k b)
    · rw [h3, if_pos (by rfl)] at h
      simp at h
    rw [h3, if_neg (by simp)] at h
    rw [if_neg (by simp)]
    have h3' := within_iff.1 h3
    by_cases h4 : 1048576 < intAt s.out (s.line o.toNat k.toNat).good.toNat + n
    · rw [if_pos h4] at h
      simp at h
    rw [if_neg h4]
    have hs := (right_of_check h1).sane
    obtain ⟨hk1, hm⟩ := keptAt_key (holdsOk_iff.1 hs.holds).1 (holdsOk_iff.1 hs.holds).2 h2
    have hin := holdIn_iff.1 (List.all_eq_true.1 (formed_iff.1 hs.form).2.2.1 _ hm)
    simp only at hin
    have hpos := kept_pos hs.holds o k b
    unfold keyOk at hk1
    obtain ⟨i, rfl⟩ : ∃ i : Nat, o = i := ⟨o.toNat, by omega⟩
    obtain ⟨j, rfl⟩ : ∃ j : Nat, k = j := ⟨k.toNat, by omega⟩
    obtain ⟨c, rfl⟩ : ∃ c : Nat, b = c := ⟨b.toNat, by omega⟩
    simp only [Int.toNat_natCast] at hin h4 ⊢
    exact ⟨h1, i, j, c, rfl, rfl, rfl, ⟨by omega, by omega, by omega, by omega, by omega, by omega, by omega⟩, rfl⟩
  · rw [if_pos h1] at h
    exact absurd h h1
end
section
variable {p : Plan} {s : State} {o k b n : Int}
theorem pick_bad (h : checkState p s ≠ 0) : pick p s o k b n = (dState, checkState p s) := by unfold pick; rw [if_pos h]
theorem pick_none (h : checkState p s = 0) (h2 : keptAt s.holds o k b = 0) : pick p s o k b n = (dState, 4) := by unfold pick; rw [if_neg (fun hn => hn h), if_pos h2]
theorem pick_range (h : checkState p s = 0) (h2 : keptAt s.holds o k b ≠ 0) (h3 : n < 0 ∨ keptAt s.holds o k b < n) : pick p s o k b n = (dState, 3) := by
  unfold pick
  rw [if_neg (fun hn => hn h), if_neg h2, within_false.2 h3]
  rfl
theorem pick_in (h : checkState p s = 0) (h2 : keptAt s.holds o k b ≠ 0) (h3 : 0 ≤ n ∧ n ≤ keptAt s.holds o k b) :
    ∃ i j c : Nat, o = i ∧ k = j ∧ b = c ∧ i < s.orders.length ∧ j < (s.order i).lines.length ∧ c < p.bins.length ∧ 1 ≤ keptAt s.holds i j c ∧ keptAt s.holds i j c ≤ 200 ∧
      pick p s o k b n = if 1048576 < intAt s.out (s.line i j).good.toNat + n then (dState, 2) else (pickS p s i j c n, 0) := by
  have hs := (right_of_check h).sane
  obtain ⟨hk1, hm⟩ := keptAt_key (holdsOk_iff.1 hs.holds).1 (holdsOk_iff.1 hs.holds).2 h2
  have hin := holdIn_iff.1 (List.all_eq_true.1 (formed_iff.1 hs.form).2.2.1 _ hm)
  simp only at hin
  have hr := keptAt_range (holdsOk_iff.1 hs.holds).1 (holdsOk_iff.1 hs.holds).2 o k b
  unfold keyOk at hk1
  obtain ⟨i, rfl⟩ : ∃ i : Nat, o = i := ⟨o.toNat, by omega⟩
  obtain ⟨j, rfl⟩ : ∃ j : Nat, k = j := ⟨k.toNat, by omega⟩
  obtain ⟨c, rfl⟩ : ∃ c : Nat, b = c := ⟨b.toNat, by omega⟩
  simp only [Int.toNat_natCast] at hin
  refine ⟨i, j, c, rfl, rfl, rfl, by omega, by omega, by omega, by omega, hr.2, ?_⟩
  unfold pick
  rw [if_neg (fun hn => hn h), if_neg h2, within_iff.2 h3, if_neg (by simp)]
  simp only [Int.toNat_natCast]
end
end Wh
namespace Wh
open Go Go.RowKit Go.Shelf Go.Proofs
attribute [local go_sem] run_indexAt_letter evL_tmp evL_const evL_func

def pk1 (s : State) (c g : Nat) (n : Int) : State := { s with on := setCell s.on c g (cell s.on c g - n) }
def pk2 (s : State) (c g : Nat) (n : Int) : State := { pk1 s c g n with out := s.out.set g (intAt s.out g + n) }
theorem pk_pre {s : State} {i j c g : Nat} {n : Int} (hg : (s.line i j).good.toNat = g) : ({ pk2 s c g n with holds := withHold s.holds ⟨i, j, c, 0⟩ } : State) = preS s i j c n := by subst hg; rfl

end Wh
