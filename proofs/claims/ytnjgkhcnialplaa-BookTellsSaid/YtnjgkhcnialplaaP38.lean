/- Texts of the claim, joined: Act, RecvA. -/
import Derived.Test.YtnjgkhcnialplaaP32
import Derived.Test.YtnjgkhcnialplaaP34
import Derived.Test.YtnjgkhcnialplaaP33
namespace Wh
open Go Go.RowKit Go.Shelf Go.Proofs

def ActPost (r : State × Int) (w : World) (e : Ending) (w' : World) : Prop := ∃ V, e = .returned (.tuple #[V.val, .int .i64 r.2]) ∧ OwnSt w' w.heap.size V r.1 ∧ Below w.heap.size w w'
theorem actErr {r : State × Int} {c : Int} {w w' : World} (h : r = (dState, c)) (hb : Below w.heap.size w w') : ActPost r w (.returned (.tuple #[nilSV.val, .int .i64 c])) w' :=
  ⟨nilSV, by rw [h], by rw [h]; exact OwnSt.zero _ _, hb⟩
theorem actOk {r : State × Int} {s : State} {V : SV} {w w' : World} (h : r = (s, 0)) (ho : OwnSt w' w.heap.size V s) (hb : Below w.heap.size w w') : ActPost r w (.returned (.tuple #[V.val, .int .i64 0])) w' :=
  ⟨V, by rw [h], by rw [h]; exact ho, hb⟩

/-- A number stored into a cell: the world behind it at hand. -/
theorem wpList_store_int {ops : Array Oper} {rest : List Oper} {o : Oper} {a : Act} {w : World} {Q : Exit → Act → World → Prop} (hgd : o.guard = none) (x y : Operand) (ho : o.op = .store 3 x y) (hn : o.dst = none) (b off : Nat) (u : Value) (q : Int)
    (hx : a.eval x = .pointer (some ⟨b, off, none⟩)) (hy : a.eval y = .int .i64 q) (hc : w.cell? ⟨b, off, none⟩ = some u) (hf : w.frozen? ⟨b, off, none⟩ = false)
    (h : ∀ w', w.setCell ⟨b, off, none⟩ (.int .i64 q) = w' → wpList Try.prog ops Q rest a w') : wpList Try.prog ops Q (o :: rest) a w :=
  wpList_plain hgd fun K hK => by
    unfold Oper.wp
    simp only [execOp, ho, hx, hy]
    go_simp
    exact hK _ _ (h _ rfl)
end Wh
namespace Wh
open Go Go.RowKit Go.Shelf Go.Proofs
attribute [local go_sem] run_indexAt_letter

section
variable {p : Plan} {s : State} {b g n : Int}
theorem receive_bad (h : checkState p s ≠ 0) : receive p s b g n = (dState, checkState p s) := by unfold receive; rw [if_pos h]
theorem receive_range (h : checkState p s = 0) (h2 : (isBin p b && isGood p g && within n 1 200) = false) : receive p s b g n = (dState, 3) := by
  unfold receive
  rw [if_neg (fun hn => hn h), h2]; rfl
theorem receive_full (h : checkState p s = 0) (h2 : (isBin p b && isGood p g && within n 1 200) = true) (h3 : free p s b < n * intAt p.sizes g.toNat) : receive p s b g n = (dState, 5) := by
  unfold receive
  rw [if_neg (fun hn => hn h), h2, if_neg (by simp), if_pos h3]
theorem receive_many (h : checkState p s = 0) (h2 : (isBin p b && isGood p g && within n 1 200) = true) (h3 : n * intAt p.sizes g.toNat ≤ free p s b) (h4 : 200 < cell s.on b.toNat g.toNat + coming s b g + n ∨ 1048576 < intAt s.inn g.toNat + n) : receive p s b g n = (dState, 2) := by
  unfold receive
  rw [if_neg (fun hn => hn h), h2, if_neg (by simp), if_neg (by omega), if_pos h4]
theorem receive_ok (h : checkState p s = 0) (h2 : (isBin p b && isGood p g && within n 1 200) = true) (h3 : n * intAt p.sizes g.toNat ≤ free p s b) (h4 : cell s.on b.toNat g.toNat + coming s b g + n ≤ 200) (h5 : intAt s.inn g.toNat + n ≤ 1048576) :
    receive p s b g n = ({ s with on := setCell s.on b.toNat g.toNat (cell s.on b.toNat g.toNat + n), inn := s.inn.set g.toNat (intAt s.inn g.toNat + n) }, 0) := by
  unfold receive
  rw [if_neg (fun hn => hn h), h2, if_neg (by simp), if_neg (by omega), if_neg (by omega)]
end

set_option maxHeartbeats 8000000 in
set_option maxRecDepth 100000 in
theorem recvReceive (w : World) (v vs : Value) (p : Plan) (s : State) (b g n : Int) (hp : PlanV w w.heap.size v p) (hv : StateV w w.heap.size vs s) :
    Calls Try.prog 33 #[v, vs, .int .i64 b, .int .i64 g, .int .i64 n] w (ActPost (receive p s b g n) w) := by
  obtain ⟨Ab, cb, As, cs, rfl, hP', hBn, hSz, hlb, hls⟩ := openPl hp
  obtain ⟨A0, c0, A1, c1, A2, c2, A3, c3, A4, c4, A5, c5, A6, c6, rfl, hV, hN, hO, hH, hM, hI, hU, hX, hl0, hl1, hl2, hl3, hl4, hl5, hl6⟩ := openOne hv
  go_enter Try.func33, Try.ntmps33
  go_wp2_with fail
  obtain ⟨W0, hW0, hb0, hsz0, hsz1, hsE, hK, hR⟩ := boxesAct w p s Ab cb As cs A0 c0 A1 c1 A2 c2 A3 c3 A4 c4 A5 c5 A6 c6
  rw [hW0]
  clear hW0
  obtain ⟨⟨y0, y1⟩, x0, x1, x2, x3, x4, x5, x6, hbz0, hbz1⟩ := hK.out W0 (Below.refl W0.heap.size W0)
  go_wp2_with fail
  clear y0 y1 x0 x1 x2 x3 x4 x5 x6 hbz0 hbz1
  refine (sCheck _ _ _ p s (hP'.out _ hb0) (hV.out _ hb0)).mono ?_
  rintro e W1 ⟨rfl, h1⟩
  have hB1 := hb0.trans (h1.mono hb0.size)
  obtain ⟨⟨y0, y1⟩, x0, x1, x2, x3, x4, x5, x6, hbz0, hbz1⟩ := hK.out W1 (h1)
  by_cases hc : checkState p s = 0
  · have hc' := Lib.hid hc
    have hsn := Lib.hid (checkState_zero.1 hc).1
    rw [hc]
    clear hc
    go_wp2_with fail
    clear y0 y1 x0 x1 x2 x3 x4 x5 x6 hbz0 hbz1
    refine (shThere _ _ p b g (hP'.out _ hB1)).mono ?_
    rintro e W2 ⟨rfl, h2⟩
    have h02 := h1.trans (h2.mono h1.size)
    have hB2 := hb0.trans (h02.mono hb0.size)
    obtain ⟨⟨y0, y1⟩, x0, x1, x2, x3, x4, x5, x6, hbz0, hbz1⟩ := hK.out W2 (h02)
    cases hth : (isBin p b && isGood p g)
    · have hfin := Lib.hid (receive_range (n := n) hc'.out (by rw [hth]; rfl))
      clear hth
      have hbx9 := hR.out _ h02
      go_wp2_with (refine wpList_store_state rfl (.tmp 10) (.tmp 31) rfl rfl (w.heap.size + 1 + 1) nilSV nilSV hbx9 rfl rfl rfl (fun w9 hbox9 hg9 => ?_))
      obtain ⟨p0, p1, p2, p3, p4, p5, p6⟩ := BoxAt.cells hbox9
      have hfin9 : Below w.heap.size w w9 := Below.grown hB2 hg9 (Below.size hB2) (fun k hk => by injection hk with hk; omega)
      go_wp2_with fail
      exact bodyPost_ret (v := .tuple #[nilSV.val, .int .i64 3]) (by simp [results, Try.results33, go_sem, SV.val, p0, p1, p2, p3, p4, p5, p6]) rfl (actErr hfin.out hfin9)
    · have hth' := Lib.hid hth
      rw [Bool.and_eq_true] at hth
      have hbb := Lib.hid (isBin_iff.1 hth.1)
      have hgg := Lib.hid (isGood_iff.1 hth.2)
      clear hth
      by_cases hn1 : 1 ≤ n
      · by_cases hn2 : n ≤ 200
        · have hall := Lib.hid (show (isBin p b && isGood p g && within n 1 200) = true by rw [hth'.out, within_iff.2 ⟨hn1, hn2⟩]; rfl)
          have hb1 : 0 ≤ b := hbb.out.1
          have hb2 : b < (s.on.length : Int) := by rw [hsn.out.onLen]; exact hbb.out.2
          have hg1 : 0 ≤ g := hgg.out.1
          have hg2 : g < (p.sizes.length : Int) := hgg.out.2
          have hbl : b.toNat < s.on.length := by omega
          have hgs : g.toNat < p.sizes.length := by omega
          have hgl : g.toNat < (rowAt s.on b.toNat).length := by rw [hsn.out.rowLen (by have := hbb.out; omega)]; omega
          have hgr : g < ((rowAt s.on b.toNat).length : Int) := by omega
          have hgi : g < (s.inn.length : Int) := by rw [hsn.out.inn.1]; omega
          obtain ⟨z1, z2⟩ := right_size hsn.out.plan hgs
          have hm1 := mul_range (a := n) (b := intAt p.sizes g.toNat) (by omega) ⟨z1, z2⟩
          have hw1 : IntKind.i64.wrap (n * intAt p.sizes g.toNat) = n * intAt p.sizes g.toNat := IntWalk.i64_in _ (by omega)
          obtain ⟨os0, ls0, rs0⟩ := (hSz.out W2 hB2).at_.int hgs
          have q0 := fun o d os => cells_wld (w := W2) (b := w.heap.size) hbz1 o d os
          have q1 := fun o d os => cells_wld (w := W2) (b := w.heap.size + 1) hbz0 o d os
          have q2 := fun o d os => cells_wld (w := W2) (b := ablk As) ls0 o d os
          have hP2 := Lib.hid (fun d os => hP'.out _ (hB2.trans ((below_wld W2 d os).mono hB2.size)))
          have hV2 := Lib.hid (fun d os => hV.out _ (hB2.trans ((below_wld W2 d os).mono hB2.size)))
          by_cases hfu : free p s b < n * intAt p.sizes g.toNat
          · have hfin := Lib.hid (receive_full (n := n) hc'.out hall.out hfu)
            go_wp2_with fail
            refine wp_region_wld (by kernel_rfl) (by kernel_rfl) ?_
            repeat (go_big_quiet_step ((go_at_call 62; refine calls_wld (sRoom _ _ _ p s b (hP2.out _ _) (hV2.out _ _) hsn.out hbb.out))))
            refine wpQuiet_nil ?_
            intro W3 hw'
            have hb3 := below_of_cls hw'
            clear hw'
            have h03 := h02.trans (hb3.mono h02.size)
            have hB3 := hb0.trans (h03.mono hb0.size)
            have hbx9 := hR.out _ h03
            go_wp2_with (refine wpList_store_state rfl (.tmp 10) (.tmp 45) rfl rfl (w.heap.size + 1 + 1) nilSV nilSV hbx9 rfl rfl rfl (fun w9 hbox9 hg9 => ?_))
            obtain ⟨p0, p1, p2, p3, p4, p5, p6⟩ := BoxAt.cells hbox9
            have hfin9 : Below w.heap.size w w9 := Below.grown hB3 hg9 (Below.size hB3) (fun k hk => by injection hk with hk; omega)
            go_wp2_with fail
            exact bodyPost_ret (v := .tuple #[nilSV.val, .int .i64 5]) (by simp [results, Try.results33, go_sem, SV.val, p0, p1, p2, p3, p4, p5, p6]) rfl (actErr hfin.out hfin9)
          · have hfu' : n * intAt p.sizes g.toNat ≤ free p s b := by omega
            go_wp2_with fail
            refine wp_region_wld (by kernel_rfl) (by kernel_rfl) ?_
            repeat (go_big_quiet_step ((go_at_call 62; refine calls_wld (sRoom _ _ _ p s b (hP2.out _ _) (hV2.out _ _) hsn.out hbb.out))))
            refine wpQuiet_nil ?_
            intro W3 hw'
            have hb3 := below_of_cls hw'
            clear hw'
            have h03 := h02.trans (hb3.mono h02.size)
            have hB3 := hb0.trans (h03.mono hb0.size)
            clear q0 q1 q2 hP2 hV2 hw1 rs0 os0 ls0
            clear y0 y1 x0 x1 x2 x3 x4 x5 x6 hbz0 hbz1
            obtain ⟨⟨y0, y1⟩, x0, x1, x2, x3, x4, x5, x6, hbz0, hbz1⟩ := hK.out W3 (h03)
            obtain ⟨Ar, cr, or0, lr0, rr0, hrow⟩ := (hN.out W3 hB3).row hbl
            obtain ⟨or1, lr1, rr1⟩ := hrow.at_.int hgl
            obtain ⟨oi, li, ri⟩ := (hI.out W3 hB3).at_.int (i := g.toNat) (by omega)
            have hcl : intAt (rowAt s.on b.toNat) g.toNat = cell s.on b.toNat g.toNat := rfl
            rw [hcl] at rr1
            clear hcl
            have t1 := hsn.out.cell (b := b.toNat) (g := g.toNat) (by have := hbb.out; omega) hgs
            have t2 := coming_range hsn.out b g
            have t3 := hsn.out.inn.2 hgs
            have hw1 : IntKind.i64.wrap (cell s.on b.toNat g.toNat + coming s b g) = cell s.on b.toNat g.toNat + coming s b g := IntWalk.i64_in _ (by omega)
            have hw2 : IntKind.i64.wrap (cell s.on b.toNat g.toNat + coming s b g + n) = cell s.on b.toNat g.toNat + coming s b g + n := IntWalk.i64_in _ (by omega)
            have hw3 : IntKind.i64.wrap (intAt s.inn g.toNat + n) = intAt s.inn g.toNat + n := IntWalk.i64_in _ (by omega)
            have q1 := fun o d os => cells_wld (w := W3) (b := w.heap.size + 1) hbz0 o d os
            have q2 := fun o d os => cells_wld (w := W3) (b := ablk A0) lr0 o d os
            have q3 := fun o d os => cells_wld (w := W3) (b := ablk Ar) lr1 o d os
            have hV2 := Lib.hid (fun d os => hV.out _ (hB3.trans ((below_wld W3 d os).mono hB3.size)))
            by_cases hm : 200 < cell s.on b.toNat g.toNat + coming s b g + n
            · have hfin := Lib.hid (receive_many (n := n) hc'.out hall.out hfu' (.inl hm))
              go_wp2_with fail
              refine wp_region_wld (by kernel_rfl) (by kernel_rfl) ?_
              repeat (go_big_quiet_step ((go_at_call 69; refine calls_wld (sComing _ _ p s b g (hV2.out _ _) hsn.out))))
              refine wpQuiet_nil ?_
              intro W4 hw'
              have hb4 := below_of_cls hw'
              clear hw'
              have h04 := h03.trans (hb4.mono h03.size)
              have hB4 := hb0.trans (h04.mono hb0.size)
              have hbx9 := hR.out _ h04
              go_wp2_with (refine wpList_store_state rfl (.tmp 10) (.tmp 71) rfl rfl (w.heap.size + 1 + 1) nilSV nilSV hbx9 rfl rfl rfl (fun w9 hbox9 hg9 => ?_))
              obtain ⟨p0, p1, p2, p3, p4, p5, p6⟩ := BoxAt.cells hbox9
              have hfin9 : Below w.heap.size w w9 := Below.grown hB4 hg9 (Below.size hB4) (fun k hk => by injection hk with hk; omega)
              go_wp2_with fail
              exact bodyPost_ret (v := .tuple #[nilSV.val, .int .i64 2]) (by simp [results, Try.results33, go_sem, SV.val, p0, p1, p2, p3, p4, p5, p6]) rfl (actErr hfin.out hfin9)
            · have hm' : cell s.on b.toNat g.toNat + coming s b g + n ≤ 200 := by omega
              go_wp2_with fail
              refine wp_region_wld (by kernel_rfl) (by kernel_rfl) ?_
              repeat (go_big_quiet_step ((go_at_call 69; refine calls_wld (sComing _ _ p s b g (hV2.out _ _) hsn.out))))
              refine wpQuiet_nil ?_
              intro W4 hw'
              have hb4 := below_of_cls hw'
              clear hw'
              have h04 := h03.trans (hb4.mono h03.size)
              have hB4 := hb0.trans (h04.mono hb0.size)
              clear q1 q2 q3 hV2 hw1 hw2
              clear y0 y1 x0 x1 x2 x3 x4 x5 x6 hbz0 hbz1
              obtain ⟨⟨y0, y1⟩, x0, x1, x2, x3, x4, x5, x6, hbz0, hbz1⟩ := hK.out W4 (h04)
              have ri4 := (hb4.cell (p := ⟨ablk A4, aoff A4 + g.toNat, none⟩) li).trans ri
              clear rr0 rr1 ri hm
              by_cases hi : 1048576 < intAt s.inn g.toNat + n
              · have hfin := Lib.hid (receive_many (n := n) hc'.out hall.out hfu' (.inr hi))
                have hbx9 := hR.out _ h04
                go_wp2_with (refine wpList_store_state rfl (.tmp 10) (.tmp 71) rfl rfl (w.heap.size + 1 + 1) nilSV nilSV hbx9 rfl rfl rfl (fun w9 hbox9 hg9 => ?_))
                obtain ⟨p0, p1, p2, p3, p4, p5, p6⟩ := BoxAt.cells hbox9
                have hfin9 : Below w.heap.size w w9 := Below.grown hB4 hg9 (Below.size hB4) (fun k hk => by injection hk with hk; omega)
                go_wp2_with fail
                exact bodyPost_ret (v := .tuple #[nilSV.val, .int .i64 2]) (by simp [results, Try.results33, go_sem, SV.val, p0, p1, p2, p3, p4, p5, p6]) rfl (actErr hfin.out hfin9)
              · have hi' : intAt s.inn g.toNat + n ≤ 1048576 := by omega
                have hfin := Lib.hid (receive_ok (n := n) hc'.out hall.out hfu' hm' hi')
                go_wp2_with fail
                clear y0 y1 x0 x1 x2 x3 x4 x5 x6 hbz0 hbz1
                clear ri4 hi
                refine (sOwn _ _ p s (hV.out _ hB4) hsn.out).mono ?_
                rintro e W5 ⟨_, rfl, ⟨V5, rfl, ho5⟩, h5⟩
                have hone6 := (ho5).one
                have hnb6 := newBox (W5)
                go_wp2_with (refine wpList_store_state rfl (.tmp 13) (.tmp 73) rfl rfl (World.heap (W5)).size nilSV V5 hnb6 rfl rfl hone6 (fun w6 hbox6 hg6 => ?_); refine Hid.out ?_)
                unfold Hid
                have hbb6 := newBelow hg6
                have hbl6 := hbox6.lt
                clear hone6 hnb6 hg6
                have ho6 := ho5.below hbb6
                have h06 := h04.trans ((h5.trans (hbb6.mono h5.size)).mono h04.size)
                have hB6 := hb0.trans (h06.mono hb0.size)
                have hle4 : w.heap.size ≤ W4.heap.size := hB4.size
                have hle04 : W0.heap.size ≤ W4.heap.size := h04.size
                obtain ⟨go, co, cur0, gr, cr2, cur, e1, f1, f2, f3, e2, f4, f5, f6⟩ := ho6.onAt hbl hgl
                have hx0 := hbox6.cells.1
                rw [e1] at hx0
                have hf := f5.frozen g.toNat
                have hst := ho6.setOn hbl hgl e2 (cell s.on b.toNat g.toNat + n)
                have hbox7 := hbox6.off hst.2 f5 (by decide)
                have hw4 : IntKind.i64.wrap (cell s.on b.toNat g.toNat + n) = cell s.on b.toNat g.toNat + n := IntWalk.i64_in _ (by omega)
                have h07 := h06.setCell (p := ⟨gr, g.toNat, none⟩) (Nat.le_trans hle04 f4) (.int .i64 (cell s.on b.toNat g.toNat + n))
                have hB7 := hB6.setCell (p := ⟨gr, g.toNat, none⟩) (Nat.le_trans hle4 f4) (.int .i64 (cell s.on b.toNat g.toNat + n))
                go_wp2_with (refine wpList_store_int rfl (.tmp 84) (.tmp 83) rfl rfl gr g.toNat _ _ rfl rfl f6 hf (fun w7 hw7 => ?_); refine Hid.out ?_)
                unfold Hid
                rw [hw7] at hst hbox7 h07 hB7
                clear hw7 hw4 hx0 hf f2 f3 f5 f6 e1 e2 ho6 hbox6
                have ho7 : OwnSt w7 W4.heap.size V5 { s with on := setCell s.on b.toNat g.toNat (cell s.on b.toNat g.toNat + n) } := hst.1
                have hgil : g.toNat < s.inn.length := by omega
                obtain ⟨gi, ci, curi, e3, k1, k2, k3⟩ := OwnSt.intAtOwn (l := s.inn) ho7.inn hgil
                have hx4 := hbox7.cells.2.2.2.2.1
                rw [e3] at hx4
                have hfi := k2.frozen g.toNat
                have hst2 := ho7.setInn hgil e3 (intAt s.inn g.toNat + n)
                have hbox8 := hbox7.off hst2.2 k2 (by decide)
                have h08 := h07.setCell (p := ⟨gi, g.toNat, none⟩) (Nat.le_trans hle04 k1) (.int .i64 (intAt s.inn g.toNat + n))
                have hB8 := hB7.setCell (p := ⟨gi, g.toNat, none⟩) (Nat.le_trans hle4 k1) (.int .i64 (intAt s.inn g.toNat + n))
                go_wp2_with (refine wpList_store_int rfl (.tmp 92) (.tmp 91) rfl rfl gi g.toNat _ _ rfl rfl k3 hfi (fun w8 hw8 => ?_); refine Hid.out ?_)
                unfold Hid
                rw [hw8] at hst2 hbox8 h08 hB8
                clear hw8 hx4 hfi k2 k3 e3
                have ho8 : OwnSt w8 W4.heap.size V5 { s with on := setCell s.on b.toNat g.toNat (cell s.on b.toNat g.toNat + n), inn := s.inn.set g.toNat (intAt s.inn g.toNat + n) } := hst2.1
                have ho8' := Lib.hid ho8
                have hbox8' := Lib.hid hbox8
                clear hst hst2 ho7 ho8 hbox7 hbox8 ho5
                have hbx9 := hR.out _ h08
                obtain ⟨b0, b1, b2, b3, b4, b5, b6⟩ := BoxAt.cells hbox8'.out
                have hone9 := OwnSt.one ho8'.out
                go_wp2_with (refine wpList_store_state rfl (.tmp 10) (.tmp 93) rfl rfl (w.heap.size + 1 + 1) nilSV V5 hbx9 rfl rfl hone9 (fun w9 hbox9 hg9 => ?_))
                have hO9 := OwnSt.keptBy ho8'.out hg9 hbx9 (by decide) (by decide) (by decide) (by decide) (by decide) (by decide)
                obtain ⟨p0, p1, p2, p3, p4, p5, p6⟩ := BoxAt.cells hbox9
                have hfin9 : Below w.heap.size w w9 := Below.grown hB8 hg9 (Below.size hB8) (fun k hk => by injection hk with hk; omega)
                clear b0 b1 b2 b3 b4 b5 b6
                go_wp2_with fail
                exact bodyPost_ret (v := .tuple #[SV.val V5, .int .i64 0]) (by simp [results, Try.results33, go_sem, SV.val, p0, p1, p2, p3, p4, p5, p6]) rfl (actOk hfin.out (hO9.from_ hle4) hfin9)
        · have hfin := Lib.hid (receive_range (n := n) hc'.out (by rw [hth'.out, show within n 1 200 = false from within_false.2 (by omega)]; rfl))
          have hbx9 := hR.out _ h02
          go_wp2_with (refine wpList_store_state rfl (.tmp 10) (.tmp 31) rfl rfl (w.heap.size + 1 + 1) nilSV nilSV hbx9 rfl rfl rfl (fun w9 hbox9 hg9 => ?_))
          obtain ⟨p0, p1, p2, p3, p4, p5, p6⟩ := BoxAt.cells hbox9
          have hfin9 : Below w.heap.size w w9 := Below.grown hB2 hg9 (Below.size hB2) (fun k hk => by injection hk with hk; omega)
          go_wp2_with fail
          exact bodyPost_ret (v := .tuple #[nilSV.val, .int .i64 3]) (by simp [results, Try.results33, go_sem, SV.val, p0, p1, p2, p3, p4, p5, p6]) rfl (actErr hfin.out hfin9)
      · have hfin := Lib.hid (receive_range (n := n) hc'.out (by rw [hth'.out, show within n 1 200 = false from within_false.2 (by omega)]; rfl))
        have hbx9 := hR.out _ h02
        go_wp2_with (refine wpList_store_state rfl (.tmp 10) (.tmp 31) rfl rfl (w.heap.size + 1 + 1) nilSV nilSV hbx9 rfl rfl rfl (fun w9 hbox9 hg9 => ?_))
        obtain ⟨p0, p1, p2, p3, p4, p5, p6⟩ := BoxAt.cells hbox9
        have hfin9 : Below w.heap.size w w9 := Below.grown hB2 hg9 (Below.size hB2) (fun k hk => by injection hk with hk; omega)
        go_wp2_with fail
        exact bodyPost_ret (v := .tuple #[nilSV.val, .int .i64 3]) (by simp [results, Try.results33, go_sem, SV.val, p0, p1, p2, p3, p4, p5, p6]) rfl (actErr hfin.out hfin9)
  · have hne : (checkState p s != 0) = true := by simpa using hc
    have hfin := Lib.hid (receive_bad (b := b) (g := g) (n := n) hc)
    clear hc
    have hbx9 := hR.out _ h1
    go_wp2_with (refine wpList_store_state rfl (.tmp 10) (.tmp 19) rfl rfl (w.heap.size + 1 + 1) nilSV nilSV hbx9 rfl rfl rfl (fun w9 hbox9 hg9 => ?_))
    obtain ⟨p0, p1, p2, p3, p4, p5, p6⟩ := BoxAt.cells hbox9
    have hfin9 : Below w.heap.size w w9 := Below.grown hB1 hg9 (Below.size hB1) (fun k hk => by injection hk with hk; omega)
    go_wp2_with fail
    exact bodyPost_ret (v := .tuple #[nilSV.val, .int .i64 (checkState p s)]) (by simp [results, Try.results33, go_sem, SV.val, p0, p1, p2, p3, p4, p5, p6]) rfl (actErr hfin.out hfin9)
end Wh
