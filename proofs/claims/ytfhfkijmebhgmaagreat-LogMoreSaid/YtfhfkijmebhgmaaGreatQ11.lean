/- Texts of the claim, joined: Same, StateB. -/
import Derived.Deep.RegionHeld3
import Derived.Test.YtfhfkijmebhgmaaGreatQ07
import Derived.Test.YtfhfkijmebhgmaaGreatQ10
namespace Wh
open Go Go.RowKit Go.Shelf Go.Proofs
attribute [local go_sem] run_indexAt_letter

theorem neqLine (x : Line) (w : World) : (binOp .neq 44 (.agg #[.int .i64 (x).good, .int .i64 (x).want, .int .i64 (x).got, .int .i64 (x).back]) (.agg #[.int .i64 (x).good, .int .i64 (x).want, .int .i64 (x).got, .int .i64 (x).back])).run Tryz.prog w = .ok (.bool false) w := by
  refine struct_eq (by kernel_rfl) (by kernel_rfl) _ _ true (fun w => ?_) w
  have u3 := Tryz.underlying3
  have a3 := Tryz.isAgg3
  have z3 := Tryz.sizeOf3
  simp only [Program.fieldsOf, Tryz.underlying44]
  go_simp
theorem neqMove (x : Move) (w : World) : (binOp .neq 48 (.agg #[.int .i64 (x).good, .int .i64 (x).src, .int .i64 (x).dst, .int .i64 (x).n]) (.agg #[.int .i64 (x).good, .int .i64 (x).src, .int .i64 (x).dst, .int .i64 (x).n])).run Tryz.prog w = .ok (.bool false) w := by
  refine struct_eq (by kernel_rfl) (by kernel_rfl) _ _ true (fun w => ?_) w
  have u3 := Tryz.underlying3
  have a3 := Tryz.isAgg3
  have z3 := Tryz.sizeOf3
  simp only [Program.fieldsOf, Tryz.underlying48]
  go_simp

theorem Blk.two (w : World) (cs cs' : Array Value) (e e' : TypeId) : Blk ((w.alloc (.cells cs e)).alloc (.cells cs' e')).drew (w.heap.size + 1) e' cs'.toList := by
  have := Blk.new (w.alloc (.cells cs e)) e' cs'
  have h : Blk ((w.alloc (.cells cs e)).alloc (.cells cs' e')) (w.heap.size + 1) e' cs'.toList := by simpa using this
  exact h.drew
theorem Sl.len {α : Type} {enc : α → List Value} {w : World} {B : Nat} {v : Value} {l : List α} (h : Sl enc w B v l) : l.length ≤ 140737488355232 := let ⟨_, _, _, h, _⟩ := h; h
set_option maxHeartbeats 8000000 in
set_option maxRecDepth 100000 in
theorem rSameStates (w : World) (va vb : Value) (s : State) (ha : StateV w w.heap.size va s) (hb : StateV w w.heap.size vb s) :
    Calls Tryz.prog 19 #[va, vb] w fun e w' => e = .returned (.bool true) ∧ Below w.heap.size w w' := by
  obtain ⟨_, _, _, _, _, _, _, rfl, ⟨A0, c0, vs0, rfl, hl0, hm0, ha0, hr0⟩, ⟨A1, c1, vs1, rfl, hl1, hm1, ha1, hr1⟩, ⟨A2, c2, rfl, hl2, ha2⟩, ⟨A3, c3, rfl, hl3, ha3⟩, ⟨A4, c4, rfl, hl4, ha4⟩, ⟨A5, c5, rfl, hl5, ha5⟩, ⟨A6, c6, rfl, hl6, ha6⟩⟩ := ha
  obtain ⟨_, _, _, _, _, _, _, rfl, ⟨B0, d0, us0, rfl, _, hn0, hb0, ht0⟩, ⟨B1, d1, us1, rfl, _, hn1, hb1, ht1⟩, ⟨B2, d2, rfl, _, hb2⟩, ⟨B3, d3, rfl, _, hb3⟩, ⟨B4, d4, rfl, _, hb4⟩, ⟨B5, d5, rfl, _, hb5⟩, ⟨B6, d6, rfl, _, hb6⟩⟩ := hb
  have hNa := Lib.hid (fun W (hW : Below w.heap.size w W) => (SlSl.up ⟨A0, c0, vs0, rfl, hl0, hm0, ha0, hr0⟩ hW hW.size : SlSl cInt W W.heap.size (.slice A0 s.on.length c0) s.on))
  have hNb := Lib.hid (fun W (hW : Below w.heap.size w W) => (SlSl.up ⟨B0, d0, us0, rfl, hl0, hn0, hb0, ht0⟩ hW hW.size : SlSl cInt W W.heap.size (.slice B0 s.on.length d0) s.on))
  have hOa := Lib.hid (fun W (hW : Below w.heap.size w W) => (SlOrders.up ⟨A1, c1, vs1, rfl, hl1, hm1, ha1, hr1⟩ hW hW.size : SlOrders W W.heap.size (.slice A1 s.orders.length c1) s.orders))
  have hOb := Lib.hid (fun W (hW : Below w.heap.size w W) => (SlOrders.up ⟨B1, d1, us1, rfl, hl1, hn1, hb1, ht1⟩ hW hW.size : SlOrders W W.heap.size (.slice B1 s.orders.length d1) s.orders))
  have hHa := Lib.hid (fun W (hW : Below w.heap.size w W) => (Sl.up ⟨A2, c2, rfl, hl2, ha2⟩ hW hW.size : Sl cHold W W.heap.size (.slice A2 s.holds.length c2) s.holds))
  have hHb := Lib.hid (fun W (hW : Below w.heap.size w W) => (Sl.up ⟨B2, d2, rfl, hl2, hb2⟩ hW hW.size : Sl cHold W W.heap.size (.slice B2 s.holds.length d2) s.holds))
  have hMa := Lib.hid (fun W (hW : Below w.heap.size w W) => (Sl.up ⟨A3, c3, rfl, hl3, ha3⟩ hW hW.size : Sl cMove W W.heap.size (.slice A3 s.moves.length c3) s.moves))
  have hMb := Lib.hid (fun W (hW : Below w.heap.size w W) => (Sl.up ⟨B3, d3, rfl, hl3, hb3⟩ hW hW.size : Sl cMove W W.heap.size (.slice B3 s.moves.length d3) s.moves))
  have hIa := Lib.hid (fun W (hW : Below w.heap.size w W) => (Sl.up ⟨A4, c4, rfl, hl4, ha4⟩ hW hW.size : Sl cInt W W.heap.size (.slice A4 s.inn.length c4) s.inn))
  have hIb := Lib.hid (fun W (hW : Below w.heap.size w W) => (Sl.up ⟨B4, d4, rfl, hl4, hb4⟩ hW hW.size : Sl cInt W W.heap.size (.slice B4 s.inn.length d4) s.inn))
  have hUa := Lib.hid (fun W (hW : Below w.heap.size w W) => (Sl.up ⟨A5, c5, rfl, hl5, ha5⟩ hW hW.size : Sl cInt W W.heap.size (.slice A5 s.out.length c5) s.out))
  have hUb := Lib.hid (fun W (hW : Below w.heap.size w W) => (Sl.up ⟨B5, d5, rfl, hl5, hb5⟩ hW hW.size : Sl cInt W W.heap.size (.slice B5 s.out.length d5) s.out))
  have hXa := Lib.hid (fun W (hW : Below w.heap.size w W) => (Sl.up ⟨A6, c6, rfl, hl6, ha6⟩ hW hW.size : Sl cInt W W.heap.size (.slice A6 s.fixed.length c6) s.fixed))
  have hXb := Lib.hid (fun W (hW : Below w.heap.size w W) => (Sl.up ⟨B6, d6, rfl, hl6, hb6⟩ hW hW.size : Sl cInt W W.heap.size (.slice B6 s.fixed.length d6) s.fixed))
  clear hm0 ha0 hr0 hm1 ha1 hr1 ha2 ha3 ha4 ha5 ha6 hn0 hb0 ht0 hn1 hb1 ht1 hb2 hb3 hb4 hb5 hb6
  have hb0 : Below w.heap.size w ((w.alloc (.cells #[.slice A0 s.on.length c0, .slice A1 s.orders.length c1, .slice A2 s.holds.length c2, .slice A3 s.moves.length c3, .slice A4 s.inn.length c4, .slice A5 s.out.length c5, .slice A6 s.fixed.length c6] 31)).alloc (.cells #[.slice B0 s.on.length d0, .slice B1 s.orders.length d1, .slice B2 s.holds.length d2, .slice B3 s.moves.length d3, .slice B4 s.inn.length d4, .slice B5 s.out.length d5, .slice B6 s.fixed.length d6] 31)) := ((Below.refl _ _).alloc (Nat.le_refl _) _).alloc (by simp) _
  have hsz0 : w.heap.size + 1 < ((w.alloc (.cells #[.slice A0 s.on.length c0, .slice A1 s.orders.length c1, .slice A2 s.holds.length c2, .slice A3 s.moves.length c3, .slice A4 s.inn.length c4, .slice A5 s.out.length c5, .slice A6 s.fixed.length c6] 31)).alloc (.cells #[.slice B0 s.on.length d0, .slice B1 s.orders.length d1, .slice B2 s.holds.length d2, .slice B3 s.moves.length d3, .slice B4 s.inn.length d4, .slice B5 s.out.length d5, .slice B6 s.fixed.length d6] 31)).heap.size := by simp
  have hz0 : Blk ((w.alloc (.cells #[.slice A0 s.on.length c0, .slice A1 s.orders.length c1, .slice A2 s.holds.length c2, .slice A3 s.moves.length c3, .slice A4 s.inn.length c4, .slice A5 s.out.length c5, .slice A6 s.fixed.length c6] 31)).alloc (.cells #[.slice B0 s.on.length d0, .slice B1 s.orders.length d1, .slice B2 s.holds.length d2, .slice B3 s.moves.length d3, .slice B4 s.inn.length d4, .slice B5 s.out.length d5, .slice B6 s.fixed.length d6] 31)) w.heap.size 31 [.slice A0 s.on.length c0, .slice A1 s.orders.length c1, .slice A2 s.holds.length c2, .slice A3 s.moves.length c3, .slice A4 s.inn.length c4, .slice A5 s.out.length c5, .slice A6 s.fixed.length c6] ∧
      Blk ((w.alloc (.cells #[.slice A0 s.on.length c0, .slice A1 s.orders.length c1, .slice A2 s.holds.length c2, .slice A3 s.moves.length c3, .slice A4 s.inn.length c4, .slice A5 s.out.length c5, .slice A6 s.fixed.length c6] 31)).alloc (.cells #[.slice B0 s.on.length d0, .slice B1 s.orders.length d1, .slice B2 s.holds.length d2, .slice B3 s.moves.length d3, .slice B4 s.inn.length d4, .slice B5 s.out.length d5, .slice B6 s.fixed.length d6] 31)) (w.heap.size + 1) 31 [.slice B0 s.on.length d0, .slice B1 s.orders.length d1, .slice B2 s.holds.length d2, .slice B3 s.moves.length d3, .slice B4 s.inn.length d4, .slice B5 s.out.length d5, .slice B6 s.fixed.length d6] :=
    ⟨(Blk.new _ _ _).alloc _, by have := Blk.new (w.alloc (.cells #[.slice A0 s.on.length c0, .slice A1 s.orders.length c1, .slice A2 s.holds.length c2, .slice A3 s.moves.length c3, .slice A4 s.inn.length c4, .slice A5 s.out.length c5, .slice A6 s.fixed.length c6] 31)) 31 #[.slice B0 s.on.length d0, .slice B1 s.orders.length d1, .slice B2 s.holds.length d2, .slice B3 s.moves.length d3, .slice B4 s.inn.length d4, .slice B5 s.out.length d5, .slice B6 s.fixed.length d6]; simpa using this⟩
  have hql := neqLine
  have hqm := neqMove
  have hg1 : Tryz.prog.eqGuardType Tryz.prog.depth 44 = false := by kernel_rfl
  have hg2 : Tryz.prog.eqGuardType Tryz.prog.depth 48 = false := by kernel_rfl
  have hql' := Lib.hid hql
  have hqm' := Lib.hid hqm
  have hg1' := Lib.hid hg1
  have hg2' := Lib.hid hg2
  clear hql hqm hg1 hg2
  go_enter Tryz.func19, Tryz.ntmps19
  go_wp2_with fail
  generalize hW0 : (w.alloc (.cells #[.slice A0 s.on.length c0, .slice A1 s.orders.length c1, .slice A2 s.holds.length c2, .slice A3 s.moves.length c3, .slice A4 s.inn.length c4, .slice A5 s.out.length c5, .slice A6 s.fixed.length c6] 31)).alloc (.cells #[.slice B0 s.on.length d0, .slice B1 s.orders.length d1, .slice B2 s.holds.length d2, .slice B3 s.moves.length d3, .slice B4 s.inn.length d4, .slice B5 s.out.length d5, .slice B6 s.fixed.length d6] 31) = W0 at hb0 hsz0 hz0 ⊢
  have hz0' := Lib.hid hz0
  clear hW0 hz0
  have hsz1 : w.heap.size < W0.heap.size := by omega
  have hKa := Lib.hid (fun W (hW : Below W0.heap.size W0 W) (j : Nat) (v : Value) (hj : [.slice A0 s.on.length c0, .slice A1 s.orders.length c1, .slice A2 s.holds.length c2, .slice A3 s.moves.length c3, .slice A4 s.inn.length c4, .slice A5 s.out.length c5, .slice A6 s.fixed.length c6][j]? = some v) => (hz0'.out.1.below hW hsz1).cell hj)
  have hKb := Lib.hid (fun W (hW : Below W0.heap.size W0 W) (j : Nat) (v : Value) (hj : [.slice B0 s.on.length d0, .slice B1 s.orders.length d1, .slice B2 s.holds.length d2, .slice B3 s.moves.length d3, .slice B4 s.inn.length d4, .slice B5 s.out.length d5, .slice B6 s.fixed.length d6][j]? = some v) => (hz0'.out.2.below hW hsz0).cell hj)
  have xa0 := hKa.out W0 (Below.refl W0.heap.size W0) 0 _ rfl
  have xb0 := hKb.out W0 (Below.refl W0.heap.size W0) 0 _ rfl
  have xa1 := hKa.out W0 (Below.refl W0.heap.size W0) 1 _ rfl
  have xb1 := hKb.out W0 (Below.refl W0.heap.size W0) 1 _ rfl
  have xa2 := hKa.out W0 (Below.refl W0.heap.size W0) 2 _ rfl
  have xb2 := hKb.out W0 (Below.refl W0.heap.size W0) 2 _ rfl
  have xa3 := hKa.out W0 (Below.refl W0.heap.size W0) 3 _ rfl
  have xb3 := hKb.out W0 (Below.refl W0.heap.size W0) 3 _ rfl
  have xa4 := hKa.out W0 (Below.refl W0.heap.size W0) 4 _ rfl
  have xb4 := hKb.out W0 (Below.refl W0.heap.size W0) 4 _ rfl
  have xa5 := hKa.out W0 (Below.refl W0.heap.size W0) 5 _ rfl
  have xb5 := hKb.out W0 (Below.refl W0.heap.size W0) 5 _ rfl
  have xa6 := hKa.out W0 (Below.refl W0.heap.size W0) 6 _ rfl
  have xb6 := hKb.out W0 (Below.refl W0.heap.size W0) 6 _ rfl
  have hbz0 := Nat.lt_of_lt_of_le hsz0 (show W0.heap.size ≤ (World.heap W0).size from Below.size (Below.refl W0.heap.size W0))
  have hbz1 := Nat.lt_of_lt_of_le hsz1 (show W0.heap.size ≤ (World.heap W0).size from Below.size (Below.refl W0.heap.size W0))
  go_wp2_with fail
  clear xa0 xb0 xa1 xb1 xa2 xb2 xa3 xb3 xa4 xb4 xa5 xb5 xa6 xb6 hbz0 hbz1
  refine (rSameRows _ _ _ s.on s.on (hNa.out _ hb0) (hNb.out _ hb0)).mono ?_
  rintro e W1 ⟨rfl, h1⟩
  rw [decide_eq_true (rfl : s.on = s.on)]
  have hB1 := hb0.trans (h1.mono hb0.size)
  have xa0 := hKa.out W1 h1 0 _ rfl
  have xb0 := hKb.out W1 h1 0 _ rfl
  have xa1 := hKa.out W1 h1 1 _ rfl
  have xb1 := hKb.out W1 h1 1 _ rfl
  have xa2 := hKa.out W1 h1 2 _ rfl
  have xb2 := hKb.out W1 h1 2 _ rfl
  have xa3 := hKa.out W1 h1 3 _ rfl
  have xb3 := hKb.out W1 h1 3 _ rfl
  have xa4 := hKa.out W1 h1 4 _ rfl
  have xb4 := hKb.out W1 h1 4 _ rfl
  have xa5 := hKa.out W1 h1 5 _ rfl
  have xb5 := hKb.out W1 h1 5 _ rfl
  have xa6 := hKa.out W1 h1 6 _ rfl
  have xb6 := hKb.out W1 h1 6 _ rfl
  have hbz0 := Nat.lt_of_lt_of_le hsz0 (show W0.heap.size ≤ (World.heap W1).size from Below.size h1)
  have hbz1 := Nat.lt_of_lt_of_le hsz1 (show W0.heap.size ≤ (World.heap W1).size from Below.size h1)
  go_wp2_with fail
  clear xa0 xb0 xa1 xb1 xa2 xb2 xa3 xb3 xa4 xb4 xa5 xb5 xa6 xb6 hbz0 hbz1
  refine (rSameHolds _ _ _ s.holds s.holds (hHa.out _ hB1) (hHb.out _ hB1)).mono ?_
  rintro e W2 ⟨rfl, h2⟩
  rw [decide_eq_true (rfl : s.holds = s.holds)]
  have h12 := h1.trans (h2.mono h1.size)
  have hB2 := hb0.trans (h12.mono hb0.size)
  have xa0 := hKa.out W2 h12 0 _ rfl
  have xb0 := hKb.out W2 h12 0 _ rfl
  have xa1 := hKa.out W2 h12 1 _ rfl
  have xb1 := hKb.out W2 h12 1 _ rfl
  have xa2 := hKa.out W2 h12 2 _ rfl
  have xb2 := hKb.out W2 h12 2 _ rfl
  have xa3 := hKa.out W2 h12 3 _ rfl
  have xb3 := hKb.out W2 h12 3 _ rfl
  have xa4 := hKa.out W2 h12 4 _ rfl
  have xb4 := hKb.out W2 h12 4 _ rfl
  have xa5 := hKa.out W2 h12 5 _ rfl
  have xb5 := hKb.out W2 h12 5 _ rfl
  have xa6 := hKa.out W2 h12 6 _ rfl
  have xb6 := hKb.out W2 h12 6 _ rfl
  have hbz0 := Nat.lt_of_lt_of_le hsz0 (show W0.heap.size ≤ (World.heap W2).size from Below.size h12)
  have hbz1 := Nat.lt_of_lt_of_le hsz1 (show W0.heap.size ≤ (World.heap W2).size from Below.size h12)
  go_wp2_with fail
  clear xa0 xb0 xa1 xb1 xa2 xb2 xa3 xb3 xa4 xb4 xa5 xb5 xa6 xb6 hbz0 hbz1
  refine (rSameInts _ _ _ s.inn s.inn (hIa.out _ hB2) (hIb.out _ hB2)).mono ?_
  rintro e W3 ⟨rfl, h3⟩
  rw [decide_eq_true (rfl : s.inn = s.inn)]
  have h13 := h12.trans (h3.mono h12.size)
  have hB3 := hb0.trans (h13.mono hb0.size)
  have xa0 := hKa.out W3 h13 0 _ rfl
  have xb0 := hKb.out W3 h13 0 _ rfl
  have xa1 := hKa.out W3 h13 1 _ rfl
  have xb1 := hKb.out W3 h13 1 _ rfl
  have xa2 := hKa.out W3 h13 2 _ rfl
  have xb2 := hKb.out W3 h13 2 _ rfl
  have xa3 := hKa.out W3 h13 3 _ rfl
  have xb3 := hKb.out W3 h13 3 _ rfl
  have xa4 := hKa.out W3 h13 4 _ rfl
  have xb4 := hKb.out W3 h13 4 _ rfl
  have xa5 := hKa.out W3 h13 5 _ rfl
  have xb5 := hKb.out W3 h13 5 _ rfl
  have xa6 := hKa.out W3 h13 6 _ rfl
  have xb6 := hKb.out W3 h13 6 _ rfl
  have hbz0 := Nat.lt_of_lt_of_le hsz0 (show W0.heap.size ≤ (World.heap W3).size from Below.size h13)
  have hbz1 := Nat.lt_of_lt_of_le hsz1 (show W0.heap.size ≤ (World.heap W3).size from Below.size h13)
  go_wp2_with fail
  clear xa0 xb0 xa1 xb1 xa2 xb2 xa3 xb3 xa4 xb4 xa5 xb5 xa6 xb6 hbz0 hbz1
  refine (rSameInts _ _ _ s.out s.out (hUa.out _ hB3) (hUb.out _ hB3)).mono ?_
  rintro e W4 ⟨rfl, h4⟩
  rw [decide_eq_true (rfl : s.out = s.out)]
  have h14 := h13.trans (h4.mono h13.size)
  have hB4 := hb0.trans (h14.mono hb0.size)
  have xa0 := hKa.out W4 h14 0 _ rfl
  have xb0 := hKb.out W4 h14 0 _ rfl
  have xa1 := hKa.out W4 h14 1 _ rfl
  have xb1 := hKb.out W4 h14 1 _ rfl
  have xa2 := hKa.out W4 h14 2 _ rfl
  have xb2 := hKb.out W4 h14 2 _ rfl
  have xa3 := hKa.out W4 h14 3 _ rfl
  have xb3 := hKb.out W4 h14 3 _ rfl
  have xa4 := hKa.out W4 h14 4 _ rfl
  have xb4 := hKb.out W4 h14 4 _ rfl
  have xa5 := hKa.out W4 h14 5 _ rfl
  have xb5 := hKb.out W4 h14 5 _ rfl
  have xa6 := hKa.out W4 h14 6 _ rfl
  have xb6 := hKb.out W4 h14 6 _ rfl
  have hbz0 := Nat.lt_of_lt_of_le hsz0 (show W0.heap.size ≤ (World.heap W4).size from Below.size h14)
  have hbz1 := Nat.lt_of_lt_of_le hsz1 (show W0.heap.size ≤ (World.heap W4).size from Below.size h14)
  go_wp2_with fail
  clear xa0 xb0 xa1 xb1 xa2 xb2 xa3 xb3 xa4 xb4 xa5 xb5 xa6 xb6 hbz0 hbz1
  refine (rSameInts _ _ _ s.fixed s.fixed (hXa.out _ hB4) (hXb.out _ hB4)).mono ?_
  rintro e W5 ⟨rfl, h5⟩
  rw [decide_eq_true (rfl : s.fixed = s.fixed)]
  have h15 := h14.trans (h5.mono h14.size)
  have hB5 := hb0.trans (h15.mono hb0.size)
  clear h1 h2 h3 h4 h5 h12 h13 h14 hB1 hB2 hB3 hB4
  have xa0 := hKa.out W5 h15 0 _ rfl
  have xb0 := hKb.out W5 h15 0 _ rfl
  have xa1 := hKa.out W5 h15 1 _ rfl
  have xb1 := hKb.out W5 h15 1 _ rfl
  have xa2 := hKa.out W5 h15 2 _ rfl
  have xb2 := hKb.out W5 h15 2 _ rfl
  have xa3 := hKa.out W5 h15 3 _ rfl
  have xb3 := hKb.out W5 h15 3 _ rfl
  have xa4 := hKa.out W5 h15 4 _ rfl
  have xb4 := hKb.out W5 h15 4 _ rfl
  have xa5 := hKa.out W5 h15 5 _ rfl
  have xb5 := hKb.out W5 h15 5 _ rfl
  have xa6 := hKa.out W5 h15 6 _ rfl
  have xb6 := hKb.out W5 h15 6 _ rfl
  have hbz0 := Nat.lt_of_lt_of_le hsz0 (show W0.heap.size ≤ (World.heap W5).size from Below.size h15)
  have hbz1 := Nat.lt_of_lt_of_le hsz1 (show W0.heap.size ≤ (World.heap W5).size from Below.size h15)
  go_wp2_with fail
  go_loopw [5, 6, 7, 8] (fun i _ _ _ wr => ∃ k : Nat, k ≤ s.orders.length ∧ i = .int .i64 k ∧ Below W0.heap.size W0 wr) (fun i _ _ _ _ => s.orders.length - (intOf i).toNat)
  case atStart => exact ⟨0, Nat.zero_le _, rfl, h15⟩
  case round =>
    clear xa0 xb0 xa1 xb1 xa2 xb2 xa3 xb3 xa4 xb4 xa5 xb5 xa6 xb6 hbz0 hbz1
    clear h15 hB5
    obtain ⟨k, hk, rfl, hbw⟩ := hrel
    have hB := hb0.trans (hbw.mono hb0.size)
    have xa0 := hKa.out wr hbw 0 _ rfl
    have xb0 := hKb.out wr hbw 0 _ rfl
    have xa1 := hKa.out wr hbw 1 _ rfl
    have xb1 := hKb.out wr hbw 1 _ rfl
    have xa2 := hKa.out wr hbw 2 _ rfl
    have xb2 := hKb.out wr hbw 2 _ rfl
    have xa3 := hKa.out wr hbw 3 _ rfl
    have xb3 := hKb.out wr hbw 3 _ rfl
    have xa4 := hKa.out wr hbw 4 _ rfl
    have xb4 := hKb.out wr hbw 4 _ rfl
    have xa5 := hKa.out wr hbw 5 _ rfl
    have xb5 := hKb.out wr hbw 5 _ rfl
    have xa6 := hKa.out wr hbw 6 _ rfl
    have xb6 := hKb.out wr hbw 6 _ rfl
    have hbz0 := Nat.lt_of_lt_of_le hsz0 (show W0.heap.size ≤ (World.heap wr).size from Below.size hbw)
    have hbz1 := Nat.lt_of_lt_of_le hsz1 (show W0.heap.size ≤ (World.heap wr).size from Below.size hbw)
    by_cases hlt : k < s.orders.length
    · obtain ⟨A', c', ok1, lA1, e0, e1, hsa⟩ := (hOa.out wr hB).order hlt
      obtain ⟨B', d', ok2, lB1, f0, f1, hsb⟩ := (hOb.out wr hB).order hlt
      go_wp2_with fail
      go_region_held3 (fun w' => w'.cell? ⟨w.heap.size, 1, none⟩ = some (.slice A1 s.orders.length c1) ∧ w'.cell? ⟨w.heap.size + 1, 1, none⟩ = some (.slice B1 s.orders.length d1) ∧ w'.cell? ⟨ablk A1, aoff A1 + k * 2, none⟩ = some (.int .i64 (orderAt s.orders k).kind) ∧ w'.cell? ⟨ablk A1, aoff A1 + k * 2 + 1, none⟩ = some (.slice A' (orderAt s.orders k).lines.length c') ∧
        w'.cell? ⟨ablk B1, aoff B1 + k * 2, none⟩ = some (.int .i64 (orderAt s.orders k).kind) ∧ w'.cell? ⟨ablk B1, aoff B1 + k * 2 + 1, none⟩ = some (.slice B' (orderAt s.orders k).lines.length d')) (first | go_keep) (fail)
      · generalize hWd : World.drew ((wr.alloc (.cells #[Value.int IntKind.i64 (orderAt s.orders k).kind, Value.slice A' (orderAt s.orders k).lines.length c'] 42)).alloc (.cells #[Value.int IntKind.i64 (orderAt s.orders k).kind, Value.slice B' (orderAt s.orders k).lines.length d'] 42)) = Wd
        have hbd : Below wr.heap.size wr Wd := by rw [← hWd]; exact (((Below.refl _ _).alloc (Nat.le_refl _) _).alloc (by simp) _).drew
        have hx : Blk Wd wr.heap.size 42 [.int .i64 (orderAt s.orders k).kind, .slice A' (orderAt s.orders k).lines.length c'] := by rw [← hWd]; exact ((Blk.new _ _ _).alloc _).drew
        have hy : Blk Wd (wr.heap.size + 1) 42 [.int .i64 (orderAt s.orders k).kind, .slice B' (orderAt s.orders k).lines.length d'] := by rw [← hWd]; exact Blk.two _ _ _ _ _
        have hBd := hB.trans (hbd.mono hB.size)
        have hbwd := hbw.trans (hbd.mono hbw.size)
        have hl3 := hsa.len
        have hsaU := Lib.hid (fun W (hW : Below wr.heap.size wr W) => hsa.up hW hW.size)
        have hsbU := Lib.hid (fun W (hW : Below wr.heap.size wr W) => hsb.up hW hW.size)
        clear hWd ok1 ok2 lA1 lB1 e0 e1 f0 f1 hsa hsb
        have hx0 := hx.cell (j := 0) rfl
        have hx1 := hx.cell (j := 1) rfl
        have hy0 := hy.cell (j := 0) rfl
        have hy1 := hy.cell (j := 1) rfl
        have hx' := Lib.hid hx
        have hy' := Lib.hid hy
        have hxl := hx.lt
        have hyl := hy.lt
        clear hx hy
        clear xa0 xb0 xa1 xb1 xa2 xb2 xa3 xb3 xa4 xb4 xa5 xb5 xa6 xb6 hbz0 hbz1
        go_wp2_with fail
        go_loopw [8] (fun i W => ∃ m : Nat, m ≤ (orderAt s.orders k).lines.length ∧ i = .int .i64 m ∧ Below Wd.heap.size Wd W) (fun i _ => (orderAt s.orders k).lines.length - (intOf i).toNat)
        case atStart => exact ⟨0, Nat.zero_le _, rfl, Below.refl _ _⟩
        case round =>
          clear hx0 hx1 hy0 hy1
          obtain ⟨m, hm, rfl, hbi⟩ := hrel
          have hx1 := (hx'.out.below hbi hxl).cell (j := 1) rfl
          have hy1 := (hy'.out.below hbi hyl).cell (j := 1) rfl
          have hxl2 := Nat.lt_of_lt_of_le hxl hbi.size
          have hyl2 := Nat.lt_of_lt_of_le hyl hbi.size
          by_cases hml : m < (orderAt s.orders k).lines.length
          · have hbi2 := hbd.trans (hbi.mono hbd.size)
            obtain ⟨o1, o2, o3, o4, o5, o6⟩ := (hsaU.out _ hbi2).at_.line hml
            obtain ⟨p1, p2, p3, p4, p5, p6⟩ := (hsbU.out _ hbi2).at_.line hml
            have hql := hql'.out
            have hg1 := hg1'.out
            go_wp2_with fail
            go_quiet (fail)
            go_wp2_with fail
            clear hql hg1
            go_roundw
            case rel => exact ⟨m + 1, by omega, by go_num, below_drewN hbi _⟩
            case measure => simp [intOf]; omega
          · obtain rfl : m = (orderAt s.orders k).lines.length := by omega
            go_wp2_with fail
            go_roundw
            case rel => exact ⟨k + 1, by omega, by go_num, hbwd.trans (hbi.mono hbwd.size)⟩
            case measure => simp [intOf]; omega
      · generalize hWd : World.drew ((wr.alloc (.cells #[Value.int IntKind.i64 (orderAt s.orders k).kind, Value.slice B' (orderAt s.orders k).lines.length d'] 42)).alloc (.cells #[Value.int IntKind.i64 (orderAt s.orders k).kind, Value.slice A' (orderAt s.orders k).lines.length c'] 42)) = Wd
        have hbd : Below wr.heap.size wr Wd := by rw [← hWd]; exact (((Below.refl _ _).alloc (Nat.le_refl _) _).alloc (by simp) _).drew
        have hx : Blk Wd (wr.heap.size + 1) 42 [.int .i64 (orderAt s.orders k).kind, .slice A' (orderAt s.orders k).lines.length c'] := by rw [← hWd]; exact Blk.two _ _ _ _ _
        have hy : Blk Wd wr.heap.size 42 [.int .i64 (orderAt s.orders k).kind, .slice B' (orderAt s.orders k).lines.length d'] := by rw [← hWd]; exact ((Blk.new _ _ _).alloc _).drew
        have hBd := hB.trans (hbd.mono hB.size)
        have hbwd := hbw.trans (hbd.mono hbw.size)
        have hl3 := hsa.len
        have hsaU := Lib.hid (fun W (hW : Below wr.heap.size wr W) => hsa.up hW hW.size)
        have hsbU := Lib.hid (fun W (hW : Below wr.heap.size wr W) => hsb.up hW hW.size)
        clear hWd ok1 ok2 lA1 lB1 e0 e1 f0 f1 hsa hsb
        have hx0 := hx.cell (j := 0) rfl
        have hx1 := hx.cell (j := 1) rfl
        have hy0 := hy.cell (j := 0) rfl
        have hy1 := hy.cell (j := 1) rfl
        have hx' := Lib.hid hx
        have hy' := Lib.hid hy
        have hxl := hx.lt
        have hyl := hy.lt
        clear hx hy
        clear xa0 xb0 xa1 xb1 xa2 xb2 xa3 xb3 xa4 xb4 xa5 xb5 xa6 xb6 hbz0 hbz1
        go_wp2_with fail
        go_loopw [8] (fun i W => ∃ m : Nat, m ≤ (orderAt s.orders k).lines.length ∧ i = .int .i64 m ∧ Below Wd.heap.size Wd W) (fun i _ => (orderAt s.orders k).lines.length - (intOf i).toNat)
        case atStart => exact ⟨0, Nat.zero_le _, rfl, Below.refl _ _⟩
        case round =>
          clear hx0 hx1 hy0 hy1
          obtain ⟨m, hm, rfl, hbi⟩ := hrel
          have hx1 := (hx'.out.below hbi hxl).cell (j := 1) rfl
          have hy1 := (hy'.out.below hbi hyl).cell (j := 1) rfl
          have hxl2 := Nat.lt_of_lt_of_le hxl hbi.size
          have hyl2 := Nat.lt_of_lt_of_le hyl hbi.size
          by_cases hml : m < (orderAt s.orders k).lines.length
          · have hbi2 := hbd.trans (hbi.mono hbd.size)
            obtain ⟨o1, o2, o3, o4, o5, o6⟩ := (hsaU.out _ hbi2).at_.line hml
            obtain ⟨p1, p2, p3, p4, p5, p6⟩ := (hsbU.out _ hbi2).at_.line hml
            have hql := hql'.out
            have hg1 := hg1'.out
            go_wp2_with fail
            go_quiet (fail)
            go_wp2_with fail
            clear hql hg1
            go_roundw
            case rel => exact ⟨m + 1, by omega, by go_num, below_drewN hbi _⟩
            case measure => simp [intOf]; omega
          · obtain rfl : m = (orderAt s.orders k).lines.length := by omega
            go_wp2_with fail
            go_roundw
            case rel => exact ⟨k + 1, by omega, by go_num, hbwd.trans (hbi.mono hbwd.size)⟩
            case measure => simp [intOf]; omega
    · obtain rfl : k = s.orders.length := by omega
      go_wp2_with fail
      go_loopw [9] (fun i wr => ∃ k : Nat, k ≤ s.moves.length ∧ i = .int .i64 k ∧ Below W0.heap.size W0 wr) (fun i _ => s.moves.length - (intOf i).toNat)
      case atStart => exact ⟨0, Nat.zero_le _, rfl, hbw⟩
      case round =>
        clear xa0 xb0 xa1 xb1 xa2 xb2 xa3 xb3 xa4 xb4 xa5 xb5 xa6 xb6 hbz0 hbz1
        clear hbw hB
        obtain ⟨k, hk, rfl, hbw⟩ := hrel
        have hB := hb0.trans (hbw.mono hb0.size)
        have xa0 := hKa.out wr hbw 0 _ rfl
        have xb0 := hKb.out wr hbw 0 _ rfl
        have xa1 := hKa.out wr hbw 1 _ rfl
        have xb1 := hKb.out wr hbw 1 _ rfl
        have xa2 := hKa.out wr hbw 2 _ rfl
        have xb2 := hKb.out wr hbw 2 _ rfl
        have xa3 := hKa.out wr hbw 3 _ rfl
        have xb3 := hKb.out wr hbw 3 _ rfl
        have xa4 := hKa.out wr hbw 4 _ rfl
        have xb4 := hKb.out wr hbw 4 _ rfl
        have xa5 := hKa.out wr hbw 5 _ rfl
        have xb5 := hKb.out wr hbw 5 _ rfl
        have xa6 := hKa.out wr hbw 6 _ rfl
        have xb6 := hKb.out wr hbw 6 _ rfl
        have hbz0 := Nat.lt_of_lt_of_le hsz0 (show W0.heap.size ≤ (World.heap wr).size from Below.size hbw)
        have hbz1 := Nat.lt_of_lt_of_le hsz1 (show W0.heap.size ≤ (World.heap wr).size from Below.size hbw)
        by_cases hlt : k < s.moves.length
        · obtain ⟨o1, o2, o3, o4, o5, o6⟩ := (hMa.out wr hB).at_.move hlt
          obtain ⟨p1, p2, p3, p4, p5, p6⟩ := (hMb.out wr hB).at_.move hlt
          have hqm := hqm'.out
          have hg2 := hg2'.out
          go_wp2_with fail
          go_quiet (fail)
          go_wp2_with fail
          clear hqm hg2
          go_roundw
          case rel => exact ⟨k + 1, by omega, by go_num, below_drewN hbw _⟩
          case measure => simp [intOf]; omega
        · obtain rfl : k = s.moves.length := by omega
          go_wp2_with fail
          go_ret
          exact ⟨rfl, hB⟩
end Wh
namespace Wh
open Go Go.RowKit Go.Shelf Go.Proofs
attribute [local go_sem] run_indexAt_letter

theorem line_parts (p : Plan) (x : Line) : (isGood p x.good = false ∧ lineOk p x = false) ∨ (isGood p x.good = true ∧ x.want < 1 ∧ lineOk p x = false) ∨ (isGood p x.good = true ∧ 1 ≤ x.want ∧ 200 < x.want ∧ lineOk p x = false) ∨
    (isGood p x.good = true ∧ 1 ≤ x.want ∧ x.want ≤ 200 ∧ x.got < 0 ∧ lineOk p x = false) ∨ (isGood p x.good = true ∧ 1 ≤ x.want ∧ x.want ≤ 200 ∧ 0 ≤ x.got ∧ x.want < x.got ∧ lineOk p x = false) ∨
    (isGood p x.good = true ∧ 1 ≤ x.want ∧ x.want ≤ 200 ∧ 0 ≤ x.got ∧ x.got ≤ x.want ∧ x.back < 0 ∧ lineOk p x = false) ∨ (isGood p x.good = true ∧ 1 ≤ x.want ∧ x.want ≤ 200 ∧ 0 ≤ x.got ∧ x.got ≤ x.want ∧ 0 ≤ x.back ∧ x.want < x.back ∧ lineOk p x = false) ∨
    (isGood p x.good = true ∧ 1 ≤ x.want ∧ x.want ≤ 200 ∧ 0 ≤ x.got ∧ x.got ≤ x.want ∧ 0 ≤ x.back ∧ x.back ≤ x.want ∧ lineOk p x = true) := by
  have h1 := @lineOk_iff p x
  have h2 := @isGood_iff p x.good
  cases hl : lineOk p x <;> cases hg : isGood p x.good <;> simp only [hl, hg, Bool.false_eq_true, false_iff, true_iff] at h1 h2 <;> simp only [reduceCtorEq, true_and, and_true, false_and, and_false, or_false, false_or] <;> omega

set_option maxHeartbeats 4000000 in
theorem sLine (w : World) (v : Value) (p : Plan) (x : Line) (hp : PlanV w w.heap.size v p) (hz : checkPlan p = 0) :
    Calls Tryz.prog 133 #[v, vLine x] w fun e w' => e = .returned (.bool (lineOk p x)) ∧ Below w.heap.size w w' := by
  have hP := hp
  obtain ⟨_, _, rfl, ⟨Ab, cb, rfl, hlb, hb⟩, ⟨As, cs, rfl, hls, hs⟩⟩ := hp
  have hb1 : isBin p 0 = true := isBin_iff.2 (by have := right_counts hz; omega)
  have hb0 : Below w.heap.size w ((w.alloc (.cells #[.slice Ab p.bins.length cb, .slice As p.sizes.length cs] 25)).alloc (.cells #[.int .i64 (x).good, .int .i64 (x).want, .int .i64 (x).got, .int .i64 (x).back] 44)) := ((Below.refl _ _).alloc (Nat.le_refl _) _).alloc (by simp) _
  unfold vLine
  rcases line_parts p x with ⟨g1, hf⟩ | ⟨g1, g2, hf⟩ | ⟨g1, g2, g3, hf⟩ | ⟨g1, g2, g3, g4, hf⟩ | ⟨g1, g2, g3, g4, g5, hf⟩ | ⟨g1, g2, g3, g4, g5, g6, hf⟩ | ⟨g1, g2, g3, g4, g5, g6, g7, hf⟩ | ⟨g1, g2, g3, g4, g5, g6, g7, hf⟩
  all_goals
    have hth : (isBin p 0 && isGood p x.good) = (isGood p x.good) := by rw [hb1]; rfl
    have hth' := Lib.hid hth
    clear hth
    have hf' := Lib.hid hf
    clear hf
    go_enter Tryz.func133, Tryz.ntmps133
    go_wp2_with fail
    refine (shThere _ _ p 0 x.good (hP.grow hb0)).mono ?_
    rintro e W1 ⟨rfl, hc1⟩
    have hB := hb0.trans (hc1.mono hb0.size)
    obtain ⟨ha1, hf1⟩ := bcell hc1
    rw [hth'.out, g1]
    go_wp2_with fail
    go_ret
    exact ⟨ret_bool (by rw [hf'.out] <;> first | rfl | (simp <;> omega)), hB⟩

set_option maxHeartbeats 2000000 in
theorem sSums (w : World) (v vl : Value) (p : Plan) (l : List Int) (lo : Int) (hp : PlanV w w.heap.size v p) (hl : Sl cInt w w.heap.size vl l) (hz : checkPlan p = 0) :
    Calls Tryz.prog 141 #[v, vl, .int .i64 lo] w fun e w' => e = .returned (.bool (sumsOk p l lo)) ∧ Below w.heap.size w w' := by
  have hP := hp
  obtain ⟨_, _, rfl, ⟨Ab, cb, rfl, hlb, hb⟩, ⟨As, cs, rfl, hls, hs⟩⟩ := hp
  have hL := hl
  obtain ⟨A, c, rfl, hll, hA⟩ := hl
  have hcnt := right_counts hz
  have hb0 : Below w.heap.size w (w.alloc (.cells #[.slice Ab p.bins.length cb, .slice As p.sizes.length cs] 25)) := (Below.refl _ _).alloc (Nat.le_refl _) _
  rcases sumsOk_bad (p := p) l lo (by omega) with ⟨h1, h⟩ | ⟨h1, h2, h⟩ | ⟨h1, h2, h3, h⟩ | ⟨h1, h2, h3, h⟩
  · have hne : ((l.length : Int) == (p.sizes.length : Int)) = false := by simp; omega
    have h' := Lib.hid h
    clear h h1
    go_enter Tryz.func141, Tryz.ntmps141
    go_wp2_with fail
    go_ret
    exact ⟨ret_bool (by rw [h'.out]), hb0⟩
  all_goals
    have hne : ((l.length : Int) == (p.sizes.length : Int)) = true := by simp; omega
    have hpos : 0 < l.length := by omega
    have h' := Lib.hid h
    clear h h1
    go_enter Tryz.func141, Tryz.ntmps141
    go_wp2_with (first | (go_at_call 128; refine (slMin _ _ l (hL.grow hb0) hpos).mono ?_; rintro e w' ⟨rfl, rfl⟩) | (go_at_call 129; refine (slMax _ _ l (hL.grow hb0) hpos).mono ?_; rintro e w' ⟨rfl, rfl⟩))
    go_ret
    exact ⟨ret_bool (by rw [h'.out] <;> first | rfl | (simp <;> omega)), hb0⟩

set_option maxHeartbeats 1000000 in
/-- formed's first closure: a line that may not be. -/
theorem sBadLine (p : Plan) (x : Line) (W : World) (B : Nat) (hz : checkPlan p = 0) (Ab As : Option Addr) (cb cs : Nat) (h0 : W.cell? ⟨B, 0, none⟩ = some (.slice Ab p.bins.length cb)) (h1 : W.cell? ⟨B, 1, none⟩ = some (.slice As p.sizes.length cs)) (hB : B < W.heap.size)
    (hP : PlanV W W.heap.size (.agg #[.slice Ab p.bins.length cb, .slice As p.sizes.length cs]) p) :
    Calls Tryz.prog 132 #[vLine x, .pointer (some ⟨B, 0, none⟩)] W fun e W' => e = .returned (.bool (!lineOk p x)) ∧ Below W.heap.size W W' := by
  have hb0 : Below W.heap.size W (W.alloc (.cells #[.int .i64 (x).good, .int .i64 (x).want, .int .i64 (x).got, .int .i64 (x).back] 44)) := (Below.refl _ _).alloc (Nat.le_refl _) _
  have hz' := Lib.hid hz
  clear hz
  unfold vLine
  go_enter Tryz.func132, Tryz.ntmps132
  go_wp2_with fail
  refine (sLine _ _ p x (hP.grow hb0) hz'.out).mono ?_
  rintro e W1 ⟨rfl, hc1⟩
  go_wp2_with fail
  go_ret
  exact ⟨rfl, hb0.trans (hc1.mono hb0.size)⟩
theorem entersBadLine : Enters Tryz.prog 132 := enters_of Tryz.func132 (by kernel_rfl) rfl

theorem holdIn_parts (p : Plan) (s : State) (h : Hold) : ((s.orders.length : Int) ≤ h.order ∧ holdIn p s h = false) ∨ (h.order < s.orders.length ∧ ((s.order h.order.toNat).lines.length : Int) ≤ h.line ∧ holdIn p s h = false) ∨
    (h.order < s.orders.length ∧ h.line < (s.order h.order.toNat).lines.length ∧ (p.bins.length : Int) ≤ h.bin ∧ holdIn p s h = false) ∨ (h.order < s.orders.length ∧ h.line < (s.order h.order.toNat).lines.length ∧ h.bin < p.bins.length ∧ holdIn p s h = true) := by
  have h1 := @holdIn_iff p s h
  cases hl : holdIn p s h <;> simp only [hl, Bool.false_eq_true, false_iff, true_iff] at h1 <;> simp only [reduceCtorEq, and_true, and_false, or_false, false_or] <;> omega

set_option maxHeartbeats 4000000 in
/-- formed's second closure: is there such a line, and such a bin? -/
theorem sHoldIn (p : Plan) (s : State) (h : Hold) (W : World) (Bs Bp : Nat) (A1 Ab : Option Addr) (c1 cb : Nat) (hs1 : W.cell? ⟨Bs, 1, none⟩ = some (.slice A1 s.orders.length c1)) (hp0 : W.cell? ⟨Bp, 0, none⟩ = some (.slice Ab p.bins.length cb)) (hBs : Bs < W.heap.size) (hBp : Bp < W.heap.size)
    (hO : SlOrders W W.heap.size (.slice A1 s.orders.length c1) s.orders) (h0 : 0 ≤ h.order) (h72 : s.orders.length ≤ 1000) (hl72 : ∀ o, o < s.orders.length → (orderAt s.orders o).lines.length ≤ 1000) :
    Calls Tryz.prog 134 #[vHold h, .pointer (some ⟨Bs, 0, none⟩), .pointer (some ⟨Bp, 0, none⟩)] W fun e W' => e = .returned (.bool (holdIn p s h)) ∧ Below W.heap.size W W' := by
  have hb0 : Below W.heap.size W (W.alloc (.cells #[.int .i64 (h).order, .int .i64 (h).line, .int .i64 (h).bin, .int .i64 (h).n] 46)) := (Below.refl _ _).alloc (Nat.le_refl _) _
  have hlW : W.heap.size < (W.alloc (.cells #[.int .i64 (h).order, .int .i64 (h).line, .int .i64 (h).bin, .int .i64 (h).n] 46)).heap.size := by simp
  have q0 := fun o d os => cells_wld (w := W.alloc (.cells #[.int .i64 (h).order, .int .i64 (h).line, .int .i64 (h).bin, .int .i64 (h).n] 46)) (b := Bs) (by simp; omega) o d os
  have q1 := fun o d os => cells_wld (w := W.alloc (.cells #[.int .i64 (h).order, .int .i64 (h).line, .int .i64 (h).bin, .int .i64 (h).n] 46)) (b := Bp) (by simp; omega) o d os
  have q2 := fun o d os => cells_wld (w := W.alloc (.cells #[.int .i64 (h).order, .int .i64 (h).line, .int .i64 (h).bin, .int .i64 (h).n] 46)) (b := W.heap.size) hlW o d os
  unfold vHold
  rcases holdIn_parts p s h with ⟨g1, hf⟩ | ⟨g1, g2, hf⟩ | ⟨g1, g2, g3, hf⟩ | ⟨g1, g2, g3, hf⟩
  · have hf' := Lib.hid hf
    have d1 : decide (h.order < (s.orders.length : Int)) = false := by simpa using g1
    clear hf hl72
    go_enter Tryz.func134, Tryz.ntmps134
    go_wp2_with fail
    refine wp_region_wld (by kernel_rfl) (by kernel_rfl) ?_
    repeat (go_big_quiet_step (fail))
    refine wpQuiet_nil ?_
    intro W2 hw'
    have hb2 := below_of_cls hw'
    clear hw'
    go_wp2_with fail
    go_ret
    exact ⟨ret_bool (by rw [hf'.out]), hb0.trans (hb2.mono hb0.size)⟩
  · have hf' := Lib.hid hf
    have hol : h.order.toNat < s.orders.length := by omega
    obtain ⟨A', c', hok1, hAb1, _, e1, hsl⟩ := hO.order hol
    have hll := hl72 _ hol
    unfold State.order at g2
    have q3 := fun o d os => cells_wld (w := W.alloc (.cells #[.int .i64 (h).order, .int .i64 (h).line, .int .i64 (h).bin, .int .i64 (h).n] 46)) (b := ablk A1) (by simp; omega) o d os
    have d1 : decide (h.order < (s.orders.length : Int)) = true := by simpa using g1
    have d2 : decide (h.line < ((orderAt s.orders h.order.toNat).lines.length : Int)) = false := by simpa using g2
    clear hf hl72
    go_enter Tryz.func134, Tryz.ntmps134
    go_wp2_with fail
    refine wp_region_wld (by kernel_rfl) (by kernel_rfl) ?_
    repeat (go_big_quiet_step (fail))
    refine wpQuiet_nil ?_
    intro W2 hw'
    have hb2 := below_of_cls hw'
    clear hw'
    go_wp2_with fail
    go_ret
    exact ⟨ret_bool (by rw [hf'.out] <;> first | rfl | (simp <;> omega)), hb0.trans (hb2.mono hb0.size)⟩
  · have hf' := Lib.hid hf
    have hol : h.order.toNat < s.orders.length := by omega
    obtain ⟨A', c', hok1, hAb1, _, e1, hsl⟩ := hO.order hol
    have hll := hl72 _ hol
    unfold State.order at g2
    have q3 := fun o d os => cells_wld (w := W.alloc (.cells #[.int .i64 (h).order, .int .i64 (h).line, .int .i64 (h).bin, .int .i64 (h).n] 46)) (b := ablk A1) (by simp; omega) o d os
    have d1 : decide (h.order < (s.orders.length : Int)) = true := by simpa using g1
    have d2 : decide (h.line < ((orderAt s.orders h.order.toNat).lines.length : Int)) = true := by simpa using g2
    have d3 : decide (h.bin < (p.bins.length : Int)) = false := by simpa using g3
    clear hf hl72
    go_enter Tryz.func134, Tryz.ntmps134
    go_wp2_with fail
    refine wp_region_wld (by kernel_rfl) (by kernel_rfl) ?_
    repeat (go_big_quiet_step (fail))
    refine wpQuiet_nil ?_
    intro W2 hw'
    have hb2 := below_of_cls hw'
    clear hw'
    go_wp2_with fail
    go_ret
    exact ⟨ret_bool (by rw [hf'.out] <;> first | rfl | (simp <;> omega)), hb0.trans (hb2.mono hb0.size)⟩
  · have hf' := Lib.hid hf
    have hol : h.order.toNat < s.orders.length := by omega
    obtain ⟨A', c', hok1, hAb1, _, e1, hsl⟩ := hO.order hol
    have hll := hl72 _ hol
    unfold State.order at g2
    have q3 := fun o d os => cells_wld (w := W.alloc (.cells #[.int .i64 (h).order, .int .i64 (h).line, .int .i64 (h).bin, .int .i64 (h).n] 46)) (b := ablk A1) (by simp; omega) o d os
    have d1 : decide (h.order < (s.orders.length : Int)) = true := by simpa using g1
    have d2 : decide (h.line < ((orderAt s.orders h.order.toNat).lines.length : Int)) = true := by simpa using g2
    have d3 : decide (h.bin < (p.bins.length : Int)) = true := by simpa using g3
    clear hf hl72
    go_enter Tryz.func134, Tryz.ntmps134
    go_wp2_with fail
    refine wp_region_wld (by kernel_rfl) (by kernel_rfl) ?_
    repeat (go_big_quiet_step (fail))
    refine wpQuiet_nil ?_
    intro W2 hw'
    have hb2 := below_of_cls hw'
    clear hw'
    go_wp2_with fail
    go_ret
    exact ⟨ret_bool (by rw [hf'.out] <;> first | rfl | (simp <;> omega)), hb0.trans (hb2.mono hb0.size)⟩
end Wh
