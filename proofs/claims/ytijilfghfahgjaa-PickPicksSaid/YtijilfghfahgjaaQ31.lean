/- Texts of the claim, joined: OpenS, Choose, AllocN, WaveF. -/
import Derived.Test.YtijilfghfahgjaaQ30
import Derived.Test.YtijilfghfahgjaaQ04
import Derived.Test.YtijilfghfahgjaaQ29
import Derived.Test.YtijilfghfahgjaaQ11
namespace Wh
open Go Go.RowKit Go.ChangeShapes Go.WideShapes Go.Deep Go.Proofs
instance : Inhabited Line := ⟨dLine⟩
instance : Inhabited Move := ⟨dMove⟩
instance : Inhabited Order := ⟨dOrder⟩

theorem u_lines : Try.prog.underlying 51 = some (.slice 56) := by kernel_rfl
theorem u_moves : Try.prog.underlying 29 = some (.slice 40) := by kernel_rfl
theorem u_orders : Try.prog.underlying 27 = some (.slice 53) := by kernel_rfl
theorem b_line : 0 < Try.prog.bytesOf 56 := of_decide_eq_true (by kernel_rfl)
theorem s_line : Try.prog.underlying 56 = some (.struct (structFields Try.prog 56)) := fields_eq (by kernel_rfl)
theorem o_line : oneCellFields Try.prog (structFields Try.prog 56) = true := by kernel_rfl
theorem n_line : (structFields Try.prog 56).size = 4 := by kernel_rfl
theorem c_line : Try.prog.cellsOf 56 = 4 := by kernel_rfl
theorem f_line : (structFields Try.prog 56).toList.map (·.type) = [3, 3, 3, 3] := by kernel_rfl
theorem b_move : 0 < Try.prog.bytesOf 40 := of_decide_eq_true (by kernel_rfl)
theorem s_move : Try.prog.underlying 40 = some (.struct (structFields Try.prog 40)) := fields_eq (by kernel_rfl)
theorem o_move : oneCellFields Try.prog (structFields Try.prog 40) = true := by kernel_rfl
theorem n_move : (structFields Try.prog 40).size = 4 := by kernel_rfl
theorem c_move : Try.prog.cellsOf 40 = 4 := by kernel_rfl
theorem f_move : (structFields Try.prog 40).toList.map (·.type) = [3, 3, 3, 3] := by kernel_rfl
theorem b_order : 0 < Try.prog.bytesOf 53 := of_decide_eq_true (by kernel_rfl)
theorem s_order : Try.prog.underlying 53 = some (.struct (structFields Try.prog 53)) := fields_eq (by kernel_rfl)
theorem o_order : oneCellFields Try.prog (structFields Try.prog 53) = true := by kernel_rfl
theorem n_order : (structFields Try.prog 53).size = 2 := by kernel_rfl
theorem c_order : Try.prog.cellsOf 53 = 2 := by kernel_rfl
theorem f_order : (structFields Try.prog 53).toList.map (·.type) = [3, 51] := by kernel_rfl
theorem s_state : Try.prog.underlying 31 = some (.struct (structFields Try.prog 31)) := fields_eq (by kernel_rfl)
theorem o_state : oneCellFields Try.prog (structFields Try.prog 31) = true := by kernel_rfl
theorem n_state : (structFields Try.prog 31).size = 7 := by kernel_rfl
theorem c_state : Try.prog.cellsOf 31 = 7 := by kernel_rfl
theorem f_state : (structFields Try.prog 31).toList.map (·.type) = [26, 27, 28, 29, 23, 23, 23] := by kernel_rfl

section
variable {H : Type} {en : TypeId × Value → H} {w : World} {base : Nat} {sp : Nat → Bool} {hd : Bool}
theorem Rt.line {cs : List Value} (hl : cs.length = 4) (h : Rt en w base sp hd 56 cs) : ∃ x, cs = cLine x := by
  obtain ⟨a, b, c, d, rfl⟩ := Rt.four_ints s_line o_line (c_line.trans n_line.symm) f_line hl h
  exact ⟨⟨a, b, c, d⟩, rfl⟩
theorem Rt.move {cs : List Value} (hl : cs.length = 4) (h : Rt en w base sp hd 40 cs) : ∃ x, cs = cMove x := by
  obtain ⟨a, b, c, d, rfl⟩ := Rt.four_ints s_move o_move (c_move.trans n_move.symm) f_move hl h
  exact ⟨⟨a, b, c, d⟩, rfl⟩
theorem Rt.lines {cs : List Value} (h : Rt en w base sp hd 51 cs) : ∃ v l, cs = [v] ∧ Sl cLine w w.heap.size v l :=
  Rd.sl u_lines c_line b_line (fun _ => rfl) (by decide) (fun _ hl h => Rt.line hl h) h
theorem Rt.moves {cs : List Value} (h : Rt en w base sp hd 29 cs) : ∃ v l, cs = [v] ∧ Sl cMove w w.heap.size v l :=
  Rd.sl u_moves c_move b_move (fun _ => rfl) (by decide) (fun _ hl h => Rt.move hl h) h
theorem Rt.order {cs : List Value} (hl : cs.length = 2) (h : Rt en w base sp hd 53 cs) : ∃ (v : Value) (x : Order), cs = [.int .i64 x.kind, v] ∧ Sl cLine w w.heap.size v x.lines := by
  match cs, hl with
  | [v0, v1], _ =>
    obtain ⟨x0, e0, r0⟩ := h.field s_order o_order (c_order.trans n_order.symm) f_order 0 _ rfl
    obtain ⟨x1, e1, r1⟩ := h.field s_order o_order (c_order.trans n_order.symm) f_order 1 _ rfl
    obtain rfl := Option.some.inj e0
    obtain rfl := Option.some.inj e1
    obtain ⟨b0, q0⟩ := r0.int u_int
    obtain ⟨_, l1, q1, hs1⟩ := Rt.lines r1
    obtain rfl := (List.cons.inj q0).1
    obtain rfl := (List.cons.inj q1).1
    exact ⟨_, ⟨b0, l1⟩, rfl, hs1⟩
theorem Rt.orders {cs : List Value} (h : Rt en w base sp hd 27 cs) : ∃ v l, cs = [v] ∧ SlOrders w w.heap.size v l := by
  obtain ⟨A, c, l, vs, rfl, h1, h2, h3, h4⟩ := Rd.cells (α := Order) (k := 2) (enc := fun v x => [.int .i64 x.kind, v]) (Q := fun v x => Sl cLine w w.heap.size v x.lines) u_orders c_order b_order (fun _ _ => rfl) (by decide) (fun cs' hl h => Rt.order hl h) h
  exact ⟨_, l, rfl, A, c, vs, rfl, h1, h2, h3, h4⟩
theorem Rt.state {cs : List Value} (hl : cs.length = 7) (h : Rt en w base sp hd 31 cs) : ∃ s, StateV w w.heap.size (.agg cs.toArray) s := by
  match cs, hl with
  | [v0, v1, v2, v3, v4, v5, v6], _ =>
    obtain ⟨x0, e0, r0⟩ := h.field s_state o_state (c_state.trans n_state.symm) f_state 0 _ rfl
    obtain ⟨x1, e1, r1⟩ := h.field s_state o_state (c_state.trans n_state.symm) f_state 1 _ rfl
    obtain ⟨x2, e2, r2⟩ := h.field s_state o_state (c_state.trans n_state.symm) f_state 2 _ rfl
    obtain ⟨x3, e3, r3⟩ := h.field s_state o_state (c_state.trans n_state.symm) f_state 3 _ rfl
    obtain ⟨x4, e4, r4⟩ := h.field s_state o_state (c_state.trans n_state.symm) f_state 4 _ rfl
    obtain ⟨x5, e5, r5⟩ := h.field s_state o_state (c_state.trans n_state.symm) f_state 5 _ rfl
    obtain ⟨x6, e6, r6⟩ := h.field s_state o_state (c_state.trans n_state.symm) f_state 6 _ rfl
    obtain rfl := Option.some.inj e0
    obtain rfl := Option.some.inj e1
    obtain rfl := Option.some.inj e2
    obtain rfl := Option.some.inj e3
    obtain rfl := Option.some.inj e4
    obtain rfl := Option.some.inj e5
    obtain rfl := Option.some.inj e6
    obtain ⟨_, l0, q0, hs0⟩ := Rt.rows r0
    obtain ⟨_, l1, q1, hs1⟩ := Rt.orders r1
    obtain ⟨_, l2, q2, hs2⟩ := Rt.holds r2
    obtain ⟨_, l3, q3, hs3⟩ := Rt.moves r3
    obtain ⟨_, l4, q4, hs4⟩ := Rt.ints r4
    obtain ⟨_, l5, q5, hs5⟩ := Rt.ints r5
    obtain ⟨_, l6, q6, hs6⟩ := Rt.ints r6
    obtain rfl := (List.cons.inj q0).1
    obtain rfl := (List.cons.inj q1).1
    obtain rfl := (List.cons.inj q2).1
    obtain rfl := (List.cons.inj q3).1
    obtain rfl := (List.cons.inj q4).1
    obtain rfl := (List.cons.inj q5).1
    obtain rfl := (List.cons.inj q6).1
    exact ⟨⟨l0, l1, l2, l3, l4, l5, l6⟩, _, _, _, _, _, _, _, rfl, hs0, hs1, hs2, hs3, hs4, hs5, hs6⟩
set_option maxRecDepth 100000 in
theorem state_of {b0 : Nat} {r : Reach} {v : Value} (hv : Value.okWide Try.prog w r b0 31 v) (h : Rt en w base sp hd 31 v.cells.toList) : ∃ s, StateV w w.heap.size v s := by
  obtain ⟨cs, rfl, hsz⟩ := okWide_struct s_state hv
  obtain ⟨s, hs⟩ := Rt.state (by simpa [Value.cells] using hsz.trans c_state) h
  exact ⟨s, by simpa [Value.cells] using hs⟩
end
end Wh
namespace Wh
open Go Go.RowKit Go.Shelf Go.Proofs
def chosen (c : Int) (n : Nat) : Nat := ((if c < 0 then -(c + 1) else c).tmod n).toNat
theorem chosen_lt (c : Int) {n : Nat} (hn : 0 < n) : chosen c n < n := by
  unfold chosen
  have h : 0 ≤ (if c < 0 then -(c + 1) else c) := by split <;> omega
  generalize (if c < 0 then -(c + 1) else c) = d at h
  have h1 := Int.tmod_lt_of_pos d (show (0 : Int) < n by omega)
  have h2 := Int.tmod_nonneg (n : Int) h
  omega
theorem lChoose (w : World) (c : Int) (n : Nat) (hn : 0 < n) (hn2 : n ≤ 1000000000) (hc : -9223372036854775808 ≤ c ∧ c ≤ 9223372036854775807) :
    Calls Try.prog 19 #[.int .i64 c, .int .i64 n] w fun e w' => e = .returned (.int .i64 (chosen c n)) ∧ w = w' := by
  have hne : ((n : Int) == 0) = false := by simp; omega
  by_cases h : c < 0
  · have e1 : ((chosen c n : Nat) : Int) = (-(c + 1)).tmod n := by
      unfold chosen
      rw [if_pos h, Int.toNat_of_nonneg (Int.tmod_nonneg _ (by omega))]
    have hw1 : IntKind.i64.wrap (c + 1) = c + 1 := IntWalk.i64_in _ (by omega)
    have hw2 : IntKind.i64.wrap (-(c + 1)) = -(c + 1) := IntWalk.i64_in _ (by omega)
    have e2 := Lib.hid e1
    clear e1
    go_enter Try.func19, Try.ntmps19
    go_wp2_with fail
    go_ret
    exact ⟨ret_int (by rw [e2.out, Int.neg_tmod]), rfl⟩
  · have e1 : ((chosen c n : Nat) : Int) = c.tmod n := by
      unfold chosen
      rw [if_neg h, Int.toNat_of_nonneg (Int.tmod_nonneg _ (by omega))]
    have e2 := Lib.hid e1
    clear e1
    go_enter Try.func19, Try.ntmps19
    go_wp2_with fail
    go_ret
    exact ⟨ret_int (by rw [e2.out, Int.tmod_eq_emod_of_nonneg (by omega)]), rfl⟩
end Wh
namespace Wh
open Go Go.RowKit Go.Shelf Go.Proofs
attribute [local go_sem] run_indexAt_letter evL_tmp evL_const evL_func

theorem StateV.holdsV {w : World} {B : Nat} {V : SV} {s : State} (h : StateV w B V.val s) : Sl cHold w B V.holds s.holds := by
  obtain ⟨v0, v1, v2, v3, v4, v5, v6, e, _, _, h0, _⟩ := h
  unfold SV.val at e
  injection e with e
  simp only [Array.mk.injEq, List.cons.injEq, and_true] at e
  rw [e.2.2.1]
  exact h0
theorem hdKeptAt (w : World) (v : Value) (l : List Hold) (o ln : Int) (hok : holdsOk l = true) (hv : Sl cHold w w.heap.size v l) :
    Calls Try.prog 25 #[v, .int .i64 o, .int .i64 ln] w fun e w' => e = .returned (.tuple #[.int .i64 (kept l o ln), .int .i64 0]) ∧ Below w.heap.size w w' := by
  have := hdKept w v l o ln hv
  rwa [keptE_ok hok] at this

end Wh
namespace Wh
open Go Go.RowKit Go.Shelf Go.Proofs
attribute [local go_sem] run_indexAt_letter evL_tmp evL_const evL_func

theorem wvRelAt {p : Plan} {s x : State} {c : Int} (h : release p s = (x, c)) (w : World) (v vs : Value) (hp : PlanV w w.heap.size v p) (hv : StateV w w.heap.size vs s) :
    Calls Try.prog 26 #[v, vs] w fun e w' => ∃ V : SV, e = .returned (.tuple #[V.val, .int .i64 c]) ∧ OwnSt w' w.heap.size V x ∧ Below w.heap.size w w' := by
  have := wvRelease w v vs p s hp hv
  rw [h] at this
  exact this
theorem wvCanAt {p : Plan} {s x : State} {o c : Int} (h : cancel p s o = (x, c)) (w : World) (v vs : Value) (hp : PlanV w w.heap.size v p) (hv : StateV w w.heap.size vs s) :
    Calls Try.prog 27 #[v, vs, .int .i64 o] w fun e w' => ∃ V : SV, e = .returned (.tuple #[V.val, .int .i64 c]) ∧ OwnSt w' w.heap.size V x ∧ Below w.heap.size w w' := by
  have := wvCancel w v vs p s o hp hv
  rw [h] at this
  exact this
theorem rSameAt (w : World) (va vb : Value) (a : State) (ha : StateV w w.heap.size va a) (hb : StateV w w.heap.size vb a) : Calls Try.prog 18 #[va, vb] w fun e w' => e = .returned (.bool true) ∧ Below w.heap.size w w' :=
  rSameStates w va vb a ha hb

set_option maxHeartbeats 20000000 in
set_option maxRecDepth 100000 in
theorem waveTrueWalk (w : World) (v vs : Value) (p : Plan) (s : State) (o bn : Int) (hp : PlanV w w.heap.size v p) (hv : StateV w w.heap.size vs s) (hbn : -9223372036854775808 ≤ bn ∧ bn ≤ 9223372036854775807) :
    Calls Try.prog 11 #[v, vs, .int .i64 o, .int .i64 bn] w fun e w' => e = .returned (.bool true) ∧ Below w.heap.size w w' := by
  by_cases hc : checkState p s = 0
  · have hcs := Lib.hid hc
    obtain ⟨a, ha⟩ : ∃ a, releaseS p s = a := ⟨_, rfl⟩
    have hra := Lib.hid (show release p s = (a, 0) by rw [release_ok hc, ha])
    have hca := Lib.hid (show checkState p a = 0 by rw [← ha]; exact release_check hc)
    have hag := Lib.hid (show release p a = (a, 0) by rw [release_ok hca.out, ← ha, release_again hc])
    have hal := Lib.hid (show a.orders.length = s.orders.length by rw [← ha]; exact release_len hc)
    have hkd := Lib.hid (show ∀ o, o < a.orders.length → (a.order o).kind ≠ 0 from fun o ho => by
      rw [hal.out] at ho
      rw [← ha]
      exact release_kind hc ho)
    have hdn := Lib.hid (show ∀ o k b : Nat, o < a.orders.length → k < (a.order o).lines.length → b < p.bins.length → (a.order o).kind = 1 → 0 < (a.line o k).back → avail a b (a.line o k).good = 0 from fun o k b ho hk hb h1 h2 => by
      rw [hal.out] at ho
      rw [← ha] at hk h1 h2 ⊢
      exact release_done hc ho hk hb h1 h2)
    have hsn := Lib.hid (checkState_zero.1 hca.out).1
    have hbn' := Lib.hid hbn
    have hcnt := hsn.out.counts
    have hnz : ((p.bins.length : Int) == 0) = false := beq_eq_false_iff_ne.2 (by omega)
    have hb1' : 0 < p.bins.length ∧ p.bins.length ≤ 6 := ⟨by omega, hcnt.2.1⟩
    clear hc ha hbn hcnt
    obtain ⟨Ab, cb, As, cs, rfl, hP', hBn, hSz, hlb, hls⟩ := openPl hp
    obtain ⟨A0, c0, A1, c1, A2, c2, A3, c3, A4, c4, A5, c5, A6, c6, rfl, hV, hN, hO, hH, hM, hI, hU, hX, hl0, hl1, hl2, hl3, hl4, hl5, hl6⟩ := openOne hv
    go_enter Try.func11, Try.ntmps11
    go_wp2_with fail
    obtain ⟨W0, hW0, hb0, hsz0, hsz1, hsE, hK⟩ := boxesTwo w p s Ab cb As cs A0 c0 A1 c1 A2 c2 A3 c3 A4 c4 A5 c5 A6 c6
    rw [hW0]
    clear hW0
    obtain ⟨⟨y0, y1⟩, x0, x1, x2, x3, x4, x5, x6, hbz0, hbz1⟩ := hK.out W0 (Below.refl W0.heap.size W0)
    go_wp2_with fail
    clear y0 y1 x0 x1 x2 x3 x4 x5 x6 hbz0 hbz1
    refine (wvRelAt hra.out _ _ _ (hP'.out _ hb0) (hV.out _ hb0)).mono ?_
    rintro e W1 ⟨V1, rfl, ho1, hb1⟩
    have hone2 := (ho1).one
    have hnb2 := newBox (W1)
    go_wp2_with (refine wpList_store_state rfl (.tmp 9) (.tmp 31) rfl rfl (World.heap (W1)).size nilSV V1 hnb2 rfl rfl hone2 (fun w2 hbox2 hg2 => ?_); refine Hid.out ?_)
    unfold Hid
    have hbb2 := newBelow hg2
    have hbl2 := hbox2.lt
    clear hone2 hnb2 hg2
    have h02 := hb1.trans (hbb2.mono hb1.size)
    have hB2 := hb0.trans (h02.mono hb0.size)
    have hO2 := Lib.hid (ho1.below hbb2)
    have hv2 := Lib.hid (hO2.out.view0 (check_small hca.out))
    have hbox2' := Lib.hid hbox2
    clear hbox2 ho1 hb1 hbb2
    obtain ⟨⟨y0, y1⟩, x0, x1, x2, x3, x4, x5, x6, hbz0, hbz1⟩ := hK.out w2 (h02)
    obtain ⟨p0, p1, p2, p3, p4, p5, p6⟩ := hbox2'.out.cells
    go_wp2_with fail
    clear y0 y1 x0 x1 x2 x3 x4 x5 x6 hbz0 hbz1
    clear p0 p1 p2 p3 p4 p5 p6
    refine (wvRelAt hag.out _ _ _ (hP'.out _ hB2) hv2.out).mono ?_
    rintro e W3 ⟨V3, rfl, ho3, hb3⟩
    have hone4 := (ho3).one
    have hnb4 := newBox (W3)
    go_wp2_with (refine wpList_store_state rfl (.tmp 11) (.tmp 40) rfl rfl (World.heap (W3)).size nilSV V3 hnb4 rfl rfl hone4 (fun w4 hbox4 hg4 => ?_); refine Hid.out ?_)
    unfold Hid
    have hbb4 := newBelow hg4
    have hbl4 := hbox4.lt
    clear hone4 hnb4 hg4
    have h24 := hb3.trans (hbb4.mono hb3.size)
    have h04 := h02.trans (h24.mono h02.size)
    have hB4 := hb0.trans (h04.mono hb0.size)
    have hv4 := Lib.hid ((ho3.below hbb4).view0 (check_small hca.out))
    have hbox4' := Lib.hid hbox4
    clear hbox4 ho3 hb3 hbb4
    obtain ⟨⟨y0, y1⟩, x0, x1, x2, x3, x4, x5, x6, hbz0, hbz1⟩ := hK.out w4 (h04)
    obtain ⟨p0, p1, p2, p3, p4, p5, p6⟩ := (hbox2'.out.below h24 hbl2).cells
    go_wp2_with fail
    clear y0 y1 x0 x1 x2 x3 x4 x5 x6 hbz0 hbz1
    clear p0 p1 p2 p3 p4 p5 p6
    refine (sCheckAt _ _ _ (hP'.out _ hB4) (hv2.out.grow h24) hca.out).mono ?_
    rintro e W5 ⟨rfl, h5⟩
    have h25 := h24.trans (h5.mono h24.size)
    have h05 := h02.trans (h25.mono h02.size)
    have hB5 := hb0.trans (h05.mono hb0.size)
    obtain ⟨⟨y0, y1⟩, x0, x1, x2, x3, x4, x5, x6, hbz0, hbz1⟩ := hK.out W5 (h05)
    obtain ⟨p0, p1, p2, p3, p4, p5, p6⟩ := (hbox2'.out.below h25 hbl2).cells
    obtain ⟨q0, q1, q2, q3, q4, q5, q6⟩ := (hbox4'.out.below h5 hbl4).cells
    go_wp2_with fail
    clear y0 y1 x0 x1 x2 x3 x4 x5 x6 hbz0 hbz1
    clear p0 p1 p2 p3 p4 p5 p6 q0 q1 q2 q3 q4 q5 q6
    refine (rSameAt _ _ _ a (hv2.out.grow h25) (hv4.out.grow h5)).mono ?_
    rintro e W6 ⟨rfl, h6⟩
    have h26 := h25.trans (h6.mono h25.size)
    have h06 := h02.trans (h26.mono h02.size)
    have hB6 := hb0.trans (h06.mono hb0.size)
    obtain ⟨⟨y0, y1⟩, x0, x1, x2, x3, x4, x5, x6, hbz0, hbz1⟩ := hK.out W6 (h06)
    clear hbox4' hv4 h24 h04 hB4 h25 h05 hB5 h5 h6 hbl4
    go_wp2_with fail
    clear y0 y1 x0 x1 x2 x3 x4 x5 x6 hbz0 hbz1
    refine (lChoose _ bn p.bins.length (by omega) (by omega) hbn'.out).mono ?_
    rintro e w' ⟨rfl, rfl⟩
    have hbc := chosen_lt bn (n := p.bins.length) (by omega)
    generalize chosen bn p.bins.length = b at hbc ⊢
    clear hnz hbn' hag
    obtain ⟨Ao, co, hvo⟩ := hO2.out.ordersSlice
    have h4 := hsn.out.orders4
    obtain ⟨b0, b1, b2, b3, b4, b5, b6, b7, b8⟩ := V1
    obtain rfl : b1 = .slice Ao a.orders.length co := hvo
    go_wp2_with fail
    go_loopw [14, 15, 16, 17, 18] (fun o' _ _ _ _ wr => ∃ q : Nat, q ≤ a.orders.length ∧ o' = .int .i64 q ∧ Below w2.heap.size w2 wr) (fun o' _ _ _ _ _ => a.orders.length - (intOf o').toNat)
    case atStart => exact ⟨0, Nat.zero_le _, rfl, h26⟩
    case round =>
      clear h26 h06 hB6
      obtain ⟨q, hq, rfl, h26⟩ := hrel
      have h06 := h02.trans (h26.mono h02.size)
      have hB6 := hb0.trans (h06.mono hb0.size)
      have c1 : wr.cell? ⟨W1.heap.size, 1, none⟩ = some (.slice Ao a.orders.length co) := (hbox2'.out.below h26 hbl2).cells.2.1
      by_cases hq1 : q < a.orders.length
      · have hqi : (q : Int) < (a.orders.length : Int) := by omega
        have l3 := (hsn.out.lines3 hq1).2
        change (a.order q).lines.length ≤ 3 at l3
        go_wp2_with fail
        clear c1 hqi
        have h26' := h26
        clear h26 h06 hB6
        go_loopw [15, 16, 17, 18] (fun k' _ _ _ wr => ∃ k : Nat, k ≤ (a.order q).lines.length ∧ k' = .int .i64 k ∧ Below w2.heap.size w2 wr) (fun k' _ _ _ _ => (a.order q).lines.length - (intOf k').toNat)
        case atStart => exact ⟨0, Nat.zero_le _, rfl, h26'⟩
        case round =>
          clear h26'
          obtain ⟨k, hk, rfl, h26⟩ := hrel
          have h06 := h02.trans (h26.mono h02.size)
          have hB6 := hb0.trans (h06.mono hb0.size)
          obtain ⟨go, co', curo, eo, hgo, hblko, z0, z1⟩ := (hO2.out.below h26).orderAt hq1
          injection eo with eo e2 e3
          subst eo
          clear e2 e3
          obtain ⟨c0, c1, c2, c3, c4, c5, c6⟩ := (hbox2'.out.below h26 hbl2).cells
          simp only at c0 c1 c2 c3 c4 c5 c6
          by_cases hk1 : k < (a.order q).lines.length
          · obtain ⟨gl, cl, curl, e1, hgl, hblk, f0, f1, f2, f3⟩ := (hO2.out.below h26).lineAt hq1 hk1
            rw [e1] at z1
            clear e1
            have hki : (k : Int) < ((a.order q).lines.length : Int) := by omega
            have hqi : (q : Int) < (a.orders.length : Int) := by omega
            have tl1 : W1.heap.size < wr.heap.size := Nat.lt_of_lt_of_le hbl2 h26.size
            have tl2 := hblko.lt
            have tl3 := hblk.lt
            have hbl := Lib.hid (Blk.new wr 56 #[.int .i64 (a.line q k).good, .int .i64 (a.line q k).want, .int .i64 (a.line q k).got, .int .i64 (a.line q k).back])
            have h2l := h26.alloc h26.size (.cells #[.int .i64 (a.line q k).good, .int .i64 (a.line q k).want, .int .i64 (a.line q k).got, .int .i64 (a.line q k).back] 56)
            have hA := Lib.hid (availE_ok (p := p) (s := a) (b := b) (g := (a.line q k).good) hca.out (isBin_iff.2 (by omega)) (isGood_iff.2 (hsn.out.line hq1 hk1).1))
            obtain ⟨⟨y0, y1⟩, x0, x1, x2, x3, x4, x5, x6, hbz0, hbz1⟩ := hK.out wr (h06)
            clear hblk hblko
            go_wp2_with fail
            clear c0 c1 c2 c3 c4 c5 c6 z0 z1 f0 f1 f2 f3 tl1 tl2 tl3
            clear y0 y1 x0 x1 x2 x3 x4 x5 x6 hbz0 hbz1
            generalize wr.heap.size = wl at hbl ⊢
            generalize wr.alloc (.cells #[.int .i64 (a.line q k).good, .int .i64 (a.line q k).want, .int .i64 (a.line q k).got, .int .i64 (a.line q k).back] 56) = W4 at hbl h2l ⊢
            have hB6l := hB2.trans (h2l.mono hB2.size)
            refine (sAvailAt _ _ _ (hP'.out _ hB6l) (hv2.out.grow h2l) hA.out).mono ?_
            rintro e W5 ⟨rfl, h5⟩
            have h25 := h2l.trans (h5.mono h2l.size)
            obtain ⟨_, _, z0, z1⟩ := (hO2.out.below h25).orderCells hq1 rfl
            have c1 : W5.cell? ⟨W1.heap.size, 1, none⟩ = some (.slice (some ⟨go, 0, none⟩) a.orders.length co) := (hbox2'.out.below h25 hbl2).cells.2.1
            have l3 := (hbl.out.below h5 hbl.out.lt).cell (j := 3) rfl
            have hk0 : ((a.order q).kind == 0) = false := beq_eq_false_iff_ne.2 (hkd.out q hq1)
            clear hA z1
            by_cases hk1q : (a.order q).kind = 1
            · by_cases hbk : 0 < (a.line q k).back
              · have hav := hdn.out q k b hq1 hk1 hbc hk1q hbk
                rw [hav]
                rw [hk1q] at z0
                have hbd := decide_eq_true hbk
                clear hav hk0 hk1q hbk
                go_wp2_with fail
                clear c1 z0 l3
                go_roundw
                case rel => exact ⟨k + 1, by omega, by go_num, h25⟩
                case measure => simp [intOf]; omega
              · rw [hk1q] at z0
                have hbd := decide_eq_false hbk
                clear hk0 hk1q hbk
                go_wp2_with fail
                clear c1 z0 l3
                go_roundw
                case rel => exact ⟨k + 1, by omega, by go_num, h25⟩
                case measure => simp [intOf]; omega
            · have hk1b : ((a.order q).kind == 1) = false := beq_eq_false_iff_ne.2 hk1q
              clear hk1q
              go_wp2_with fail
              clear c1 z0 l3
              go_roundw
              case rel => exact ⟨k + 1, by omega, by go_num, h25⟩
              case measure => simp [intOf]; omega
          · obtain rfl : k = (a.order q).lines.length := by omega
            obtain ⟨Al, cl, el⟩ := ((hO2.out.below h26).line q hq1).isSlice
            rw [el] at z1
            have hqi : (q : Int) < (a.orders.length : Int) := by omega
            go_wp2_with fail
            clear c0 c1 c2 c3 c4 c5 c6 z0 z1
            go_roundw
            case rel => exact ⟨q + 1, by omega, by go_num, h26⟩
            case measure => simp [intOf]; omega
      · obtain rfl : q = a.orders.length := by omega
        by_cases hcc : (cancel p s o).2 = 0
        · obtain ⟨_, i, rfl, hi, hki, hcn⟩ := cancel_right hcc
          have hcn' := Lib.hid (show cancel p s i = (cancelS s i, 0) from Prod.ext hcn hcc)
          have hcx := Lib.hid (cancel_check hcs.out hi)
          clear hcn hcc
          obtain ⟨⟨y0, y1⟩, x0, x1, x2, x3, x4, x5, x6, hbz0, hbz1⟩ := hK.out wr (h06)
          go_wp2_with fail
          clear y0 y1 x0 x1 x2 x3 x4 x5 x6 hbz0 hbz1
          clear c1
          refine (wvCanAt hcn'.out _ _ _ (hP'.out _ hB6) (hV.out _ hB6)).mono ?_
          rintro e W7 ⟨V7, rfl, ho7, hb7⟩
          have hone8 := (ho7).one
          have hnb8 := newBox (W7)
          go_wp2_with (refine wpList_store_state rfl (.tmp 19) (.tmp 137) rfl rfl (World.heap (W7)).size nilSV V7 hnb8 rfl rfl hone8 (fun w8 hbox8 hg8 => ?_); refine Hid.out ?_)
          unfold Hid
          have hbb8 := newBelow hg8
          have hbl8 := hbox8.lt
          clear hone8 hnb8 hg8
          have h08 := h06.trans ((hb7.trans (hbb8.mono hb7.size)).mono h06.size)
          have hB8 := hb0.trans (h08.mono hb0.size)
          have hv8 := Lib.hid ((ho7.below hbb8).view0 (check_small hcx.out))
          have hbox8' := Lib.hid hbox8
          clear hbox8 ho7 hb7 hbb8 hbox2' hO2 hv2 h26 h06 hB6
          obtain ⟨⟨y0, y1⟩, x0, x1, x2, x3, x4, x5, x6, hbz0, hbz1⟩ := hK.out w8 (h08)
          obtain ⟨p0, p1, p2, p3, p4, p5, p6⟩ := hbox8'.out.cells
          go_wp2_with fail
          clear y0 y1 x0 x1 x2 x3 x4 x5 x6 hbz0 hbz1
          clear p0 p1 p2 p3 p4 p5 p6
          refine (sCheckAt _ _ _ (hP'.out _ hB8) hv8.out hcx.out).mono ?_
          rintro e W9 ⟨rfl, h89⟩
          have hcs' := Lib.hid (checkState_zero.1 hcs.out).1
          have h08' := h08
          have h09 := h08.trans (h89.mono h08.size)
          have hB9 := hb0.trans (h09.mono hb0.size)
          obtain ⟨⟨y0, y1⟩, x0, x1, x2, x3, x4, x5, x6, hbz0, hbz1⟩ := hK.out W9 (h09)
          go_wp2_with fail
          clear y0 y1 x0 x1 x2 x3 x4 x5 x6 hbz0 hbz1
          clear h09 hB9
          go_loopw [21, 22, 23, 24, 25, 26] (fun o' _ _ _ _ _ wt => ∃ a : Nat, a ≤ s.orders.length ∧ o' = .int .i64 a ∧ Below w8.heap.size w8 wt) (fun o' _ _ _ _ _ _ => s.orders.length - (intOf o').toNat)
          case atStart => exact ⟨0, Nat.zero_le _, rfl, h89⟩
          case round =>
            clear h89
            obtain ⟨a, ha, rfl, h89⟩ := hrel
            have h09 := h08'.trans (h89.mono h08'.size)
            have hB9 := hb0.trans (h09.mono hb0.size)
            obtain ⟨⟨y0, y1⟩, x0, x1, x2, x3, x4, x5, x6, hbz0, hbz1⟩ := hK.out wr (h09)
            by_cases ha1 : a < s.orders.length
            · have ha' : (a : Int) < (s.orders.length : Int) := by omega
              have l3 := (hcs'.out.lines3 ha1).2
              change (orderAt s.orders a).lines.length ≤ 3 at l3
              go_wp2_with fail
              clear y0 y1 x0 x1 x2 x3 x4 x5 x6 hbz0 hbz1
              have h89' := h89
              clear h89 h09 hB9
              go_loopw [22, 23, 24, 25, 26] (fun k' _ _ _ _ wt => ∃ b : Nat, b ≤ (orderAt s.orders a).lines.length ∧ k' = .int .i64 b ∧ Below w8.heap.size w8 wt) (fun k' _ _ _ _ _ => (orderAt s.orders a).lines.length - (intOf k').toNat)
              case atStart => exact ⟨0, Nat.zero_le _, rfl, h89'⟩
              case round =>
                clear h89'
                obtain ⟨b, hb, rfl, h89⟩ := hrel
                have h09 := h08'.trans (h89.mono h08'.size)
                have hB9 := hb0.trans (h09.mono hb0.size)
                obtain ⟨⟨y0, y1⟩, x0, x1, x2, x3, x4, x5, x6, hbz0, hbz1⟩ := hK.out wr (h09)
                obtain ⟨Al, cl, ol, ll, d0, d1, hsl⟩ := (hO.out wr hB9).order ha1
                by_cases hb1 : b < (orderAt s.orders a).lines.length
                · have hb' : (b : Int) < ((orderAt s.orders a).lines.length : Int) := by omega
                  go_wp2_with fail
                  clear y0 y1 x0 x1 x2 x3 x4 x5 x6 hbz0 hbz1
                  clear d0 d1
                  refine (hdKeptAt _ _ s.holds a b hcs'.out.holds (hH.out _ hB9)).mono ?_
                  rintro e W10 ⟨rfl, h10⟩
                  have h810 := h89.trans (h10.mono h89.size)
                  have h010 := h08'.trans (h810.mono h08'.size)
                  obtain ⟨⟨y0, y1⟩, x0, x1, x2, x3, x4, x5, x6, hbz0, hbz1⟩ := hK.out W10 (h010)
                  obtain ⟨p0, p1, p2, p3, p4, p5, p6⟩ := (hbox8'.out.below h810 hbl8).cells
                  go_wp2_with fail
                  clear y0 y1 x0 x1 x2 x3 x4 x5 x6 hbz0 hbz1
                  clear p0 p1 p2 p3 p4 p5 p6
                  refine (hdKeptAt _ _ (cancelS s i).holds a b (checkState_zero.1 hcx.out).1.holds (hv8.out.grow h810).holdsV).mono ?_
                  rintro e W11 ⟨rfl, h11⟩
                  have h811 := h810.trans (h11.mono h810.size)
                  have hcn0 := cancel_kept (s := s) (o := i) a b
                  by_cases hai : a = i
                  · rw [if_pos (by omega)] at hcn0
                    rw [hcn0]
                    have t1 : ((a : Int) == i) = true := by simp; omega
                    have t2 : ((a : Int) != i) = false := by simp; omega
                    clear hai hcn0
                    go_wp2_with fail
                    go_roundw
                    case rel => exact ⟨b + 1, by omega, by go_num, h811⟩
                    case measure => simp [intOf]; omega
                  · rw [if_neg (by omega)] at hcn0
                    rw [hcn0]
                    have t1 : ((a : Int) == i) = false := by simp; omega
                    have t2 : ((a : Int) != i) = true := by simp; omega
                    clear hai hcn0
                    go_wp2_with fail
                    go_roundw
                    case rel => exact ⟨b + 1, by omega, by go_num, h811⟩
                    case measure => simp [intOf]; omega
                · obtain rfl : b = (orderAt s.orders a).lines.length := by omega
                  go_wp2_with fail
                  go_roundw
                  case rel => exact ⟨a + 1, by omega, by go_num, h89⟩
                  case measure => simp [intOf]; omega
            · obtain rfl : a = s.orders.length := by omega
              go_wp2_with fail
              clear y0 y1 x0 x1 x2 x3 x4 x5 x6 hbz0 hbz1
              refine (waveBegun _).mono ?_
              rintro e W12 ⟨rfl, h12⟩
              go_wp2_with fail
              go_ret
              exact ⟨rfl, hB9.trans (h12.mono hB9.size)⟩
        · obtain ⟨y, c, hy⟩ : ∃ y c, cancel p s o = (y, c) := ⟨_, _, rfl⟩
          have hne : (c != 0) = true := by rw [hy] at hcc; simpa using hcc
          have hy' := Lib.hid hy
          clear hcc hy
          obtain ⟨⟨y0, y1⟩, x0, x1, x2, x3, x4, x5, x6, hbz0, hbz1⟩ := hK.out wr (h06)
          go_wp2_with fail
          clear y0 y1 x0 x1 x2 x3 x4 x5 x6 hbz0 hbz1
          clear c1
          refine (wvCanAt hy'.out _ _ _ (hP'.out _ hB6) (hV.out _ hB6)).mono ?_
          rintro e W7 ⟨V7, rfl, ho7, hb7⟩
          have hone8 := (ho7).one
          have hnb8 := newBox (W7)
          go_wp2_with (refine wpList_store_state rfl (.tmp 19) (.tmp 137) rfl rfl (World.heap (W7)).size nilSV V7 hnb8 rfl rfl hone8 (fun w8 hbox8 hg8 => ?_); refine Hid.out ?_)
          unfold Hid
          have hbb8 := newBelow hg8
          have hbl8 := hbox8.lt
          clear hone8 hnb8 hg8
          have hB8 := hB6.trans ((hb7.trans (hbb8.mono hb7.size)).mono hB6.size)
          clear hbox8 ho7 hb7 hbb8
          go_wp2_with fail
          refine (waveBegun _).mono ?_
          rintro e W12 ⟨rfl, h12⟩
          go_wp2_with fail
          go_ret
          exact ⟨rfl, hB8.trans (h12.mono hB8.size)⟩
  · have hne : (checkState p s != 0) = true := by simpa using hc
    have hra := Lib.hid (release_bad hc)
    clear hc
    obtain ⟨Ab, cb, As, cs, rfl, hP', hBn, hSz, hlb, hls⟩ := openPl hp
    obtain ⟨A0, c0, A1, c1, A2, c2, A3, c3, A4, c4, A5, c5, A6, c6, rfl, hV, hN, hO, hH, hM, hI, hU, hX, hl0, hl1, hl2, hl3, hl4, hl5, hl6⟩ := openOne hv
    go_enter Try.func11, Try.ntmps11
    go_wp2_with fail
    obtain ⟨W0, hW0, hb0, hsz0, hsz1, hsE, hK⟩ := boxesTwo w p s Ab cb As cs A0 c0 A1 c1 A2 c2 A3 c3 A4 c4 A5 c5 A6 c6
    rw [hW0]
    clear hW0
    obtain ⟨⟨y0, y1⟩, x0, x1, x2, x3, x4, x5, x6, hbz0, hbz1⟩ := hK.out W0 (Below.refl W0.heap.size W0)
    go_wp2_with fail
    clear y0 y1 x0 x1 x2 x3 x4 x5 x6 hbz0 hbz1
    refine (wvRelAt hra.out _ _ _ (hP'.out _ hb0) (hV.out _ hb0)).mono ?_
    rintro e W1 ⟨V1, rfl, ho1, hb1⟩
    have hone2 := (ho1).one
    have hnb2 := newBox (W1)
    go_wp2_with (refine wpList_store_state rfl (.tmp 9) (.tmp 31) rfl rfl (World.heap (W1)).size nilSV V1 hnb2 rfl rfl hone2 (fun w2 hbox2 hg2 => ?_); refine Hid.out ?_)
    unfold Hid
    have hbb2 := newBelow hg2
    have hbl2 := hbox2.lt
    clear hone2 hnb2 hg2
    have hB2 := hb0.trans ((hb1.trans (hbb2.mono hb1.size)).mono hb0.size)
    clear hbox2 ho1 hb1 hbb2
    go_wp2_with fail
    refine (waveBegun _).mono ?_
    rintro e W9 ⟨rfl, h9⟩
    go_wp2_with fail
    go_ret
    exact ⟨rfl, hB2.trans (h9.mono hB2.size)⟩
end Wh
