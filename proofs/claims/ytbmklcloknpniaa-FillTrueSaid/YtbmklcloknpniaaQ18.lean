/- Texts of the claim, joined: OpenS. -/
import Derived.Test.YtbmklcloknpniaaQ17
namespace Wh
open Go Go.RowKit Go.ChangeShapes Go.WideShapes Go.Deep Go.Proofs
instance : Inhabited Line := ⟨dLine⟩
instance : Inhabited Move := ⟨dMove⟩
instance : Inhabited Order := ⟨dOrder⟩

theorem u_lines : Try.prog.underlying 56 = some (.slice 70) := by kernel_rfl
theorem u_moves : Try.prog.underlying 29 = some (.slice 42) := by kernel_rfl
theorem u_orders : Try.prog.underlying 27 = some (.slice 58) := by kernel_rfl
theorem b_line : 0 < Try.prog.bytesOf 70 := of_decide_eq_true (by kernel_rfl)
theorem s_line : Try.prog.underlying 70 = some (.struct (structFields Try.prog 70)) := fields_eq (by kernel_rfl)
theorem o_line : oneCellFields Try.prog (structFields Try.prog 70) = true := by kernel_rfl
theorem n_line : (structFields Try.prog 70).size = 4 := by kernel_rfl
theorem c_line : Try.prog.cellsOf 70 = 4 := by kernel_rfl
theorem f_line : (structFields Try.prog 70).toList.map (·.type) = [3, 3, 3, 3] := by kernel_rfl
theorem b_move : 0 < Try.prog.bytesOf 42 := of_decide_eq_true (by kernel_rfl)
theorem s_move : Try.prog.underlying 42 = some (.struct (structFields Try.prog 42)) := fields_eq (by kernel_rfl)
theorem o_move : oneCellFields Try.prog (structFields Try.prog 42) = true := by kernel_rfl
theorem n_move : (structFields Try.prog 42).size = 4 := by kernel_rfl
theorem c_move : Try.prog.cellsOf 42 = 4 := by kernel_rfl
theorem f_move : (structFields Try.prog 42).toList.map (·.type) = [3, 3, 3, 3] := by kernel_rfl
theorem b_order : 0 < Try.prog.bytesOf 58 := of_decide_eq_true (by kernel_rfl)
theorem s_order : Try.prog.underlying 58 = some (.struct (structFields Try.prog 58)) := fields_eq (by kernel_rfl)
theorem o_order : oneCellFields Try.prog (structFields Try.prog 58) = true := by kernel_rfl
theorem n_order : (structFields Try.prog 58).size = 2 := by kernel_rfl
theorem c_order : Try.prog.cellsOf 58 = 2 := by kernel_rfl
theorem f_order : (structFields Try.prog 58).toList.map (·.type) = [3, 56] := by kernel_rfl
theorem s_state : Try.prog.underlying 31 = some (.struct (structFields Try.prog 31)) := fields_eq (by kernel_rfl)
theorem o_state : oneCellFields Try.prog (structFields Try.prog 31) = true := by kernel_rfl
theorem n_state : (structFields Try.prog 31).size = 7 := by kernel_rfl
theorem c_state : Try.prog.cellsOf 31 = 7 := by kernel_rfl
theorem f_state : (structFields Try.prog 31).toList.map (·.type) = [26, 27, 28, 29, 23, 23, 23] := by kernel_rfl

section
variable {H : Type} {en : TypeId × Value → H} {w : World} {base : Nat} {sp : Nat → Bool} {hd : Bool}
theorem Rt.line {cs : List Value} (hl : cs.length = 4) (h : Rt en w base sp hd 70 cs) : ∃ x, cs = cLine x := by
  obtain ⟨a, b, c, d, rfl⟩ := Rt.four_ints s_line o_line (c_line.trans n_line.symm) f_line hl h
  exact ⟨⟨a, b, c, d⟩, rfl⟩
theorem Rt.move {cs : List Value} (hl : cs.length = 4) (h : Rt en w base sp hd 42 cs) : ∃ x, cs = cMove x := by
  obtain ⟨a, b, c, d, rfl⟩ := Rt.four_ints s_move o_move (c_move.trans n_move.symm) f_move hl h
  exact ⟨⟨a, b, c, d⟩, rfl⟩
theorem Rt.lines {cs : List Value} (h : Rt en w base sp hd 56 cs) : ∃ v l, cs = [v] ∧ Sl cLine w w.heap.size v l :=
  Rd.sl u_lines c_line b_line (fun _ => rfl) (by decide) (fun _ hl h => Rt.line hl h) h
theorem Rt.moves {cs : List Value} (h : Rt en w base sp hd 29 cs) : ∃ v l, cs = [v] ∧ Sl cMove w w.heap.size v l :=
  Rd.sl u_moves c_move b_move (fun _ => rfl) (by decide) (fun _ hl h => Rt.move hl h) h
theorem Rt.order {cs : List Value} (hl : cs.length = 2) (h : Rt en w base sp hd 58 cs) : ∃ (v : Value) (x : Order), cs = [.int .i64 x.kind, v] ∧ Sl cLine w w.heap.size v x.lines := by
  match cs, hl with
  | [v0, v1], _ =>
    obtain ⟨x0, e0, r0⟩ := h.field s_order o_order (c_order.trans n_order.symm) f_order 0 _ rfl
    obtain ⟨x1, e1, r1⟩ := h.field s_order o_order (c_order.trans n_order.symm) f_order 1 _ rfl
    obtain rfl := Option.some.inj e0
    obtain rfl := Option.some.inj e1
    obtain ⟨b0, q0⟩ := r0.int u_int
    obtain ⟨_, l1, q1, hs1⟩ := Rt.lines r1
    obtain rfl := (List.cons.inj q0).1
    obtain rfl := (List.cons.inj q1).1
    exact ⟨_, ⟨b0, l1⟩, rfl, hs1⟩
theorem Rt.orders {cs : List Value} (h : Rt en w base sp hd 27 cs) : ∃ v l, cs = [v] ∧ SlOrders w w.heap.size v l := by
  obtain ⟨A, c, l, vs, rfl, h1, h2, h3, h4⟩ := Rd.cells (α := Order) (k := 2) (enc := fun v x => [.int .i64 x.kind, v]) (Q := fun v x => Sl cLine w w.heap.size v x.lines) u_orders c_order b_order (fun _ _ => rfl) (by decide) (fun cs' hl h => Rt.order hl h) h
  exact ⟨_, l, rfl, A, c, vs, rfl, h1, h2, h3, h4⟩
theorem Rt.state {cs : List Value} (hl : cs.length = 7) (h : Rt en w base sp hd 31 cs) : ∃ s, StateV w w.heap.size (.agg cs.toArray) s := by
  match cs, hl with
  | [v0, v1, v2, v3, v4, v5, v6], _ =>
    obtain ⟨x0, e0, r0⟩ := h.field s_state o_state (c_state.trans n_state.symm) f_state 0 _ rfl
    obtain ⟨x1, e1, r1⟩ := h.field s_state o_state (c_state.trans n_state.symm) f_state 1 _ rfl
    obtain ⟨x2, e2, r2⟩ := h.field s_state o_state (c_state.trans n_state.symm) f_state 2 _ rfl
    obtain ⟨x3, e3, r3⟩ := h.field s_state o_state (c_state.trans n_state.symm) f_state 3 _ rfl
    obtain ⟨x4, e4, r4⟩ := h.field s_state o_state (c_state.trans n_state.symm) f_state 4 _ rfl
    obtain ⟨x5, e5, r5⟩ := h.field s_state o_state (c_state.trans n_state.symm) f_state 5 _ rfl
    obtain ⟨x6, e6, r6⟩ := h.field s_state o_state (c_state.trans n_state.symm) f_state 6 _ rfl
    obtain rfl := Option.some.inj e0
    obtain rfl := Option.some.inj e1
    obtain rfl := Option.some.inj e2
    obtain rfl := Option.some.inj e3
    obtain rfl := Option.some.inj e4
    obtain rfl := Option.some.inj e5
    obtain rfl := Option.some.inj e6
    obtain ⟨_, l0, q0, hs0⟩ := Rt.rows r0
    obtain ⟨_, l1, q1, hs1⟩ := Rt.orders r1
    obtain ⟨_, l2, q2, hs2⟩ := Rt.holds r2
    obtain ⟨_, l3, q3, hs3⟩ := Rt.moves r3
    obtain ⟨_, l4, q4, hs4⟩ := Rt.ints r4
    obtain ⟨_, l5, q5, hs5⟩ := Rt.ints r5
    obtain ⟨_, l6, q6, hs6⟩ := Rt.ints r6
    obtain rfl := (List.cons.inj q0).1
    obtain rfl := (List.cons.inj q1).1
    obtain rfl := (List.cons.inj q2).1
    obtain rfl := (List.cons.inj q3).1
    obtain rfl := (List.cons.inj q4).1
    obtain rfl := (List.cons.inj q5).1
    obtain rfl := (List.cons.inj q6).1
    exact ⟨⟨l0, l1, l2, l3, l4, l5, l6⟩, _, _, _, _, _, _, _, rfl, hs0, hs1, hs2, hs3, hs4, hs5, hs6⟩
set_option maxRecDepth 100000 in
theorem state_of {b0 : Nat} {r : Reach} {v : Value} (hv : Value.okWide Try.prog w r b0 31 v) (h : Rt en w base sp hd 31 v.cells.toList) : ∃ s, StateV w w.heap.size v s := by
  obtain ⟨cs, rfl, hsz⟩ := okWide_struct s_state hv
  obtain ⟨s, hs⟩ := Rt.state (by simpa [Value.cells] using hsz.trans c_state) h
  exact ⟨s, by simpa [Value.cells] using hs⟩
end
end Wh
