/- Texts of the claim, joined: OpenT, OpenH, OpenS. -/
import Derived.Test.YtnjgkhcnialplaaChecked
import Derived.KernelRfl
import Derived.Test.YtnjgkhcnialplaaP35
import Derived.Test.YtnjgkhcnialplaaP03
import Derived.Test.YtnjgkhcnialplaaP13
namespace Wh
open Go Go.RowKit Go.ChangeShapes Go.WideShapes Go.Deep Go.Proofs

instance : Inhabited Bin := ⟨⟨false, 0, 0, 0⟩⟩
instance : Inhabited Hold := ⟨⟨0, 0, 0, 0⟩⟩

def structFields (P : Program) (t : TypeId) : Array Field := match P.underlying t with
  | some (.struct fs) => fs
  | _ => #[]
theorem fields_eq {P : Program} {t : TypeId} (h : (match P.underlying t with | some (.struct _) => true | _ => false) = true) : P.underlying t = some (.struct (structFields P t)) := by
  unfold structFields
  split at h
  · rename_i h'; rw [h']
  · cases h

theorem u_int : Try.prog.underlying 3 = some (.int .i64) := by kernel_rfl
theorem u_bool : Try.prog.underlying 4 = some .bool := by kernel_rfl
theorem u_ints : Try.prog.underlying 23 = some (.slice 3) := by kernel_rfl
theorem u_rows : Try.prog.underlying 26 = some (.slice 23) := by kernel_rfl
theorem u_bins : Try.prog.underlying 22 = some (.slice 59) := by kernel_rfl
theorem c_int : Try.prog.cellsOf 3 = 1 := by kernel_rfl
theorem c_ints : Try.prog.cellsOf 23 = 1 := by kernel_rfl
theorem b_int : 0 < Try.prog.bytesOf 3 := of_decide_eq_true (by kernel_rfl)
theorem b_ints : 0 < Try.prog.bytesOf 23 := of_decide_eq_true (by kernel_rfl)
theorem b_bin : 0 < Try.prog.bytesOf 59 := of_decide_eq_true (by kernel_rfl)
theorem s_bin : Try.prog.underlying 59 = some (.struct (structFields Try.prog 59)) := fields_eq (by kernel_rfl)
theorem o_bin : oneCellFields Try.prog (structFields Try.prog 59) = true := by kernel_rfl
theorem n_bin : (structFields Try.prog 59).size = 4 := by kernel_rfl
theorem c_bin : Try.prog.cellsOf 59 = 4 := by kernel_rfl
theorem f_bin : (structFields Try.prog 59).toList.map (·.type) = [4, 3, 3, 3] := by kernel_rfl
theorem s_plan : Try.prog.underlying 25 = some (.struct (structFields Try.prog 25)) := fields_eq (by kernel_rfl)
theorem o_plan : oneCellFields Try.prog (structFields Try.prog 25) = true := by kernel_rfl
theorem n_plan : (structFields Try.prog 25).size = 2 := by kernel_rfl
theorem c_plan : Try.prog.cellsOf 25 = 2 := by kernel_rfl
theorem f_plan : (structFields Try.prog 25).toList.map (·.type) = [22, 23] := by kernel_rfl

section
variable {H : Type} {en : TypeId × Value → H} {w : World} {base : Nat} {sp : Nat → Bool} {hd : Bool}
theorem Rd.field {P : Program} {t : TypeId} {fs : Array Field} {cs : List Value} {ts : List TypeId} (hs : P.underlying t = some (.struct fs)) (hone : oneCellFields P fs = true) (hC : P.cellsOf t = fs.size) (hf : fs.toList.map (·.type) = ts)
    (h : Rd en P w base sp hd t cs) (j : Nat) (t' : TypeId) (hj : ts[j]? = some t') : ∃ v, cs[j]? = some v ∧ Rd en P w base sp hd t' [v] := by
  subst hf
  rw [List.getElem?_map, Array.getElem?_toList] at hj
  obtain ⟨f, hf, rfl⟩ := Option.map_eq_some_iff.1 hj
  exact (h.fields hs hone hC).2 j f hf
abbrev Rt (en : TypeId × Value → H) (w : World) (base : Nat) (sp : Nat → Bool) (hd : Bool) (t : TypeId) (cs : List Value) : Prop := Rd en Try.prog w base sp hd t cs
theorem Rt.ints {cs : List Value} (h : Rt en w base sp hd 23 cs) : ∃ v l, cs = [v] ∧ Sl cInt w w.heap.size v l :=
  Rd.sl u_ints c_int b_int (fun _ => rfl) (by decide) (fun cs' _ h => h.int u_int) h
theorem Rt.rows {cs : List Value} (h : Rt en w base sp hd 26 cs) : ∃ v l, cs = [v] ∧ SlSl cInt w w.heap.size v l := by
  obtain ⟨A, c, l, vs, rfl, h1, h2, h3, h4⟩ := Rd.cells (α := List Int) (k := 1) (enc := fun v _ => [v]) (Q := fun v x => Sl cInt w w.heap.size v x) u_rows c_ints b_ints (fun _ _ => rfl) (by decide) (fun cs' _ h => by
    obtain ⟨v, l, rfl, hs⟩ := Rt.ints h
    exact ⟨v, l, rfl, hs⟩) h
  refine ⟨_, l, rfl, A, c, vs, rfl, h1, h2, ?_, h4⟩
  have : ((l.zip vs).flatMap fun x => [x.2]) = vs := by
    rw [← List.map_eq_flatMap, List.map_snd_zip]
    omega
  rwa [this] at h3
theorem Rt.bin {cs : List Value} (hl : cs.length = 4) (h : Rt en w base sp hd 59 cs) : ∃ b, cs = cBin b := by
  match cs, hl with
  | [v0, v1, v2, v3], _ =>
    obtain ⟨x0, e0, r0⟩ := h.field s_bin o_bin (c_bin.trans n_bin.symm) f_bin 0 _ rfl
    obtain ⟨x1, e1, r1⟩ := h.field s_bin o_bin (c_bin.trans n_bin.symm) f_bin 1 _ rfl
    obtain ⟨x2, e2, r2⟩ := h.field s_bin o_bin (c_bin.trans n_bin.symm) f_bin 2 _ rfl
    obtain ⟨x3, e3, r3⟩ := h.field s_bin o_bin (c_bin.trans n_bin.symm) f_bin 3 _ rfl
    obtain rfl := Option.some.inj e0
    obtain rfl := Option.some.inj e1
    obtain rfl := Option.some.inj e2
    obtain rfl := Option.some.inj e3
    obtain ⟨b0, q0⟩ := r0.bool u_bool
    obtain ⟨b1, q1⟩ := r1.int u_int
    obtain ⟨b2, q2⟩ := r2.int u_int
    obtain ⟨b3, q3⟩ := r3.int u_int
    obtain rfl := (List.cons.inj q0).1
    obtain rfl := (List.cons.inj q1).1
    obtain rfl := (List.cons.inj q2).1
    obtain rfl := (List.cons.inj q3).1
    exact ⟨⟨b0, b1, b2, b3⟩, rfl⟩
theorem Rt.bins {cs : List Value} (h : Rt en w base sp hd 22 cs) : ∃ v l, cs = [v] ∧ Sl cBin w w.heap.size v l :=
  Rd.sl u_bins c_bin b_bin (fun _ => rfl) (by decide) (fun _ hl h => Rt.bin hl h) h
theorem Rt.plan {cs : List Value} (hl : cs.length = 2) (h : Rt en w base sp hd 25 cs) : ∃ v0 v1 p, cs = [v0, v1] ∧ PlanV w w.heap.size (.agg #[v0, v1]) p := by
  match cs, hl with
  | [v0, v1], _ =>
    obtain ⟨x0, e0, r0⟩ := h.field s_plan o_plan (c_plan.trans n_plan.symm) f_plan 0 _ rfl
    obtain ⟨x1, e1, r1⟩ := h.field s_plan o_plan (c_plan.trans n_plan.symm) f_plan 1 _ rfl
    obtain rfl := Option.some.inj e0
    obtain rfl := Option.some.inj e1
    obtain ⟨_, l0, q0, hs0⟩ := Rt.bins r0
    obtain ⟨_, l1, q1, hs1⟩ := Rt.ints r1
    obtain rfl := (List.cons.inj q0).1
    obtain rfl := (List.cons.inj q1).1
    exact ⟨_, _, ⟨l0, l1⟩, rfl, _, _, rfl, hs0, hs1⟩
theorem rd_of {P : Program} {ts : List TypeId} {ds : List (DataW H)} {j : Nat} {t : TypeId} {v : Value} {d : DataW H} {ps : List MemPlace} (hsz : (DataW.weightsEach P ts ds).all (· ≤ reachBytes) = true) (ht : ts[j]? = some t) (hds : ds[j]? = some d)
    (h : DataW.Trod en P w base sp hd t v d ps) : Rd en P w base sp hd t v.cells.toList := by
  obtain ⟨n, hn⟩ := h
  exact ⟨n, _, hn, fun k hk => by simpa using List.all_eq_true.1 hsz _ (DataW.weights_mem_each ht hds k hk)⟩
set_option maxRecDepth 100000 in
theorem plan_of {b0 : Nat} {r : Reach} {v : Value} (hv : Value.okWide Try.prog w r b0 25 v) (h : Rt en w base sp hd 25 v.cells.toList) : ∃ p, PlanV w w.heap.size v p := by
  obtain ⟨cs, rfl, hsz⟩ := okWide_struct s_plan hv
  obtain ⟨l⟩ := cs
  obtain ⟨v0, v1, p, e, hp⟩ := Rt.plan (by simpa [Value.cells] using hsz.trans c_plan) h
  have e' : l = [v0, v1] := by simpa [Value.cells] using e
  subst e'
  exact ⟨p, hp⟩
set_option maxRecDepth 100000 in
theorem rows_of {b0 : Nat} {r : Reach} {v : Value} (hv : Value.okWide Try.prog w r b0 26 v) (h : Rt en w base sp hd 26 v.cells.toList) : ∃ l, SlSl cInt w w.heap.size v l := by
  obtain ⟨A, len, c, rfl⟩ := okWide_slice u_rows hv
  obtain ⟨v, l, e, hs⟩ := Rt.rows h
  obtain rfl : Value.slice A len c = v := by simpa [Value.cells] using e
  exact ⟨l, hs⟩
end
end Wh
namespace Wh
open Go Go.RowKit Go.ChangeShapes Go.WideShapes Go.Deep Go.Proofs

/-- A hold as it is handed over. -/
def HoldV (v : Value) (h : Hold) : Prop := v = vHold h

theorem u_holds : Try.prog.underlying 28 = some (.slice 87) := by kernel_rfl
theorem b_hold : 0 < Try.prog.bytesOf 87 := of_decide_eq_true (by kernel_rfl)
theorem s_hold : Try.prog.underlying 87 = some (.struct (structFields Try.prog 87)) := fields_eq (by kernel_rfl)
theorem o_hold : oneCellFields Try.prog (structFields Try.prog 87) = true := by kernel_rfl
theorem n_hold : (structFields Try.prog 87).size = 4 := by kernel_rfl
theorem c_hold : Try.prog.cellsOf 87 = 4 := by kernel_rfl
theorem f_hold : (structFields Try.prog 87).toList.map (·.type) = [3, 3, 3, 3] := by kernel_rfl

section
variable {H : Type} {en : TypeId × Value → H} {w : World} {base : Nat} {sp : Nat → Bool} {hd : Bool}
theorem Rt.four_ints {t : TypeId} (s_t : Try.prog.underlying t = some (.struct (structFields Try.prog t))) (o_t : oneCellFields Try.prog (structFields Try.prog t) = true) (c_t : Try.prog.cellsOf t = (structFields Try.prog t).size)
    (f_t : (structFields Try.prog t).toList.map (·.type) = [3, 3, 3, 3]) {cs : List Value} (hl : cs.length = 4) (h : Rt en w base sp hd t cs) : ∃ a b c d : Int, cs = [.int .i64 a, .int .i64 b, .int .i64 c, .int .i64 d] := by
  match cs, hl with
  | [v0, v1, v2, v3], _ =>
    obtain ⟨x0, e0, r0⟩ := h.field s_t o_t c_t f_t 0 _ rfl
    obtain ⟨x1, e1, r1⟩ := h.field s_t o_t c_t f_t 1 _ rfl
    obtain ⟨x2, e2, r2⟩ := h.field s_t o_t c_t f_t 2 _ rfl
    obtain ⟨x3, e3, r3⟩ := h.field s_t o_t c_t f_t 3 _ rfl
    obtain rfl := Option.some.inj e0
    obtain rfl := Option.some.inj e1
    obtain rfl := Option.some.inj e2
    obtain rfl := Option.some.inj e3
    obtain ⟨b0, q0⟩ := r0.int u_int
    obtain ⟨b1, q1⟩ := r1.int u_int
    obtain ⟨b2, q2⟩ := r2.int u_int
    obtain ⟨b3, q3⟩ := r3.int u_int
    obtain rfl := (List.cons.inj q0).1
    obtain rfl := (List.cons.inj q1).1
    obtain rfl := (List.cons.inj q2).1
    obtain rfl := (List.cons.inj q3).1
    exact ⟨b0, b1, b2, b3, rfl⟩
theorem Rt.hold {cs : List Value} (hl : cs.length = 4) (h : Rt en w base sp hd 87 cs) : ∃ x, cs = cHold x := by
  obtain ⟨a, b, c, d, rfl⟩ := Rt.four_ints s_hold o_hold (c_hold.trans n_hold.symm) f_hold hl h
  exact ⟨⟨a, b, c, d⟩, rfl⟩
theorem Rt.holds {cs : List Value} (h : Rt en w base sp hd 28 cs) : ∃ v l, cs = [v] ∧ Sl cHold w w.heap.size v l :=
  Rd.sl u_holds c_hold b_hold (fun _ => rfl) (by decide) (fun _ hl h => Rt.hold hl h) h
set_option maxRecDepth 100000 in
theorem holds_of {b0 : Nat} {r : Reach} {v : Value} (hv : Value.okWide Try.prog w r b0 28 v) (h : Rt en w base sp hd 28 v.cells.toList) : ∃ l, Sl cHold w w.heap.size v l := by
  obtain ⟨A, len, c, rfl⟩ := okWide_slice u_holds hv
  obtain ⟨v, l, e, hs⟩ := Rt.holds h
  obtain rfl : Value.slice A len c = v := by simpa [Value.cells] using e
  exact ⟨l, hs⟩
set_option maxRecDepth 100000 in
theorem hold_of {b0 : Nat} {r : Reach} {v : Value} (hv : Value.okWide Try.prog w r b0 87 v) (h : Rt en w base sp hd 87 v.cells.toList) : ∃ x, HoldV v x := by
  obtain ⟨cs, rfl, hsz⟩ := okWide_struct s_hold hv
  obtain ⟨l⟩ := cs
  obtain ⟨x, e⟩ := Rt.hold (by simpa [Value.cells] using hsz.trans c_hold) h
  have e' : l = cHold x := by simpa [Value.cells] using e
  subst e'
  exact ⟨x, rfl⟩
end
end Wh
namespace Wh
open Go Go.RowKit Go.ChangeShapes Go.WideShapes Go.Deep Go.Proofs
instance : Inhabited Line := ⟨dLine⟩
instance : Inhabited Move := ⟨dMove⟩
instance : Inhabited Order := ⟨dOrder⟩

theorem u_lines : Try.prog.underlying 63 = some (.slice 75) := by kernel_rfl
theorem u_moves : Try.prog.underlying 29 = some (.slice 92) := by kernel_rfl
theorem u_orders : Try.prog.underlying 27 = some (.slice 73) := by kernel_rfl
theorem b_line : 0 < Try.prog.bytesOf 75 := of_decide_eq_true (by kernel_rfl)
theorem s_line : Try.prog.underlying 75 = some (.struct (structFields Try.prog 75)) := fields_eq (by kernel_rfl)
theorem o_line : oneCellFields Try.prog (structFields Try.prog 75) = true := by kernel_rfl
theorem n_line : (structFields Try.prog 75).size = 4 := by kernel_rfl
theorem c_line : Try.prog.cellsOf 75 = 4 := by kernel_rfl
theorem f_line : (structFields Try.prog 75).toList.map (·.type) = [3, 3, 3, 3] := by kernel_rfl
theorem b_move : 0 < Try.prog.bytesOf 92 := of_decide_eq_true (by kernel_rfl)
theorem s_move : Try.prog.underlying 92 = some (.struct (structFields Try.prog 92)) := fields_eq (by kernel_rfl)
theorem o_move : oneCellFields Try.prog (structFields Try.prog 92) = true := by kernel_rfl
theorem n_move : (structFields Try.prog 92).size = 4 := by kernel_rfl
theorem c_move : Try.prog.cellsOf 92 = 4 := by kernel_rfl
theorem f_move : (structFields Try.prog 92).toList.map (·.type) = [3, 3, 3, 3] := by kernel_rfl
theorem b_order : 0 < Try.prog.bytesOf 73 := of_decide_eq_true (by kernel_rfl)
theorem s_order : Try.prog.underlying 73 = some (.struct (structFields Try.prog 73)) := fields_eq (by kernel_rfl)
theorem o_order : oneCellFields Try.prog (structFields Try.prog 73) = true := by kernel_rfl
theorem n_order : (structFields Try.prog 73).size = 2 := by kernel_rfl
theorem c_order : Try.prog.cellsOf 73 = 2 := by kernel_rfl
theorem f_order : (structFields Try.prog 73).toList.map (·.type) = [3, 63] := by kernel_rfl
theorem b_state : 0 < Try.prog.bytesOf 31 := of_decide_eq_true (by kernel_rfl)
theorem s_state : Try.prog.underlying 31 = some (.struct (structFields Try.prog 31)) := fields_eq (by kernel_rfl)
theorem o_state : oneCellFields Try.prog (structFields Try.prog 31) = true := by kernel_rfl
theorem n_state : (structFields Try.prog 31).size = 7 := by kernel_rfl
theorem c_state : Try.prog.cellsOf 31 = 7 := by kernel_rfl
theorem f_state : (structFields Try.prog 31).toList.map (·.type) = [26, 27, 28, 29, 23, 23, 23] := by kernel_rfl

section
variable {H : Type} {en : TypeId × Value → H} {w : World} {base : Nat} {sp : Nat → Bool} {hd : Bool}
theorem Rt.line {cs : List Value} (hl : cs.length = 4) (h : Rt en w base sp hd 75 cs) : ∃ x, cs = cLine x := by
  obtain ⟨a, b, c, d, rfl⟩ := Rt.four_ints s_line o_line (c_line.trans n_line.symm) f_line hl h
  exact ⟨⟨a, b, c, d⟩, rfl⟩
theorem Rt.move {cs : List Value} (hl : cs.length = 4) (h : Rt en w base sp hd 92 cs) : ∃ x, cs = cMove x := by
  obtain ⟨a, b, c, d, rfl⟩ := Rt.four_ints s_move o_move (c_move.trans n_move.symm) f_move hl h
  exact ⟨⟨a, b, c, d⟩, rfl⟩
theorem Rt.lines {cs : List Value} (h : Rt en w base sp hd 63 cs) : ∃ v l, cs = [v] ∧ Sl cLine w w.heap.size v l :=
  Rd.sl u_lines c_line b_line (fun _ => rfl) (by decide) (fun _ hl h => Rt.line hl h) h
theorem Rt.moves {cs : List Value} (h : Rt en w base sp hd 29 cs) : ∃ v l, cs = [v] ∧ Sl cMove w w.heap.size v l :=
  Rd.sl u_moves c_move b_move (fun _ => rfl) (by decide) (fun _ hl h => Rt.move hl h) h
theorem Rt.order {cs : List Value} (hl : cs.length = 2) (h : Rt en w base sp hd 73 cs) : ∃ (v : Value) (x : Order), cs = [.int .i64 x.kind, v] ∧ Sl cLine w w.heap.size v x.lines := by
  match cs, hl with
  | [v0, v1], _ =>
    obtain ⟨x0, e0, r0⟩ := h.field s_order o_order (c_order.trans n_order.symm) f_order 0 _ rfl
    obtain ⟨x1, e1, r1⟩ := h.field s_order o_order (c_order.trans n_order.symm) f_order 1 _ rfl
    obtain rfl := Option.some.inj e0
    obtain rfl := Option.some.inj e1
    obtain ⟨b0, q0⟩ := r0.int u_int
    obtain ⟨_, l1, q1, hs1⟩ := Rt.lines r1
    obtain rfl := (List.cons.inj q0).1
    obtain rfl := (List.cons.inj q1).1
    exact ⟨_, ⟨b0, l1⟩, rfl, hs1⟩
theorem Rt.orders {cs : List Value} (h : Rt en w base sp hd 27 cs) : ∃ v l, cs = [v] ∧ SlOrders w w.heap.size v l := by
  obtain ⟨A, c, l, vs, rfl, h1, h2, h3, h4⟩ := Rd.cells (α := Order) (k := 2) (enc := fun v x => [.int .i64 x.kind, v]) (Q := fun v x => Sl cLine w w.heap.size v x.lines) u_orders c_order b_order (fun _ _ => rfl) (by decide) (fun cs' hl h => Rt.order hl h) h
  exact ⟨_, l, rfl, A, c, vs, rfl, h1, h2, h3, h4⟩
theorem Rt.state {cs : List Value} (hl : cs.length = 7) (h : Rt en w base sp hd 31 cs) : ∃ s, StateV w w.heap.size (.agg cs.toArray) s := by
  match cs, hl with
  | [v0, v1, v2, v3, v4, v5, v6], _ =>
    obtain ⟨x0, e0, r0⟩ := h.field s_state o_state (c_state.trans n_state.symm) f_state 0 _ rfl
    obtain ⟨x1, e1, r1⟩ := h.field s_state o_state (c_state.trans n_state.symm) f_state 1 _ rfl
    obtain ⟨x2, e2, r2⟩ := h.field s_state o_state (c_state.trans n_state.symm) f_state 2 _ rfl
    obtain ⟨x3, e3, r3⟩ := h.field s_state o_state (c_state.trans n_state.symm) f_state 3 _ rfl
    obtain ⟨x4, e4, r4⟩ := h.field s_state o_state (c_state.trans n_state.symm) f_state 4 _ rfl
    obtain ⟨x5, e5, r5⟩ := h.field s_state o_state (c_state.trans n_state.symm) f_state 5 _ rfl
    obtain ⟨x6, e6, r6⟩ := h.field s_state o_state (c_state.trans n_state.symm) f_state 6 _ rfl
    obtain rfl := Option.some.inj e0
    obtain rfl := Option.some.inj e1
    obtain rfl := Option.some.inj e2
    obtain rfl := Option.some.inj e3
    obtain rfl := Option.some.inj e4
    obtain rfl := Option.some.inj e5
    obtain rfl := Option.some.inj e6
    obtain ⟨_, l0, q0, hs0⟩ := Rt.rows r0
    obtain ⟨_, l1, q1, hs1⟩ := Rt.orders r1
    obtain ⟨_, l2, q2, hs2⟩ := Rt.holds r2
    obtain ⟨_, l3, q3, hs3⟩ := Rt.moves r3
    obtain ⟨_, l4, q4, hs4⟩ := Rt.ints r4
    obtain ⟨_, l5, q5, hs5⟩ := Rt.ints r5
    obtain ⟨_, l6, q6, hs6⟩ := Rt.ints r6
    obtain rfl := (List.cons.inj q0).1
    obtain rfl := (List.cons.inj q1).1
    obtain rfl := (List.cons.inj q2).1
    obtain rfl := (List.cons.inj q3).1
    obtain rfl := (List.cons.inj q4).1
    obtain rfl := (List.cons.inj q5).1
    obtain rfl := (List.cons.inj q6).1
    exact ⟨⟨l0, l1, l2, l3, l4, l5, l6⟩, _, _, _, _, _, _, _, rfl, hs0, hs1, hs2, hs3, hs4, hs5, hs6⟩
set_option maxRecDepth 100000 in
theorem lines_of {b0 : Nat} {r : Reach} {v : Value} (hv : Value.okWide Try.prog w r b0 63 v) (h : Rt en w base sp hd 63 v.cells.toList) : ∃ l, Sl cLine w w.heap.size v l := by
  obtain ⟨A, len, c, rfl⟩ := okWide_slice u_lines hv
  obtain ⟨v, l, e, hs⟩ := Rt.lines h
  obtain rfl : Value.slice A len c = v := by simpa [Value.cells] using e
  exact ⟨l, hs⟩
set_option maxRecDepth 100000 in
theorem state_of {b0 : Nat} {r : Reach} {v : Value} (hv : Value.okWide Try.prog w r b0 31 v) (h : Rt en w base sp hd 31 v.cells.toList) : ∃ s, StateV w w.heap.size v s := by
  obtain ⟨cs, rfl, hsz⟩ := okWide_struct s_state hv
  obtain ⟨s, hs⟩ := Rt.state (by simpa [Value.cells] using hsz.trans c_state) h
  exact ⟨s, by simpa [Value.cells] using hs⟩
end
end Wh
