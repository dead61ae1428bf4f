/- Texts of the claim, joined: OpenT, OpenH, OpenS, OpenA, LogN, OpenB. -/
import Derived.Test.YtfhfkijmebhgmaaGreatChecked
import Derived.KernelRfl
import Derived.ChangeMaps5
import Derived.Test.YtfhfkijmebhgmaaGreatQ38
import Derived.Test.YtfhfkijmebhgmaaGreatQ02
import Derived.Test.YtfhfkijmebhgmaaGreatQ07
import Derived.Test.YtfhfkijmebhgmaaGreatQ33
import Derived.Test.YtfhfkijmebhgmaaGreatQ37
import Derived.Test.YtfhfkijmebhgmaaGreatQ35
namespace Wh
open Go Go.RowKit Go.ChangeShapes Go.WideShapes Go.Deep Go.Proofs

instance : Inhabited Bin := ⟨⟨false, 0, 0, 0⟩⟩
instance : Inhabited Hold := ⟨⟨0, 0, 0, 0⟩⟩

def structFields (P : Program) (t : TypeId) : Array Field := match P.underlying t with
  | some (.struct fs) => fs
  | _ => #[]
theorem fields_eq {P : Program} {t : TypeId} (h : (match P.underlying t with | some (.struct _) => true | _ => false) = true) : P.underlying t = some (.struct (structFields P t)) := by
  unfold structFields
  split at h
  · rename_i h'; rw [h']
  · cases h

theorem u_int : Tryz.prog.underlying 3 = some (.int .i64) := by kernel_rfl
theorem u_bool : Tryz.prog.underlying 4 = some .bool := by kernel_rfl
theorem u_ints : Tryz.prog.underlying 23 = some (.slice 3) := by kernel_rfl
theorem u_rows : Tryz.prog.underlying 26 = some (.slice 23) := by kernel_rfl
theorem u_bins : Tryz.prog.underlying 22 = some (.slice 125) := by kernel_rfl
theorem c_int : Tryz.prog.cellsOf 3 = 1 := by kernel_rfl
theorem c_ints : Tryz.prog.cellsOf 23 = 1 := by kernel_rfl
theorem b_int : 0 < Tryz.prog.bytesOf 3 := of_decide_eq_true (by kernel_rfl)
theorem b_ints : 0 < Tryz.prog.bytesOf 23 := of_decide_eq_true (by kernel_rfl)
theorem b_bin : 0 < Tryz.prog.bytesOf 125 := of_decide_eq_true (by kernel_rfl)
theorem s_bin : Tryz.prog.underlying 125 = some (.struct (structFields Tryz.prog 125)) := fields_eq (by kernel_rfl)
theorem o_bin : oneCellFields Tryz.prog (structFields Tryz.prog 125) = true := by kernel_rfl
theorem n_bin : (structFields Tryz.prog 125).size = 4 := by kernel_rfl
theorem c_bin : Tryz.prog.cellsOf 125 = 4 := by kernel_rfl
theorem f_bin : (structFields Tryz.prog 125).toList.map (·.type) = [4, 3, 3, 3] := by kernel_rfl
theorem s_plan : Tryz.prog.underlying 25 = some (.struct (structFields Tryz.prog 25)) := fields_eq (by kernel_rfl)
theorem o_plan : oneCellFields Tryz.prog (structFields Tryz.prog 25) = true := by kernel_rfl
theorem n_plan : (structFields Tryz.prog 25).size = 2 := by kernel_rfl
theorem c_plan : Tryz.prog.cellsOf 25 = 2 := by kernel_rfl
theorem f_plan : (structFields Tryz.prog 25).toList.map (·.type) = [22, 23] := by kernel_rfl

section
variable {H : Type} {en : TypeId × Value → H} {w : World} {base : Nat} {sp : Nat → Bool} {hd : Bool}
theorem Rd.field {P : Program} {t : TypeId} {fs : Array Field} {cs : List Value} {ts : List TypeId} (hs : P.underlying t = some (.struct fs)) (hone : oneCellFields P fs = true) (hC : P.cellsOf t = fs.size) (hf : fs.toList.map (·.type) = ts)
    (h : Rd en P w base sp hd t cs) (j : Nat) (t' : TypeId) (hj : ts[j]? = some t') : ∃ v, cs[j]? = some v ∧ Rd en P w base sp hd t' [v] := by
  subst hf
  rw [List.getElem?_map, Array.getElem?_toList] at hj
  obtain ⟨f, hf, rfl⟩ := Option.map_eq_some_iff.1 hj
  exact (h.fields hs hone hC).2 j f hf
abbrev Rt (en : TypeId × Value → H) (w : World) (base : Nat) (sp : Nat → Bool) (hd : Bool) (t : TypeId) (cs : List Value) : Prop := Rd en Tryz.prog w base sp hd t cs
theorem Rt.ints {cs : List Value} (h : Rt en w base sp hd 23 cs) : ∃ v l, cs = [v] ∧ Sl cInt w w.heap.size v l :=
  Rd.sl u_ints c_int b_int (fun _ => rfl) (by decide) (fun cs' _ h => h.int u_int) h
theorem Rt.rows {cs : List Value} (h : Rt en w base sp hd 26 cs) : ∃ v l, cs = [v] ∧ SlSl cInt w w.heap.size v l := by
  obtain ⟨A, c, l, vs, rfl, h1, h2, h3, h4⟩ := Rd.cells (α := List Int) (k := 1) (enc := fun v _ => [v]) (Q := fun v x => Sl cInt w w.heap.size v x) u_rows c_ints b_ints (fun _ _ => rfl) (by decide) (fun cs' _ h => by
    obtain ⟨v, l, rfl, hs⟩ := Rt.ints h
    exact ⟨v, l, rfl, hs⟩) h
  refine ⟨_, l, rfl, A, c, vs, rfl, h1, h2, ?_, h4⟩
  have : ((l.zip vs).flatMap fun x => [x.2]) = vs := by
    rw [← List.map_eq_flatMap, List.map_snd_zip]
    omega
  rwa [this] at h3
theorem Rt.bin {cs : List Value} (hl : cs.length = 4) (h : Rt en w base sp hd 125 cs) : ∃ b, cs = cBin b := by
  match cs, hl with
  | [v0, v1, v2, v3], _ =>
    obtain ⟨x0, e0, r0⟩ := h.field s_bin o_bin (c_bin.trans n_bin.symm) f_bin 0 _ rfl
    obtain ⟨x1, e1, r1⟩ := h.field s_bin o_bin (c_bin.trans n_bin.symm) f_bin 1 _ rfl
    obtain ⟨x2, e2, r2⟩ := h.field s_bin o_bin (c_bin.trans n_bin.symm) f_bin 2 _ rfl
    obtain ⟨x3, e3, r3⟩ := h.field s_bin o_bin (c_bin.trans n_bin.symm) f_bin 3 _ rfl
    obtain rfl := Option.some.inj e0
    obtain rfl := Option.some.inj e1
    obtain rfl := Option.some.inj e2
    obtain rfl := Option.some.inj e3
    obtain ⟨b0, q0⟩ := r0.bool u_bool
    obtain ⟨b1, q1⟩ := r1.int u_int
    obtain ⟨b2, q2⟩ := r2.int u_int
    obtain ⟨b3, q3⟩ := r3.int u_int
    obtain rfl := (List.cons.inj q0).1
    obtain rfl := (List.cons.inj q1).1
    obtain rfl := (List.cons.inj q2).1
    obtain rfl := (List.cons.inj q3).1
    exact ⟨⟨b0, b1, b2, b3⟩, rfl⟩
theorem Rt.bins {cs : List Value} (h : Rt en w base sp hd 22 cs) : ∃ v l, cs = [v] ∧ Sl cBin w w.heap.size v l :=
  Rd.sl u_bins c_bin b_bin (fun _ => rfl) (by decide) (fun _ hl h => Rt.bin hl h) h
theorem Rt.plan {cs : List Value} (hl : cs.length = 2) (h : Rt en w base sp hd 25 cs) : ∃ v0 v1 p, cs = [v0, v1] ∧ PlanV w w.heap.size (.agg #[v0, v1]) p := by
  match cs, hl with
  | [v0, v1], _ =>
    obtain ⟨x0, e0, r0⟩ := h.field s_plan o_plan (c_plan.trans n_plan.symm) f_plan 0 _ rfl
    obtain ⟨x1, e1, r1⟩ := h.field s_plan o_plan (c_plan.trans n_plan.symm) f_plan 1 _ rfl
    obtain rfl := Option.some.inj e0
    obtain rfl := Option.some.inj e1
    obtain ⟨_, l0, q0, hs0⟩ := Rt.bins r0
    obtain ⟨_, l1, q1, hs1⟩ := Rt.ints r1
    obtain rfl := (List.cons.inj q0).1
    obtain rfl := (List.cons.inj q1).1
    exact ⟨_, _, ⟨l0, l1⟩, rfl, _, _, rfl, hs0, hs1⟩
theorem rd_of {P : Program} {ts : List TypeId} {ds : List (DataW H)} {j : Nat} {t : TypeId} {v : Value} {d : DataW H} {ps : List MemPlace} (hsz : (DataW.weightsEach P ts ds).all (· ≤ reachBytes) = true) (ht : ts[j]? = some t) (hds : ds[j]? = some d)
    (h : DataW.Trod en P w base sp hd t v d ps) : Rd en P w base sp hd t v.cells.toList := by
  obtain ⟨n, hn⟩ := h
  exact ⟨n, _, hn, fun k hk => by simpa using List.all_eq_true.1 hsz _ (DataW.weights_mem_each ht hds k hk)⟩
set_option maxRecDepth 100000 in
theorem plan_of {b0 : Nat} {r : Reach} {v : Value} (hv : Value.okWide Tryz.prog w r b0 25 v) (h : Rt en w base sp hd 25 v.cells.toList) : ∃ p, PlanV w w.heap.size v p := by
  obtain ⟨cs, rfl, hsz⟩ := okWide_struct s_plan hv
  obtain ⟨l⟩ := cs
  obtain ⟨v0, v1, p, e, hp⟩ := Rt.plan (by simpa [Value.cells] using hsz.trans c_plan) h
  have e' : l = [v0, v1] := by simpa [Value.cells] using e
  subst e'
  exact ⟨p, hp⟩
end
end Wh
namespace Wh
open Go Go.RowKit Go.ChangeShapes Go.WideShapes Go.Deep Go.Proofs

theorem u_holds : Tryz.prog.underlying 28 = some (.slice 46) := by kernel_rfl
theorem b_hold : 0 < Tryz.prog.bytesOf 46 := of_decide_eq_true (by kernel_rfl)
theorem s_hold : Tryz.prog.underlying 46 = some (.struct (structFields Tryz.prog 46)) := fields_eq (by kernel_rfl)
theorem o_hold : oneCellFields Tryz.prog (structFields Tryz.prog 46) = true := by kernel_rfl
theorem n_hold : (structFields Tryz.prog 46).size = 4 := by kernel_rfl
theorem c_hold : Tryz.prog.cellsOf 46 = 4 := by kernel_rfl
theorem f_hold : (structFields Tryz.prog 46).toList.map (·.type) = [3, 3, 3, 3] := by kernel_rfl

section
variable {H : Type} {en : TypeId × Value → H} {w : World} {base : Nat} {sp : Nat → Bool} {hd : Bool}
theorem Rt.four_ints {t : TypeId} (s_t : Tryz.prog.underlying t = some (.struct (structFields Tryz.prog t))) (o_t : oneCellFields Tryz.prog (structFields Tryz.prog t) = true) (c_t : Tryz.prog.cellsOf t = (structFields Tryz.prog t).size)
    (f_t : (structFields Tryz.prog t).toList.map (·.type) = [3, 3, 3, 3]) {cs : List Value} (hl : cs.length = 4) (h : Rt en w base sp hd t cs) : ∃ a b c d : Int, cs = [.int .i64 a, .int .i64 b, .int .i64 c, .int .i64 d] := by
  match cs, hl with
  | [v0, v1, v2, v3], _ =>
    obtain ⟨x0, e0, r0⟩ := h.field s_t o_t c_t f_t 0 _ rfl
    obtain ⟨x1, e1, r1⟩ := h.field s_t o_t c_t f_t 1 _ rfl
    obtain ⟨x2, e2, r2⟩ := h.field s_t o_t c_t f_t 2 _ rfl
    obtain ⟨x3, e3, r3⟩ := h.field s_t o_t c_t f_t 3 _ rfl
    obtain rfl := Option.some.inj e0
    obtain rfl := Option.some.inj e1
    obtain rfl := Option.some.inj e2
    obtain rfl := Option.some.inj e3
    obtain ⟨b0, q0⟩ := r0.int u_int
    obtain ⟨b1, q1⟩ := r1.int u_int
    obtain ⟨b2, q2⟩ := r2.int u_int
    obtain ⟨b3, q3⟩ := r3.int u_int
    obtain rfl := (List.cons.inj q0).1
    obtain rfl := (List.cons.inj q1).1
    obtain rfl := (List.cons.inj q2).1
    obtain rfl := (List.cons.inj q3).1
    exact ⟨b0, b1, b2, b3, rfl⟩
theorem Rt.hold {cs : List Value} (hl : cs.length = 4) (h : Rt en w base sp hd 46 cs) : ∃ x, cs = cHold x := by
  obtain ⟨a, b, c, d, rfl⟩ := Rt.four_ints s_hold o_hold (c_hold.trans n_hold.symm) f_hold hl h
  exact ⟨⟨a, b, c, d⟩, rfl⟩
theorem Rt.holds {cs : List Value} (h : Rt en w base sp hd 28 cs) : ∃ v l, cs = [v] ∧ Sl cHold w w.heap.size v l :=
  Rd.sl u_holds c_hold b_hold (fun _ => rfl) (by decide) (fun _ hl h => Rt.hold hl h) h
end
end Wh
namespace Wh
open Go Go.RowKit Go.ChangeShapes Go.WideShapes Go.Deep Go.Proofs
instance : Inhabited Line := ⟨dLine⟩
instance : Inhabited Move := ⟨dMove⟩
instance : Inhabited Order := ⟨dOrder⟩

theorem u_lines : Tryz.prog.underlying 32 = some (.slice 44) := by kernel_rfl
theorem u_moves : Tryz.prog.underlying 29 = some (.slice 48) := by kernel_rfl
theorem u_orders : Tryz.prog.underlying 27 = some (.slice 42) := by kernel_rfl
theorem b_line : 0 < Tryz.prog.bytesOf 44 := of_decide_eq_true (by kernel_rfl)
theorem s_line : Tryz.prog.underlying 44 = some (.struct (structFields Tryz.prog 44)) := fields_eq (by kernel_rfl)
theorem o_line : oneCellFields Tryz.prog (structFields Tryz.prog 44) = true := by kernel_rfl
theorem n_line : (structFields Tryz.prog 44).size = 4 := by kernel_rfl
theorem c_line : Tryz.prog.cellsOf 44 = 4 := by kernel_rfl
theorem f_line : (structFields Tryz.prog 44).toList.map (·.type) = [3, 3, 3, 3] := by kernel_rfl
theorem b_move : 0 < Tryz.prog.bytesOf 48 := of_decide_eq_true (by kernel_rfl)
theorem s_move : Tryz.prog.underlying 48 = some (.struct (structFields Tryz.prog 48)) := fields_eq (by kernel_rfl)
theorem o_move : oneCellFields Tryz.prog (structFields Tryz.prog 48) = true := by kernel_rfl
theorem n_move : (structFields Tryz.prog 48).size = 4 := by kernel_rfl
theorem c_move : Tryz.prog.cellsOf 48 = 4 := by kernel_rfl
theorem f_move : (structFields Tryz.prog 48).toList.map (·.type) = [3, 3, 3, 3] := by kernel_rfl
theorem b_order : 0 < Tryz.prog.bytesOf 42 := of_decide_eq_true (by kernel_rfl)
theorem s_order : Tryz.prog.underlying 42 = some (.struct (structFields Tryz.prog 42)) := fields_eq (by kernel_rfl)
theorem o_order : oneCellFields Tryz.prog (structFields Tryz.prog 42) = true := by kernel_rfl
theorem n_order : (structFields Tryz.prog 42).size = 2 := by kernel_rfl
theorem c_order : Tryz.prog.cellsOf 42 = 2 := by kernel_rfl
theorem f_order : (structFields Tryz.prog 42).toList.map (·.type) = [3, 32] := by kernel_rfl
theorem s_state : Tryz.prog.underlying 31 = some (.struct (structFields Tryz.prog 31)) := fields_eq (by kernel_rfl)
theorem o_state : oneCellFields Tryz.prog (structFields Tryz.prog 31) = true := by kernel_rfl
theorem n_state : (structFields Tryz.prog 31).size = 7 := by kernel_rfl
theorem c_state : Tryz.prog.cellsOf 31 = 7 := by kernel_rfl
theorem f_state : (structFields Tryz.prog 31).toList.map (·.type) = [26, 27, 28, 29, 23, 23, 23] := by kernel_rfl

section
variable {H : Type} {en : TypeId × Value → H} {w : World} {base : Nat} {sp : Nat → Bool} {hd : Bool}
theorem Rt.line {cs : List Value} (hl : cs.length = 4) (h : Rt en w base sp hd 44 cs) : ∃ x, cs = cLine x := by
  obtain ⟨a, b, c, d, rfl⟩ := Rt.four_ints s_line o_line (c_line.trans n_line.symm) f_line hl h
  exact ⟨⟨a, b, c, d⟩, rfl⟩
theorem Rt.move {cs : List Value} (hl : cs.length = 4) (h : Rt en w base sp hd 48 cs) : ∃ x, cs = cMove x := by
  obtain ⟨a, b, c, d, rfl⟩ := Rt.four_ints s_move o_move (c_move.trans n_move.symm) f_move hl h
  exact ⟨⟨a, b, c, d⟩, rfl⟩
theorem Rt.lines {cs : List Value} (h : Rt en w base sp hd 32 cs) : ∃ v l, cs = [v] ∧ Sl cLine w w.heap.size v l :=
  Rd.sl u_lines c_line b_line (fun _ => rfl) (by decide) (fun _ hl h => Rt.line hl h) h
theorem Rt.moves {cs : List Value} (h : Rt en w base sp hd 29 cs) : ∃ v l, cs = [v] ∧ Sl cMove w w.heap.size v l :=
  Rd.sl u_moves c_move b_move (fun _ => rfl) (by decide) (fun _ hl h => Rt.move hl h) h
theorem Rt.order {cs : List Value} (hl : cs.length = 2) (h : Rt en w base sp hd 42 cs) : ∃ (v : Value) (x : Order), cs = [.int .i64 x.kind, v] ∧ Sl cLine w w.heap.size v x.lines := by
  match cs, hl with
  | [v0, v1], _ =>
    obtain ⟨x0, e0, r0⟩ := h.field s_order o_order (c_order.trans n_order.symm) f_order 0 _ rfl
    obtain ⟨x1, e1, r1⟩ := h.field s_order o_order (c_order.trans n_order.symm) f_order 1 _ rfl
    obtain rfl := Option.some.inj e0
    obtain rfl := Option.some.inj e1
    obtain ⟨b0, q0⟩ := r0.int u_int
    obtain ⟨_, l1, q1, hs1⟩ := Rt.lines r1
    obtain rfl := (List.cons.inj q0).1
    obtain rfl := (List.cons.inj q1).1
    exact ⟨_, ⟨b0, l1⟩, rfl, hs1⟩
theorem Rt.orders {cs : List Value} (h : Rt en w base sp hd 27 cs) : ∃ v l, cs = [v] ∧ SlOrders w w.heap.size v l := by
  obtain ⟨A, c, l, vs, rfl, h1, h2, h3, h4⟩ := Rd.cells (α := Order) (k := 2) (enc := fun v x => [.int .i64 x.kind, v]) (Q := fun v x => Sl cLine w w.heap.size v x.lines) u_orders c_order b_order (fun _ _ => rfl) (by decide) (fun cs' hl h => Rt.order hl h) h
  exact ⟨_, l, rfl, A, c, vs, rfl, h1, h2, h3, h4⟩
theorem Rt.state {cs : List Value} (hl : cs.length = 7) (h : Rt en w base sp hd 31 cs) : ∃ s, StateV w w.heap.size (.agg cs.toArray) s := by
  match cs, hl with
  | [v0, v1, v2, v3, v4, v5, v6], _ =>
    obtain ⟨x0, e0, r0⟩ := h.field s_state o_state (c_state.trans n_state.symm) f_state 0 _ rfl
    obtain ⟨x1, e1, r1⟩ := h.field s_state o_state (c_state.trans n_state.symm) f_state 1 _ rfl
    obtain ⟨x2, e2, r2⟩ := h.field s_state o_state (c_state.trans n_state.symm) f_state 2 _ rfl
    obtain ⟨x3, e3, r3⟩ := h.field s_state o_state (c_state.trans n_state.symm) f_state 3 _ rfl
    obtain ⟨x4, e4, r4⟩ := h.field s_state o_state (c_state.trans n_state.symm) f_state 4 _ rfl
    obtain ⟨x5, e5, r5⟩ := h.field s_state o_state (c_state.trans n_state.symm) f_state 5 _ rfl
    obtain ⟨x6, e6, r6⟩ := h.field s_state o_state (c_state.trans n_state.symm) f_state 6 _ rfl
    obtain rfl := Option.some.inj e0
    obtain rfl := Option.some.inj e1
    obtain rfl := Option.some.inj e2
    obtain rfl := Option.some.inj e3
    obtain rfl := Option.some.inj e4
    obtain rfl := Option.some.inj e5
    obtain rfl := Option.some.inj e6
    obtain ⟨_, l0, q0, hs0⟩ := Rt.rows r0
    obtain ⟨_, l1, q1, hs1⟩ := Rt.orders r1
    obtain ⟨_, l2, q2, hs2⟩ := Rt.holds r2
    obtain ⟨_, l3, q3, hs3⟩ := Rt.moves r3
    obtain ⟨_, l4, q4, hs4⟩ := Rt.ints r4
    obtain ⟨_, l5, q5, hs5⟩ := Rt.ints r5
    obtain ⟨_, l6, q6, hs6⟩ := Rt.ints r6
    obtain rfl := (List.cons.inj q0).1
    obtain rfl := (List.cons.inj q1).1
    obtain rfl := (List.cons.inj q2).1
    obtain rfl := (List.cons.inj q3).1
    obtain rfl := (List.cons.inj q4).1
    obtain rfl := (List.cons.inj q5).1
    obtain rfl := (List.cons.inj q6).1
    exact ⟨⟨l0, l1, l2, l3, l4, l5, l6⟩, _, _, _, _, _, _, _, rfl, hs0, hs1, hs2, hs3, hs4, hs5, hs6⟩
set_option maxRecDepth 100000 in
theorem state_of {b0 : Nat} {r : Reach} {v : Value} (hv : Value.okWide Tryz.prog w r b0 31 v) (h : Rt en w base sp hd 31 v.cells.toList) : ∃ s, StateV w w.heap.size v s := by
  obtain ⟨cs, rfl, hsz⟩ := okWide_struct s_state hv
  obtain ⟨s, hs⟩ := Rt.state (by simpa [Value.cells] using hsz.trans c_state) h
  exact ⟨s, by simpa [Value.cells] using hs⟩
end
end Wh
namespace Wh
open Go Go.RowKit Go.ChangeShapes Go.WideShapes Go.Deep Go.Proofs
theorem s_act : Tryz.prog.underlying 34 = some (.struct (structFields Tryz.prog 34)) := fields_eq (by kernel_rfl)
theorem o_act : oneCellFields Tryz.prog (structFields Tryz.prog 34) = true := by kernel_rfl
theorem n_act : (structFields Tryz.prog 34).size = 6 := by kernel_rfl
theorem c_act : Tryz.prog.cellsOf 34 = 6 := by kernel_rfl
theorem f_act : (structFields Tryz.prog 34).toList.map (·.type) = [3, 3, 3, 3, 3, 32] := by kernel_rfl
section
variable {H : Type} {en : TypeId × Value → H} {w : World} {base : Nat} {sp : Nat → Bool} {hd : Bool}
theorem Rt.act {cs : List Value} (hl : cs.length = 6) (h : Rt en w base sp hd 34 cs) : ∃ x, DeedV w w.heap.size (.agg cs.toArray) x := by
  match cs, hl with
  | [v0, v1, v2, v3, v4, v5], _ =>
    obtain ⟨x0, e0, r0⟩ := h.field s_act o_act (c_act.trans n_act.symm) f_act 0 _ rfl
    obtain ⟨x1, e1, r1⟩ := h.field s_act o_act (c_act.trans n_act.symm) f_act 1 _ rfl
    obtain ⟨x2, e2, r2⟩ := h.field s_act o_act (c_act.trans n_act.symm) f_act 2 _ rfl
    obtain ⟨x3, e3, r3⟩ := h.field s_act o_act (c_act.trans n_act.symm) f_act 3 _ rfl
    obtain ⟨x4, e4, r4⟩ := h.field s_act o_act (c_act.trans n_act.symm) f_act 4 _ rfl
    obtain ⟨x5, e5, r5⟩ := h.field s_act o_act (c_act.trans n_act.symm) f_act 5 _ rfl
    obtain rfl := Option.some.inj e0
    obtain rfl := Option.some.inj e1
    obtain rfl := Option.some.inj e2
    obtain rfl := Option.some.inj e3
    obtain rfl := Option.some.inj e4
    obtain rfl := Option.some.inj e5
    obtain ⟨b0, q0⟩ := r0.int u_int
    obtain ⟨b1, q1⟩ := r1.int u_int
    obtain ⟨b2, q2⟩ := r2.int u_int
    obtain ⟨b3, q3⟩ := r3.int u_int
    obtain ⟨b4, q4⟩ := r4.int u_int
    obtain ⟨_, l5, q5, hs5⟩ := Rt.lines r5
    obtain rfl := (List.cons.inj q0).1
    obtain rfl := (List.cons.inj q1).1
    obtain rfl := (List.cons.inj q2).1
    obtain rfl := (List.cons.inj q3).1
    obtain rfl := (List.cons.inj q4).1
    obtain rfl := (List.cons.inj q5).1
    exact ⟨⟨b0, b1, b2, b3, b4, l5⟩, _, rfl, hs5⟩
set_option maxRecDepth 100000 in
theorem act_of {b0 : Nat} {r : Reach} {v : Value} (hv : Value.okWide Tryz.prog w r b0 34 v) (h : Rt en w base sp hd 34 v.cells.toList) : ∃ x, DeedV w w.heap.size v x := by
  obtain ⟨cs, rfl, hsz⟩ := okWide_struct s_act hv
  obtain ⟨x, hx⟩ := Rt.act (by simpa [Value.cells] using hsz.trans c_act) h
  exact ⟨x, by simpa [Value.cells] using hx⟩
end
end Wh
namespace Wh
open Go Go.RowKit Go.Shelf Go.Proofs
attribute [local go_sem] run_indexAt_letter evL_tmp evL_const evL_func

theorem boxesPD (w : World) (p : Plan) (Ab : Option Addr) (cb : Nat) (As : Option Addr) (cs : Nat) (x : Deed) (Al : Option Addr) (cl : Nat) : ∃ W0 : World, (w.alloc (.cells #[.slice Ab p.bins.length cb, .slice As p.sizes.length cs] 25)).alloc (.cells #[.int .i64 x.kind, .int .i64 x.a, .int .i64 x.b, .int .i64 x.c, .int .i64 x.n, .slice Al x.lines.length cl] 34) = W0 ∧ Below w.heap.size w W0 ∧
    (∀ W, Below W0.heap.size W0 W → W.cell? ⟨w.heap.size, 0, none⟩ = some (.slice Ab p.bins.length cb) ∧ W.cell? ⟨w.heap.size, 1, none⟩ = some (.slice As p.sizes.length cs) ∧ W.cell? ⟨w.heap.size + 1, 0, none⟩ = some (.int .i64 x.kind) ∧ W.cell? ⟨w.heap.size + 1, 1, none⟩ = some (.int .i64 x.a) ∧ W.cell? ⟨w.heap.size + 1, 2, none⟩ = some (.int .i64 x.b) ∧
      W.cell? ⟨w.heap.size + 1, 3, none⟩ = some (.int .i64 x.c) ∧ W.cell? ⟨w.heap.size + 1, 4, none⟩ = some (.int .i64 x.n) ∧ W.cell? ⟨w.heap.size + 1, 5, none⟩ = some (.slice Al x.lines.length cl) ∧ w.heap.size < W.heap.size ∧ w.heap.size + 1 < W.heap.size) := by
  have h1 : Blk (w.alloc (.cells #[.slice Ab p.bins.length cb, .slice As p.sizes.length cs] 25)) w.heap.size 25 [.slice Ab p.bins.length cb, .slice As p.sizes.length cs] := Blk.new _ _ _
  have h2 := Blk.new (w.alloc (.cells #[.slice Ab p.bins.length cb, .slice As p.sizes.length cs] 25)) 34 #[.int .i64 x.kind, .int .i64 x.a, .int .i64 x.b, .int .i64 x.c, .int .i64 x.n, .slice Al x.lines.length cl]
  rw [World.size_alloc] at h2
  have h3 := h1.alloc (.cells #[.int .i64 x.kind, .int .i64 x.a, .int .i64 x.b, .int .i64 x.c, .int .i64 x.n, .slice Al x.lines.length cl] 34)
  refine ⟨_, rfl, ((Below.refl _ _).alloc (Nat.le_refl _) _).alloc (by simp) _, fun W hW => ?_⟩
  have k1 := h3.below hW h3.lt
  have k2 := h2.below hW h2.lt
  exact ⟨k1.cell rfl, k1.cell rfl, k2.cell rfl, k2.cell rfl, k2.cell rfl, k2.cell rfl, k2.cell rfl, k2.cell rfl, k1.lt, k2.lt⟩
theorem recover_zero {p : Plan} {t : List Nat} {s : State} {n : Int} (h : recoverE p t = (s, n, 0)) : checkPlan p = 0 ∧ t.length ≤ 4096 ∧ s = doneOf p (replay 60 t).1 (begin p) ∧ n = (replay 60 t).1.length ∧ checkState p s = 0 := by
  unfold recoverE at h
  by_cases h1 : checkPlan p = 0
  · rw [if_neg (fun hn => hn h1)] at h
    by_cases h2 : 4096 < t.length
    · have h3 : (replayE t).2.2 ≠ 0 := by unfold replayE; rw [if_pos h2]; simp
      rw [if_pos h3] at h
      injection h with _ h
      injection h with _ h
      exact absurd h h3
    · have h3 : replayE t = ((replay 60 t).1, ((replay 60 t).2 : Int), 0) := by unfold replayE; rw [if_neg h2]
      rw [h3, if_neg (by simp)] at h
      injection h with h4 h
      injection h with h5 h
      subst h4
      exact ⟨h1, by omega, rfl, h5.symm, doneOf_check (begin_right h1)⟩
  · rw [if_pos h1] at h
    injection h with _ h
    injection h with _ h
    exact absurd h h1
theorem more_plain {p : Plan} {t b : List Nat} {x : Deed} {s : State} {n : Int} {l : List Deed} (h1 : recoverE p t = (s, n, 0)) (h2 : writeE x = (b, 0)) (h3 : replayE t = (l, (t.length : Int), 0)) (h4 : l.length < 60) (h5 : t.length + b.length ≤ 4096) : recoverE p (t ++ b) = (doneOf p [x] s, n + 1, 0) := by
  obtain ⟨hc, ht, hs, hn, _⟩ := recover_zero h1
  have hw := writeE_zero (x := x) (by rw [h2])
  have e1 : replayE t = ((replay 60 t).1, ((replay 60 t).2 : Int), 0) := by unfold replayE; rw [if_neg (by omega)]
  rw [e1] at h3
  injection h3 with h6 h3
  injection h3 with h7 _
  have hb : b = actBytes x := by have := hw.2.2; rw [h2] at this; exact this
  have hm := replay_more 60 t b x ⟨hw.1, hw.2.1⟩ hb (by omega) (by rw [h6]; exact h4)
  have e2 : replayE (t ++ b) = ((replay 60 t).1 ++ [x], ((t.length + b.length : Nat) : Int), 0) := by
    unfold replayE
    rw [if_neg (by rw [List.length_append]; omega), hm]
  unfold recoverE
  rw [if_neg (fun hn => hn hc), e2, if_neg (by simp)]
  simp only [List.length_append, List.length_cons, List.length_nil, Prod.mk.injEq, and_true]
  refine ⟨by rw [doneOf_append, hs], by rw [hn]; omega⟩
theorem recover_small (p : Plan) (t : List Nat) : small (recoverE p t).1 = true := by
  unfold recoverE
  by_cases h1 : checkPlan p = 0
  · rw [if_neg (fun hn => hn h1)]
    split
    · show small dState = true
      decide
    · exact check_small (doneOf_check (begin_right h1))
  · rw [if_pos h1]
    show small dState = true
    decide

set_option maxHeartbeats 20000000 in
set_option maxRecDepth 100000 in
theorem logMoreWalk (w : World) (v vd : Value) (p : Plan) (t : List Nat) (x : Deed) (hp : PlanV w w.heap.size v p) (hb : ∀ n ∈ t, n < 256) (hd : DeedV w w.heap.size vd x) (hlb : x.lines.length ≤ 4398046511104) :
    Calls Tryz.prog 12 #[v, .string (bstr t), vd] w fun e w' => e = .returned (.bool true) ∧ Below w.heap.size w w' := by
  obtain ⟨Ab, cb, As, cs, rfl, hP', hBn, hSz, hls1, hls2⟩ := openPl hp
  obtain ⟨Al, cl, rfl, hDV, hLn, hll⟩ := openDeed hd
  have hb' := Lib.hid hb
  clear hd hp hb
  obtain ⟨s1, n1, e1, hre⟩ : ∃ s1 n1 e1, recoverE p t = (s1, n1, e1) := ⟨_, _, _, rfl⟩
  obtain ⟨b, f, hwr⟩ : ∃ b f, writeE x = (b, f) := ⟨_, _, rfl⟩
  obtain ⟨l, k, g, hrp⟩ : ∃ l k g, replayE t = (l, k, g) := ⟨_, _, _, rfl⟩
  have hre' := Lib.hid hre
  have hwr' := Lib.hid hwr
  have hrp' := Lib.hid hrp
  have hsm1 := Lib.hid (show small s1 = true by have := recover_small p t; rwa [hre] at this)
  have hl60 := replayE_len hrp
  have hst := bstr_size t
  have hsb := bstr_size b
  have hadd := bstr_append t b
  clear hre hwr hrp
  go_enter Tryz.func12, Tryz.ntmps12
  go_wp2_with fail
  obtain ⟨W0, hW0, hb0, hK⟩ := boxesPD w p Ab cb As cs x Al cl
  rw [hW0]
  have hK' := Lib.hid hK
  clear hW0 hK
  obtain ⟨y0, y1, d0, d1, d2, d3, d4, d5, ty, td⟩ := hK'.out _ (Below.refl _ _)
  go_wp2_with fail
  clear y0 y1 d0 d1 d2 d3 d4 d5 ty td
  refine (lgRecover _ _ p t (hP'.out _ hb0) hb'.out).mono ?_
  rintro e W1 ⟨V1, rfl, ho1, h1⟩
  rw [hre'.out] at ho1 ⊢
  simp only at ho1 ⊢
  have hone2 := (ho1).one
  have hnb2 := newBox (W1)
  go_wp2_with (refine wpList_store_state rfl (.tmp 7) (.tmp 24) rfl rfl (World.heap (W1)).size nilSV V1 hnb2 rfl rfl hone2 (fun w2 hbox2 hg2 => ?_); refine Hid.out ?_)
  unfold Hid
  have hbb2 := newBelow hg2
  have hbl2 := hbox2.lt
  clear hone2 hnb2 hg2
  have hone1 := ho1.one
  have h02 := h1.trans (hbb2.mono h1.size)
  have hB2 := hb0.trans (h02.mono hb0.size)
  have hv2 := Lib.hid ((ho1.below hbb2).view0 hsm1.out)
  have hbox2' := Lib.hid hbox2
  clear hbox2 ho1 h1 hbb2
  generalize W1.heap.size = bx at hbox2' hbl2 ⊢
  obtain ⟨y0, y1, d0, d1, d2, d3, d4, d5, ty, td⟩ := hK'.out _ h02
  go_wp2_with fail
  clear y0 y1 d0 d1 d2 d3 d4 d5 ty td
  refine (lgWrite _ _ x (hDV.out _ hB2) hlb).mono ?_
  rintro e W3 ⟨rfl, h3⟩
  rw [hwr'.out]
  have h03 := h02.trans (h3.mono h02.size)
  have hB3 := hb0.trans (h03.mono hb0.size)
  have hv3 := Lib.hid (hv2.out.grow h3)
  have hbox3 := Lib.hid (hbox2'.out.below h3 hbl2)
  clear hv2 hbox2' hbl2 h3 h02 hB2
  simp only
  go_wp2_with fail
  refine (lgReplay _ t hb'.out).mono ?_
  rintro e W4 ⟨vl, rfl, hA4, h4⟩
  rw [hrp'.out] at hA4 ⊢
  simp only at hA4 ⊢
  obtain ⟨A4, c4, rfl⟩ := hA4.isSlice
  have h04 := h03.trans (h4.mono h03.size)
  have hB4 := hb0.trans (h04.mono hb0.size)
  have hv4 := Lib.hid (hv3.out.grow h4)
  have hbox4 := Lib.hid (hbox3.out.below h4 hbox3.out.lt)
  clear hv3 hbox3 h4 hA4 h03 hB3
  by_cases c1 : e1 = 0
  · subst c1
    by_cases c2 : f = 0
    · subst c2
      by_cases c3 : g = 0
      · subst c3
        have ht4 := (recover_zero hre'.out).2.1
        have hbl : b.length ≤ 18 := by
          have hw := writeE_zero (x := x) (by rw [hwr'.out])
          have e := hw.2.2
          rw [hwr'.out] at e
          simp only at e
          rw [e, actBytes_length]
          have := hw.2.1
          omega
        have hww : IntKind.i64.wrap ((t.length : Int) + (b.length : Int)) = (t.length : Int) + (b.length : Int) := IntWalk.i64_in _ (by omega)
        by_cases c4' : k = (t.length : Int)
        · subst c4'
          by_cases c5 : l.length < 60
          · have c5i : ¬ (60 : Int) ≤ (l.length : Int) := by omega
            by_cases c6 : t.length + b.length ≤ 4096
            · have c6i : ¬ (4096 : Int) < (t.length : Int) + (b.length : Int) := by omega
              have hmo := Lib.hid (more_plain hre'.out hwr'.out hrp'.out c5 c6)
              have hn1 := (recover_zero hre'.out).2.2.2.1
              have hnn : IntKind.i64.wrap (n1 + 1) = n1 + 1 := IntWalk.i64_in _ (by have := (replay_len 60 t).1; omega)
              have hbb : ∀ m ∈ t ++ b, m < 256 := fun m hm => by
                rcases List.mem_append.1 hm with h | h
                · exact hb'.out m h
                · have hw := writeE_zero (x := x) (by rw [hwr'.out])
                  have e := hw.2.2
                  rw [hwr'.out] at e
                  simp only at e
                  rw [e, ← wrote_all hw.1 hw.2.1] at h
                  exact wrote_lt x _ m h
              have hbb' := Lib.hid hbb
              have hck := Lib.hid (recover_zero hre'.out).2.2.2.2
              obtain ⟨y, c, hact⟩ : ∃ y c, act p s1 x = (y, c) := ⟨_, _, rfl⟩
              have hact' := Lib.hid hact
              have hysm := Lib.hid (show small y = true by have := deed_small p s1 x; rwa [hact] at this)
              have hdn := Lib.hid (show doneOf p [x] s1 = if c = 0 then y else s1 by
                show (if (act p s1 x).2 = 0 then (act p s1 x).1 else s1) = _
                rw [hact])
              clear hbb hact hn1 c5 c6 hbl ht4
              obtain ⟨y0, y1, d0, d1, d2, d3, d4, d5, ty, td⟩ := hK'.out _ h04
              go_wp2_with fail
              clear y0 y1 d0 d1 d2 d3 d4 d5 ty td
              refine (lgRecover _ _ p (t ++ b) (hP'.out _ hB4) hbb'.out).mono ?_
              rintro e W5 ⟨V5, rfl, ho5, h5⟩
              rw [hmo.out] at ho5 ⊢
              simp only at ho5 ⊢
              have hone6 := (ho5).one
              have hnb6 := newBox (W5)
              go_wp2_with (refine wpList_store_state rfl (.tmp 15) (.tmp 74) rfl rfl (World.heap (W5)).size nilSV V5 hnb6 rfl rfl hone6 (fun w6 hbox6 hg6 => ?_); refine Hid.out ?_)
              unfold Hid
              have hbb6 := newBelow hg6
              have hbl6 := hbox6.lt
              clear hone6 hnb6 hg6
              have h46 := h5.trans (hbb6.mono h5.size)
              have h06 := h04.trans (h46.mono h04.size)
              have hB6 := hb0.trans (h06.mono hb0.size)
              have hu6 := Lib.hid ((ho5.below hbb6).view0 (show small (doneOf p [x] s1) = true from check_small (doneOf_check hck.out)))
              have hbox6' := Lib.hid hbox6
              have hv6 := Lib.hid (hv4.out.grow h46)
              have hbt6 := Lib.hid (hbox4.out.below h46 hbox4.out.lt)
              clear ho5 hbb6 hbox6 h5 h46 h04 hB4 hv4 hbox4 hww
              generalize W5.heap.size = bu at hbox6' hbl6 ⊢
              obtain ⟨y0, y1, d0, d1, d2, d3, d4, d5, ty, td⟩ := hK'.out _ h06
              obtain ⟨p0, p1, p2, p3, p4, p5, p6⟩ := hbt6.out.cells
              have tb6 := hbt6.out.lt
              go_wp2_with fail
              clear y0 y1 d0 d1 d2 d3 d4 d5 ty td p0 p1 p2 p3 p4 p5 p6
              refine (lgDoAt hact'.out _ _ _ _ (hP'.out _ hB6) hv6.out (hDV.out _ hB6)).mono ?_
              rintro e W7 ⟨V7, rfl, ho7, h7⟩
              have hone8 := (ho7).one
              have hnb8 := newBox (W7)
              go_wp2_with (refine wpList_store_state rfl (.tmp 18) (.tmp 82) rfl rfl (World.heap (W7)).size nilSV V7 hnb8 rfl rfl hone8 (fun w8 hbox8 hg8 => ?_); refine Hid.out ?_)
              unfold Hid
              have hbb8 := newBelow hg8
              have hbl8 := hbox8.lt
              clear hone8 hnb8 hg8
              have h68 := h7.trans (hbb8.mono h7.size)
              have h08 := h06.trans (h68.mono h06.size)
              have hB8 := hb0.trans (h08.mono hb0.size)
              have hy8 := Lib.hid ((ho7.below hbb8).view0 hysm.out)
              have ho8 := Lib.hid (ho7.below hbb8)
              have hbox8' := Lib.hid hbox8
              have hbu8 := Lib.hid (hbox6'.out.below h68 hbl6)
              have hbt8 := Lib.hid (hbt6.out.below h68 hbt6.out.lt)
              have hw6 := hB6.size
              have hlt78 : w6.heap.size ≤ W7.heap.size ∧ bu < W7.heap.size ∧ bx < W7.heap.size := by
                have := h7.size
                have := hbt6.out.lt
                omega
              clear ho7 hbb8 hbox8 h7 h06 hB6 hbox6' hbt6
              generalize W7.heap.size = bw at hbox8' hbl8 hlt78 ⊢
              by_cases c7 : c = 0
              · subst c7
                have hdn2 : doneOf p [x] s1 = y := by rw [hdn.out, if_pos rfl]
                rw [hdn2] at hu6
                go_wp2_with fail
                refine (logBegun _).mono ?_
                rintro e W9 ⟨rfl, h9⟩
                have hB9 := hB8.trans (h9.mono hB8.size)
                have hx1 := (hu6.out.grow h68).grow h9
                have hx2 := hy8.out.grow h9
                obtain ⟨p0, p1, p2, p3, p4, p5, p6⟩ := (hbu8.out.below h9 hbu8.out.lt).cells
                obtain ⟨q0, q1, q2, q3, q4, q5, q6⟩ := (hbox8'.out.below h9 hbl8).cells
                go_wp2_with fail
                clear p0 p1 p2 p3 p4 p5 p6 q0 q1 q2 q3 q4 q5 q6
                refine (rSameStates _ _ _ _ hx1 hx2).mono ?_
                rintro e W10 ⟨rfl, h10⟩
                go_wp2_with fail
                go_ret
                exact ⟨rfl, hB9.trans (h10.mono hB9.size)⟩
              · have q7 : (c != 0) = true := by simpa using c7
                have hdn2 : doneOf p [x] s1 = s1 := by rw [hdn.out, if_neg c7]
                rw [hdn2] at hu6
                obtain ⟨p0, p1, p2, p3, p4, p5, p6⟩ := hbt8.out.cells
                have tb8 := hbt8.out.lt
                go_wp2_with (refine wpList_store_state rfl (.tmp 18) (.tmp 86) rfl rfl bw V7 V1 hbox8'.out rfl rfl hone1 (fun w9 hbox9 hg9 => ?_); refine Hid.out ?_)
                unfold Hid
                have hB9 := hB8.grown hg9 hB8.size (fun j hj => by injection hj with hj; omega)
                have h69 := h68.grown hg9 h68.size (fun j hj => by injection hj with hj; omega)
                have hbu9 := Lib.hid (hbu8.out.grown hg9 (by intro he; injection he with he; omega))
                have hbox9' := Lib.hid hbox9
                have hx1 := hu6.out.grow h69
                have hx2 := hv6.out.grow h69
                clear p0 p1 p2 p3 p4 p5 p6 hbox9 hg9
                go_wp2_with fail
                refine (logBegun _).mono ?_
                rintro e W10 ⟨rfl, h10⟩
                have hB10 := hB9.trans (h10.mono hB9.size)
                have hx3 := hx1.grow h10
                have hx4 := hx2.grow h10
                obtain ⟨p0, p1, p2, p3, p4, p5, p6⟩ := (hbu9.out.below h10 hbu9.out.lt).cells
                obtain ⟨q0, q1, q2, q3, q4, q5, q6⟩ := (hbox9'.out.below h10 hbox9'.out.lt).cells
                go_wp2_with fail
                clear p0 p1 p2 p3 p4 p5 p6 q0 q1 q2 q3 q4 q5 q6
                refine (rSameStates _ _ _ _ hx3 hx4).mono ?_
                rintro e W11 ⟨rfl, h11⟩
                go_wp2_with fail
                go_ret
                exact ⟨rfl, hB10.trans (h11.mono hB10.size)⟩
            · have c6i : (4096 : Int) < (t.length : Int) + (b.length : Int) := by omega
              go_wp2_with fail
              refine (logBegun _).mono ?_
              rintro e W9 ⟨rfl, h9⟩
              go_wp2_with fail
              go_ret
              exact ⟨rfl, hB4.trans (h9.mono hB4.size)⟩
          · have c5i : (60 : Int) ≤ (l.length : Int) := by omega
            go_wp2_with fail
            refine (logBegun _).mono ?_
            rintro e W9 ⟨rfl, h9⟩
            go_wp2_with fail
            go_ret
            exact ⟨rfl, hB4.trans (h9.mono hB4.size)⟩
        · have q4 : (k != (t.length : Int)) = true := by simpa using c4'
          go_wp2_with fail
          refine (logBegun _).mono ?_
          rintro e W9 ⟨rfl, h9⟩
          go_wp2_with fail
          go_ret
          exact ⟨rfl, hB4.trans (h9.mono hB4.size)⟩
      · have q3 : (g != 0) = true := by simpa using c3
        go_wp2_with fail
        refine (logBegun _).mono ?_
        rintro e W9 ⟨rfl, h9⟩
        go_wp2_with fail
        go_ret
        exact ⟨rfl, hB4.trans (h9.mono hB4.size)⟩
    · have q2 : (f != 0) = true := by simpa using c2
      go_wp2_with fail
      refine (logBegun _).mono ?_
      rintro e W9 ⟨rfl, h9⟩
      go_wp2_with fail
      go_ret
      exact ⟨rfl, hB4.trans (h9.mono hB4.size)⟩
  · have q1 : (e1 != 0) = true := by simpa using c1
    go_wp2_with fail
    refine (logBegun _).mono ?_
    rintro e W9 ⟨rfl, h9⟩
    go_wp2_with fail
    go_ret
    exact ⟨rfl, hB4.trans (h9.mono hB4.size)⟩
end Wh
namespace Wh
open Go Go.RowKit Go.ChangeShapes Go.WideShapes Go.Deep Go.Proofs
theorem bytes_line : Tryz.prog.bytesOf 44 = 32 := by kernel_rfl
theorem u_string : Tryz.prog.underlying 9 = some .string := by kernel_rfl
section
variable {H : Type} {en : TypeId × Value → H} {w : World} {base : Nat} {sp : Nat → Bool} {hd : Bool}
theorem Rd.weigh {P : Program} {t e : TypeId} {cs : List Value} (ht : P.underlying t = some (.slice e)) (h : Rd en P w base sp hd t cs) : ∃ (A : Option Addr) (len c : Nat), cs = [.slice A len c] ∧ len * P.bytesOf e ≤ reachBytes := by
  obtain ⟨n, x, h, hw⟩ := h
  rcases open_slice ht h with ⟨rfl, _⟩ | ⟨a, len, cap, m, n', D, Pl, rfl, _, hl, _, hm, hx, hi⟩
  · exact ⟨none, 0, 0, rfl, by rw [Nat.zero_mul]; exact Nat.zero_le _⟩
  · have hreach : (len + (m - len)) * P.bytesOf e ≤ reachBytes := hw _ (by rw [hx]; simp [DataW.weights, ht])
    exact ⟨some a, len, cap, rfl, Nat.le_trans (Nat.mul_le_mul_right _ (by omega)) hreach⟩
set_option maxRecDepth 100000 in
theorem Rt.actcap {cs : List Value} (hl : cs.length = 6) (h : Rt en w base sp hd 34 cs) : ∃ x, DeedV w w.heap.size (.agg cs.toArray) x ∧ x.lines.length ≤ 4398046511104 := by
  obtain ⟨x, hx⟩ := Rt.act hl h
  match cs, hl with
  | [v0, v1, v2, v3, v4, v5], _ =>
    obtain ⟨x5, e5, r5⟩ := h.field s_act o_act (c_act.trans n_act.symm) f_act 5 _ rfl
    obtain rfl := Option.some.inj e5
    obtain ⟨A, len, c, q5, hlen⟩ := Rd.weigh u_lines r5
    obtain rfl := (List.cons.inj q5).1
    refine ⟨x, hx, ?_⟩
    obtain ⟨vl, e, A', c', hv, _⟩ := hx
    rw [hv] at e
    injection e with e
    simp only [Array.mk.injEq, List.cons.injEq, and_true] at e
    obtain ⟨_, _, _, _, _, e6⟩ := e
    injection e6 with _ e7 _
    rw [bytes_line] at hlen
    simp only [reachBytes] at hlen
    omega
set_option maxRecDepth 100000 in
theorem act_cap_of {b0 : Nat} {r : Reach} {v : Value} (hv : Value.okWide Tryz.prog w r b0 34 v) (h : Rt en w base sp hd 34 v.cells.toList) : ∃ x, DeedV w w.heap.size v x ∧ x.lines.length ≤ 4398046511104 := by
  obtain ⟨cs, rfl, hsz⟩ := okWide_struct s_act hv
  obtain ⟨x, hx, hl⟩ := Rt.actcap (by simpa [Value.cells] using hsz.trans c_act) h
  exact ⟨x, by simpa [Value.cells] using hx, hl⟩
end
/-- A text's bytes. -/
def nums (s : ByteArray) : List Nat := s.data.toList.map UInt8.toNat
theorem bstr_nums (s : ByteArray) : bstr (nums s) = s := by
  unfold bstr nums
  apply ByteArray.ext
  simp [List.map_map, Function.comp_def]
theorem nums_lt (s : ByteArray) : ∀ n ∈ nums s, n < 256 := fun n hn => by
  obtain ⟨b, _, rfl⟩ := List.mem_map.1 hn
  exact b.toNat_lt
end Wh
