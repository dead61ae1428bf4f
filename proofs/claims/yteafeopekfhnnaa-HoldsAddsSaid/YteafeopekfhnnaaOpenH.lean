/- The arguments of the laws opened (holds), over the program. -/
import Derived.Test.YteafeopekfhnnaaOpenT
import Derived.Test.YteafeopekfhnnaaReg
namespace Wh
open Go Go.RowKit Go.ChangeShapes Go.WideShapes Go.Deep Go.Proofs

/-- A hold as it is handed over. -/
def HoldV (v : Value) (h : Hold) : Prop := v = vHold h

theorem u_holds : Try.prog.underlying 49 = some (.slice 58) := by kernel_rfl
theorem b_hold : 0 < Try.prog.bytesOf 58 := of_decide_eq_true (by kernel_rfl)
theorem s_hold : Try.prog.underlying 58 = some (.struct (structFields Try.prog 58)) := fields_eq (by kernel_rfl)
theorem o_hold : oneCellFields Try.prog (structFields Try.prog 58) = true := by kernel_rfl
theorem n_hold : (structFields Try.prog 58).size = 4 := by kernel_rfl
theorem c_hold : Try.prog.cellsOf 58 = 4 := by kernel_rfl
theorem f_hold : (structFields Try.prog 58).toList.map (·.type) = [3, 3, 3, 3] := by kernel_rfl

section
variable {H : Type} {en : TypeId × Value → H} {w : World} {base : Nat} {sp : Nat → Bool} {hd : Bool}
theorem Rt.four_ints {t : TypeId} (s_t : Try.prog.underlying t = some (.struct (structFields Try.prog t))) (o_t : oneCellFields Try.prog (structFields Try.prog t) = true) (c_t : Try.prog.cellsOf t = (structFields Try.prog t).size)
    (f_t : (structFields Try.prog t).toList.map (·.type) = [3, 3, 3, 3]) {cs : List Value} (hl : cs.length = 4) (h : Rt en w base sp hd t cs) : ∃ a b c d : Int, cs = [.int .i64 a, .int .i64 b, .int .i64 c, .int .i64 d] := by
  match cs, hl with
  | [v0, v1, v2, v3], _ =>
    obtain ⟨x0, e0, r0⟩ := h.field s_t o_t c_t f_t 0 _ rfl
    obtain ⟨x1, e1, r1⟩ := h.field s_t o_t c_t f_t 1 _ rfl
    obtain ⟨x2, e2, r2⟩ := h.field s_t o_t c_t f_t 2 _ rfl
    obtain ⟨x3, e3, r3⟩ := h.field s_t o_t c_t f_t 3 _ rfl
    obtain rfl := Option.some.inj e0
    obtain rfl := Option.some.inj e1
    obtain rfl := Option.some.inj e2
    obtain rfl := Option.some.inj e3
    obtain ⟨b0, q0⟩ := r0.int u_int
    obtain ⟨b1, q1⟩ := r1.int u_int
    obtain ⟨b2, q2⟩ := r2.int u_int
    obtain ⟨b3, q3⟩ := r3.int u_int
    obtain rfl := (List.cons.inj q0).1
    obtain rfl := (List.cons.inj q1).1
    obtain rfl := (List.cons.inj q2).1
    obtain rfl := (List.cons.inj q3).1
    exact ⟨b0, b1, b2, b3, rfl⟩
theorem Rt.hold {cs : List Value} (hl : cs.length = 4) (h : Rt en w base sp hd 58 cs) : ∃ x, cs = cHold x := by
  obtain ⟨a, b, c, d, rfl⟩ := Rt.four_ints s_hold o_hold (c_hold.trans n_hold.symm) f_hold hl h
  exact ⟨⟨a, b, c, d⟩, rfl⟩
theorem Rt.holds {cs : List Value} (h : Rt en w base sp hd 49 cs) : ∃ v l, cs = [v] ∧ Sl cHold w w.heap.size v l :=
  Rd.sl u_holds c_hold b_hold (fun _ => rfl) (by decide) (fun _ hl h => Rt.hold hl h) h
theorem holds_of {b0 : Nat} {r : Reach} {v : Value} (hv : Value.okWide Try.prog w r b0 49 v) (h : Rt en w base sp hd 49 v.cells.toList) : ∃ l, Sl cHold w w.heap.size v l := by
  obtain ⟨A, len, c, rfl⟩ := okWide_slice u_holds hv
  obtain ⟨v, l, e, hs⟩ := Rt.holds h
  obtain rfl : Value.slice A len c = v := by simpa [Value.cells] using e
  exact ⟨l, hs⟩
theorem hold_of {b0 : Nat} {r : Reach} {v : Value} (hv : Value.okWide Try.prog w r b0 58 v) (h : Rt en w base sp hd 58 v.cells.toList) : ∃ x, HoldV v x := by
  obtain ⟨cs, rfl, hsz⟩ := okWide_struct s_hold hv
  obtain ⟨l⟩ := cs
  obtain ⟨x, e⟩ := Rt.hold (by simpa [Value.cells] using hsz.trans c_hold) h
  have e' : l = cHold x := by simpa [Value.cells] using e
  subst e'
  exact ⟨x, rfl⟩
end
end Wh
