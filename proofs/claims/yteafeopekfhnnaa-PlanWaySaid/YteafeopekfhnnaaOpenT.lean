/- The arguments of the laws opened (Plan, rows, holds), over the program. -/
import Derived.Test.YteafeopekfhnnaaOpen
import Derived.Test.YteafeopekfhnnaaPlainA
import Derived.Test.YteafeopekfhnnaaChecked
import Derived.KernelRfl
namespace Wh
open Go Go.RowKit Go.ChangeShapes Go.WideShapes Go.Deep Go.Proofs

instance : Inhabited Bin := ⟨⟨false, 0, 0, 0⟩⟩
instance : Inhabited Hold := ⟨⟨0, 0, 0, 0⟩⟩

def structFields (P : Program) (t : TypeId) : Array Field := match P.underlying t with
  | some (.struct fs) => fs
  | _ => #[]
theorem fields_eq {P : Program} {t : TypeId} (h : (match P.underlying t with | some (.struct _) => true | _ => false) = true) : P.underlying t = some (.struct (structFields P t)) := by
  unfold structFields
  split at h
  · rename_i h'; rw [h']
  · cases h

theorem u_int : Try.prog.underlying 3 = some (.int .i64) := by kernel_rfl
theorem u_bool : Try.prog.underlying 4 = some .bool := by kernel_rfl
theorem u_ints : Try.prog.underlying 23 = some (.slice 3) := by kernel_rfl
theorem u_rows : Try.prog.underlying 36 = some (.slice 23) := by kernel_rfl
theorem u_bins : Try.prog.underlying 22 = some (.slice 35) := by kernel_rfl
theorem c_int : Try.prog.cellsOf 3 = 1 := by kernel_rfl
theorem c_ints : Try.prog.cellsOf 23 = 1 := by kernel_rfl
theorem b_int : 0 < Try.prog.bytesOf 3 := of_decide_eq_true (by kernel_rfl)
theorem b_ints : 0 < Try.prog.bytesOf 23 := of_decide_eq_true (by kernel_rfl)
theorem b_bin : 0 < Try.prog.bytesOf 35 := of_decide_eq_true (by kernel_rfl)
theorem s_bin : Try.prog.underlying 35 = some (.struct (structFields Try.prog 35)) := fields_eq (by kernel_rfl)
theorem o_bin : oneCellFields Try.prog (structFields Try.prog 35) = true := by kernel_rfl
theorem n_bin : (structFields Try.prog 35).size = 4 := by kernel_rfl
theorem c_bin : Try.prog.cellsOf 35 = 4 := by kernel_rfl
theorem f_bin : (structFields Try.prog 35).toList.map (·.type) = [4, 3, 3, 3] := by kernel_rfl
theorem s_plan : Try.prog.underlying 25 = some (.struct (structFields Try.prog 25)) := fields_eq (by kernel_rfl)
theorem o_plan : oneCellFields Try.prog (structFields Try.prog 25) = true := by kernel_rfl
theorem n_plan : (structFields Try.prog 25).size = 2 := by kernel_rfl
theorem c_plan : Try.prog.cellsOf 25 = 2 := by kernel_rfl
theorem f_plan : (structFields Try.prog 25).toList.map (·.type) = [22, 23] := by kernel_rfl

section
variable {H : Type} {en : TypeId × Value → H} {w : World} {base : Nat} {sp : Nat → Bool} {hd : Bool}
theorem Rd.field {P : Program} {t : TypeId} {fs : Array Field} {cs : List Value} {ts : List TypeId} (hs : P.underlying t = some (.struct fs)) (hone : oneCellFields P fs = true) (hC : P.cellsOf t = fs.size) (hf : fs.toList.map (·.type) = ts)
    (h : Rd en P w base sp hd t cs) (j : Nat) (t' : TypeId) (hj : ts[j]? = some t') : ∃ v, cs[j]? = some v ∧ Rd en P w base sp hd t' [v] := by
  subst hf
  rw [List.getElem?_map, Array.getElem?_toList] at hj
  obtain ⟨f, hf, rfl⟩ := Option.map_eq_some_iff.1 hj
  exact (h.fields hs hone hC).2 j f hf
abbrev Rt (en : TypeId × Value → H) (w : World) (base : Nat) (sp : Nat → Bool) (hd : Bool) (t : TypeId) (cs : List Value) : Prop := Rd en Try.prog w base sp hd t cs
theorem Rt.ints {cs : List Value} (h : Rt en w base sp hd 23 cs) : ∃ v l, cs = [v] ∧ Sl cInt w w.heap.size v l :=
  Rd.sl u_ints c_int b_int (fun _ => rfl) (by decide) (fun cs' _ h => h.int u_int) h
theorem Rt.rows {cs : List Value} (h : Rt en w base sp hd 36 cs) : ∃ v l, cs = [v] ∧ SlSl cInt w w.heap.size v l := by
  obtain ⟨A, c, l, vs, rfl, h1, h2, h3, h4⟩ := Rd.cells (α := List Int) (k := 1) (enc := fun v _ => [v]) (Q := fun v x => Sl cInt w w.heap.size v x) u_rows c_ints b_ints (fun _ _ => rfl) (by decide) (fun cs' _ h => by
    obtain ⟨v, l, rfl, hs⟩ := Rt.ints h
    exact ⟨v, l, rfl, hs⟩) h
  refine ⟨_, l, rfl, A, c, vs, rfl, h1, h2, ?_, h4⟩
  have : ((l.zip vs).flatMap fun x => [x.2]) = vs := by
    rw [← List.map_eq_flatMap, List.map_snd_zip]
    omega
  rwa [this] at h3
theorem Rt.bin {cs : List Value} (hl : cs.length = 4) (h : Rt en w base sp hd 35 cs) : ∃ b, cs = cBin b := by
  match cs, hl with
  | [v0, v1, v2, v3], _ =>
    obtain ⟨x0, e0, r0⟩ := h.field s_bin o_bin (c_bin.trans n_bin.symm) f_bin 0 _ rfl
    obtain ⟨x1, e1, r1⟩ := h.field s_bin o_bin (c_bin.trans n_bin.symm) f_bin 1 _ rfl
    obtain ⟨x2, e2, r2⟩ := h.field s_bin o_bin (c_bin.trans n_bin.symm) f_bin 2 _ rfl
    obtain ⟨x3, e3, r3⟩ := h.field s_bin o_bin (c_bin.trans n_bin.symm) f_bin 3 _ rfl
    obtain rfl := Option.some.inj e0
    obtain rfl := Option.some.inj e1
    obtain rfl := Option.some.inj e2
    obtain rfl := Option.some.inj e3
    obtain ⟨b0, q0⟩ := r0.bool u_bool
    obtain ⟨b1, q1⟩ := r1.int u_int
    obtain ⟨b2, q2⟩ := r2.int u_int
    obtain ⟨b3, q3⟩ := r3.int u_int
    obtain rfl := (List.cons.inj q0).1
    obtain rfl := (List.cons.inj q1).1
    obtain rfl := (List.cons.inj q2).1
    obtain rfl := (List.cons.inj q3).1
    exact ⟨⟨b0, b1, b2, b3⟩, rfl⟩
theorem Rt.bins {cs : List Value} (h : Rt en w base sp hd 22 cs) : ∃ v l, cs = [v] ∧ Sl cBin w w.heap.size v l :=
  Rd.sl u_bins c_bin b_bin (fun _ => rfl) (by decide) (fun _ hl h => Rt.bin hl h) h
theorem Rt.plan {cs : List Value} (hl : cs.length = 2) (h : Rt en w base sp hd 25 cs) : ∃ v0 v1 p, cs = [v0, v1] ∧ PlanV w w.heap.size (.agg #[v0, v1]) p := by
  match cs, hl with
  | [v0, v1], _ =>
    obtain ⟨x0, e0, r0⟩ := h.field s_plan o_plan (c_plan.trans n_plan.symm) f_plan 0 _ rfl
    obtain ⟨x1, e1, r1⟩ := h.field s_plan o_plan (c_plan.trans n_plan.symm) f_plan 1 _ rfl
    obtain rfl := Option.some.inj e0
    obtain rfl := Option.some.inj e1
    obtain ⟨_, l0, q0, hs0⟩ := Rt.bins r0
    obtain ⟨_, l1, q1, hs1⟩ := Rt.ints r1
    obtain rfl := (List.cons.inj q0).1
    obtain rfl := (List.cons.inj q1).1
    exact ⟨_, _, ⟨l0, l1⟩, rfl, _, _, rfl, hs0, hs1⟩
theorem rd_of {P : Program} {ts : List TypeId} {ds : List (DataW H)} {j : Nat} {t : TypeId} {v : Value} {d : DataW H} {ps : List MemPlace} (hsz : (DataW.weightsEach P ts ds).all (· ≤ reachBytes) = true) (ht : ts[j]? = some t) (hds : ds[j]? = some d)
    (h : DataW.Trod en P w base sp hd t v d ps) : Rd en P w base sp hd t v.cells.toList := by
  obtain ⟨n, hn⟩ := h
  exact ⟨n, _, hn, fun k hk => by simpa using List.all_eq_true.1 hsz _ (DataW.weights_mem_each ht hds k hk)⟩
theorem plan_of {b0 : Nat} {r : Reach} {v : Value} (hv : Value.okWide Try.prog w r b0 25 v) (h : Rt en w base sp hd 25 v.cells.toList) : ∃ p, PlanV w w.heap.size v p := by
  obtain ⟨cs, rfl, hsz⟩ := okWide_struct s_plan hv
  obtain ⟨l⟩ := cs
  obtain ⟨v0, v1, p, e, hp⟩ := Rt.plan (by simpa [Value.cells] using hsz.trans c_plan) h
  have e' : l = [v0, v1] := by simpa [Value.cells] using e
  subst e'
  exact ⟨p, hp⟩
theorem rows_of {b0 : Nat} {r : Reach} {v : Value} (hv : Value.okWide Try.prog w r b0 36 v) (h : Rt en w base sp hd 36 v.cells.toList) : ∃ l, SlSl cInt w w.heap.size v l := by
  obtain ⟨A, len, c, rfl⟩ := okWide_slice u_rows hv
  obtain ⟨v, l, e, hs⟩ := Rt.rows h
  obtain rfl : Value.slice A len c = v := by simpa [Value.cells] using e
  exact ⟨l, hs⟩
end
end Wh
