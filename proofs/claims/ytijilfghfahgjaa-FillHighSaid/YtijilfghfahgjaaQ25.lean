/- Texts of the claim, joined: Open, OpenT, OpenH, OpenS, OpenM, FillX, FillG. -/
import Derived.SizedLaws
import Derived.Deep.Slices
import Derived.Deep.Fields
import Derived.ChangeSame
import Derived.ChangeOld
import Derived.Carry
import Derived.Test.YtijilfghfahgjaaChecked
import Derived.KernelRfl
import Derived.StillTailTactics
import Derived.Test.YtijilfghfahgjaaQ01
import Derived.Test.YtijilfghfahgjaaQ02
import Derived.Test.YtijilfghfahgjaaQ03
import Derived.Test.YtijilfghfahgjaaQ24
import Derived.Test.YtijilfghfahgjaaQ17
import Derived.Test.YtijilfghfahgjaaQ10
import Derived.Test.YtijilfghfahgjaaQ08
import Derived.Test.YtijilfghfahgjaaQ16
import Derived.Test.YtijilfghfahgjaaQ18
import Derived.Test.YtijilfghfahgjaaQ04
import Derived.Test.YtijilfghfahgjaaQ20
import Derived.Test.YtijilfghfahgjaaQ21
import Derived.Test.YtijilfghfahgjaaQ23
namespace Wh
open Go Go.RowKit Go.ChangeShapes Go.WideShapes Go.Deep

theorem cell_lt {w : World} {a : Addr} {v : Value} (h : w.cell? a = some v) : a.block < w.heap.size := by
  by_cases hlt : a.block < w.heap.size
  · exact hlt
  · unfold World.cell? at h
    rw [Array.getElem?_eq_none (by omega)] at h
    simp at h

section
variable {H : Type} {en : TypeId × Value → H} {P : Program} {w : World} {base : Nat} {sp : Nat → Bool} {hd : Bool}

/-- Reads, and each of its slices is within the reach. -/
def Rd (en : TypeId × Value → H) (P : Program) (w : World) (base : Nat) (sp : Nat → Bool) (hd : Bool) (t : TypeId) (cs : List Value) : Prop :=
  ∃ (n : Nat) (x : DataW H × List MemPlace), DataW.trod en P w base sp hd n t cs = some x ∧ ∀ k ∈ x.1.weights P t, k ≤ reachBytes

theorem Rd.int {t : TypeId} {cs : List Value} (ht : P.underlying t = some (.int .i64)) (h : Rd en P w base sp hd t cs) : ∃ n, cs = [.int .i64 n] := by
  obtain ⟨n, x, h, _⟩ := h
  obtain ⟨m, hm, _⟩ := DataW.trod_int ht h
  exact ⟨m, hm⟩
theorem Rd.bool {t : TypeId} {cs : List Value} (ht : P.underlying t = some .bool) (h : Rd en P w base sp hd t cs) : ∃ b, cs = [.bool b] := by
  obtain ⟨n, x, h, _⟩ := h
  obtain ⟨m, hm, _⟩ := DataW.trod_bool ht h
  exact ⟨m, hm⟩

theorem Rd.fields {t : TypeId} {fs : Array Field} {cs : List Value} (hs : P.underlying t = some (.struct fs)) (hone : oneCellFields P fs = true) (hC : P.cellsOf t = fs.size) (h : Rd en P w base sp hd t cs) :
    cs.length = fs.size ∧ ∀ (j : Nat) (f : Field), fs[j]? = some f → ∃ v, cs[j]? = some v ∧ Rd en P w base sp hd f.type [v] := by
  obtain ⟨n, x, h, hw⟩ := h
  obtain ⟨xs, m, _, hx, hlen, hxl, hf⟩ := DataW.trod_struct hs h
  rw [hC] at hlen
  refine ⟨hlen, fun j f hj => ?_⟩
  have hjl : j < fs.size := (Array.getElem?_eq_some_iff.1 hj).1
  obtain ⟨ho, hk⟩ := hone_of hone j f hj
  have h1 := hf j f hj
  rw [ho, hk, List.drop_eq_getElem_cons (by omega)] at h1
  have hys : xs[j]? = some (xs[j]'(by omega)) := List.getElem?_eq_getElem (by omega)
  refine ⟨cs[j]'(by omega), List.getElem?_eq_getElem (by omega), m, xs[j]'(by omega), by rw [← hys, ← h1]; rfl, fun k hkm => hw k ?_⟩
  rw [hx]
  simp only [DataW.weights, hs]
  refine DataW.weights_mem_each (j := j) (t := f.type) (d := (xs[j]'(by omega)).1) ?_ ?_ k hkm
  · rw [List.getElem?_map, Array.getElem?_toList, hj]; rfl
  · rw [List.getElem?_map, hys]; rfl

theorem weights_mem_all {e : TypeId} : ∀ {ds : List (DataW H)} {j : Nat} {d : DataW H}, ds[j]? = some d → ∀ n ∈ d.weights P e, n ∈ DataW.weightsAll P e ds
  | d0 :: ds, 0, d, hd, n, hn => by
    simp only [List.getElem?_cons_zero, Option.some.injEq] at hd
    subst hd
    simp only [DataW.weightsAll, List.mem_append]
    exact Or.inl hn
  | d0 :: ds, j + 1, d, hd, n, hn => by
    simp only [List.getElem?_cons_succ] at hd
    simp only [DataW.weightsAll, List.mem_append]
    exact Or.inr (weights_mem_all hd n hn)
  | [], _, _, hd, _, _ => by simp at hd

/-- A slice's elements, each by itself. -/
theorem Rd.slice {t e : TypeId} {k : Nat} {cs : List Value} (ht : P.underlying t = some (.slice e)) (hC : P.cellsOf e = k) (hB : 0 < P.bytesOf e) (h : Rd en P w base sp hd t cs) :
    ∃ (A : Option Addr) (len c : Nat), cs = [.slice A len c] ∧ len ≤ 140737488355232 ∧
      ∀ i, i < len → ∃ cs', cs'.length = k ∧ Rd en P w base sp hd e cs' ∧ ∀ j v, cs'[j]? = some v → okA A ∧ ablk A < w.heap.size ∧ w.cell? ⟨ablk A, aoff A + (i * k + j), none⟩ = some v := by
  obtain ⟨n, x, h, hw⟩ := h
  rcases open_slice ht h with ⟨rfl, _⟩ | ⟨a, len, cap, m, n', D, Pl, rfl, _, hl, _, hm, hx, hi⟩
  · exact ⟨none, 0, 0, rfl, by omega, fun i hi => by omega⟩
  · have hlm : len ≤ m := by rw [hm]; split <;> omega
    have hreach : (len + (m - len)) * P.bytesOf e ≤ reachBytes := hw _ (by rw [hx]; simp [DataW.weights, ht])
    have hspot : 0 < len → 0 < k → a.spot = none := fun h1 h2 => by
      obtain ⟨cs', hc, _⟩ := hi 0 (by omega)
      rw [hC] at hc
      obtain ⟨_, hcl, hat⟩ := World.cells?_some hc
      have hcell := hat 0 h2
      rw [List.getElem?_eq_getElem (by omega), add_add] at hcell
      have := World.cell?_spot hcell
      simpa [Addr.add] using this
    refine ⟨some a, len, cap, rfl, ?_, fun i hi' => ?_⟩
    · have h1 : len * 1 ≤ (len + (m - len)) * P.bytesOf e := Nat.mul_le_mul (by omega) hB
      simp only [reachBytes] at hreach
      omega
    · obtain ⟨cs', hc, ht'⟩ := hi i (by omega)
      rw [hC] at hc
      obtain ⟨_, hcl, hat⟩ := World.cells?_some hc
      refine ⟨cs', hcl, ⟨n', _, ht', fun q hq => hw q ?_⟩, fun j v hj => ?_⟩
      · rw [hx]
        simp only [DataW.weights, ht, List.mem_cons, List.mem_append]
        refine .inr (.inl (weights_mem_all (j := i) (d := D i) ?_ q hq))
        rw [List.getElem?_map, List.getElem?_range hi']; rfl
      · have hjl : j < k := by rw [← hcl]; exact (List.getElem?_eq_some_iff.1 hj).1
        have hcell := hat j hjl
        rw [hj, add_add] at hcell
        obtain ⟨b, off, spot⟩ := a
        obtain rfl : spot = none := hspot (by omega) (by omega)
        rw [Addr.add_lit] at hcell
        exact ⟨okA_some _ _, cell_lt (a := ⟨b, off + (i * k + j), none⟩) hcell, hcell⟩

/-- A slice whose elements are all of the form 'enc x'. -/
theorem Rd.sl {α : Type} {enc : α → List Value} {k : Nat} {t e : TypeId} {cs : List Value} [Inhabited α] (ht : P.underlying t = some (.slice e)) (hC : P.cellsOf e = k) (hB : 0 < P.bytesOf e) (hk : ∀ x, (enc x).length = k) (h0 : 0 < k)
    (hel : ∀ cs', cs'.length = k → Rd en P w base sp hd e cs' → ∃ x : α, cs' = enc x) (h : Rd en P w base sp hd t cs) : ∃ v l, cs = [v] ∧ Sl enc w w.heap.size v l := by
  obtain ⟨A, len, c, rfl, hlen, hi⟩ := h.slice ht hC hB
  obtain ⟨X, hX⟩ := choose_lt (α := α) (n := len) (p := fun i x => ∀ j v, (enc x)[j]? = some v → okA A ∧ ablk A < w.heap.size ∧ w.cell? ⟨ablk A, aoff A + (i * k + j), none⟩ = some v) (fun i hil => by
    obtain ⟨cs', h1, h2, h3⟩ := hi i hil
    obtain ⟨x, rfl⟩ := hel cs' h1 h2
    exact ⟨x, h3⟩)
  refine ⟨_, (List.range len).map X, rfl, A, c, by simp, by simpa using hlen, fun hn => ?_⟩
  have hcell : ∀ j v, (((List.range len).map X).flatMap enc)[j]? = some v → okA A ∧ ablk A < w.heap.size ∧ w.cell? ⟨ablk A, aoff A + j, none⟩ = some v := fun j v hj => by
    have hjl : j < len * k := by
      have := (List.getElem?_eq_some_iff.1 hj).1
      rw [flat_length enc k hk] at this
      simpa using this
    have hq : j / k < len := (Nat.div_lt_iff_lt_mul h0).2 hjl
    have e1 : j / k * k + j % k = j := by rw [Nat.mul_comm]; exact Nat.div_add_mod j k
    have e2 := flat_get enc k hk ((List.range len).map X) (j / k) (j % k) (X (j / k)) (by rw [List.getElem?_map, List.getElem?_range hq]; rfl) (Nat.mod_lt _ h0)
    rw [e1, hj] at e2
    have := hX (j / k) hq (j % k) v e2.symm
    rwa [e1] at this
  have hlp : 0 < (((List.range len).map X).flatMap enc).length := List.length_pos_iff.2 hn
  obtain ⟨h1, h2, _⟩ := hcell 0 _ (List.getElem?_eq_getElem hlp)
  exact ⟨h1, h2, fun j v hj => (hcell j v hj).2.2⟩

/-- A slice of one-cell elements, each with a reading of its own. -/
theorem Rd.cells {α : Type} [Inhabited α] {k : Nat} {t e : TypeId} {cs : List Value} {enc : Value → α → List Value} {Q : Value → α → Prop} (ht : P.underlying t = some (.slice e)) (hC : P.cellsOf e = k) (hB : 0 < P.bytesOf e) (hk : ∀ v x, (enc v x).length = k) (h0 : 0 < k)
    (hel : ∀ cs', cs'.length = k → Rd en P w base sp hd e cs' → ∃ (v : Value) (x : α), cs' = enc v x ∧ Q v x) (h : Rd en P w base sp hd t cs) :
    ∃ (A : Option Addr) (c : Nat) (l : List α) (vs : List Value), cs = [.slice A l.length c] ∧ l.length ≤ 140737488355232 ∧ vs.length = l.length ∧ At w w.heap.size A ((l.zip vs).flatMap fun x => enc x.2 x.1) ∧
      ∀ (i : Nat) (x : α), l[i]? = some x → ∃ u, vs[i]? = some u ∧ Q u x := by
  obtain ⟨A, len, c, rfl, hlen, hi⟩ := h.slice ht hC hB
  obtain ⟨X, hX⟩ := choose_lt (α := α × Value) (n := len) (p := fun i x => Q x.2 x.1 ∧ ∀ j v, (enc x.2 x.1)[j]? = some v → okA A ∧ ablk A < w.heap.size ∧ w.cell? ⟨ablk A, aoff A + (i * k + j), none⟩ = some v) (fun i hil => by
    obtain ⟨cs', h1, h2, h3⟩ := hi i hil
    obtain ⟨v, x, rfl, hq⟩ := hel cs' h1 h2
    exact ⟨(x, v), hq, h3⟩)
  refine ⟨A, c, (List.range len).map (fun i => (X i).1), (List.range len).map (fun i => (X i).2), by simp, by simpa using hlen, by simp, ?_, fun i x hix => ?_⟩
  · have hz : ((List.range len).map (fun i => (X i).1)).zip ((List.range len).map (fun i => (X i).2)) = (List.range len).map X := by
      rw [List.zip_map']
    rw [hz]
    intro hn
    have hcell : ∀ j v, (((List.range len).map X).flatMap fun x => enc x.2 x.1)[j]? = some v → okA A ∧ ablk A < w.heap.size ∧ w.cell? ⟨ablk A, aoff A + j, none⟩ = some v := fun j v hj => by
      have hjl : j < len * k := by
        have := (List.getElem?_eq_some_iff.1 hj).1
        rw [flat_length (fun x : α × Value => enc x.2 x.1) k (fun x => hk _ _)] at this
        simpa using this
      have hq : j / k < len := (Nat.div_lt_iff_lt_mul h0).2 hjl
      have e1 : j / k * k + j % k = j := by rw [Nat.mul_comm]; exact Nat.div_add_mod j k
      have e2 := flat_get (fun x : α × Value => enc x.2 x.1) k (fun x => hk _ _) ((List.range len).map X) (j / k) (j % k) (X (j / k)) (by rw [List.getElem?_map, List.getElem?_range hq]; rfl) (Nat.mod_lt _ h0)
      rw [e1, hj] at e2
      have := (hX (j / k) hq).2 (j % k) v e2.symm
      rwa [e1] at this
    have hlp : 0 < (((List.range len).map X).flatMap fun x => enc x.2 x.1).length := List.length_pos_iff.2 hn
    obtain ⟨h1, h2, _⟩ := hcell 0 _ (List.getElem?_eq_getElem hlp)
    exact ⟨h1, h2, fun j v hj => (hcell j v hj).2.2⟩
  · rw [List.getElem?_map] at hix
    obtain ⟨i', hi', rfl⟩ := Option.map_eq_some_iff.1 hix
    have hil : i < len := by
      have := (List.getElem?_eq_some_iff.1 hi').1
      simpa using this
    rw [List.getElem?_range hil] at hi'
    obtain rfl := Option.some.inj hi'
    exact ⟨(X i).2, by rw [List.getElem?_map, List.getElem?_range hil]; rfl, (hX i hil).1⟩

end
end Wh
namespace Wh
open Go Go.RowKit Go.ChangeShapes Go.WideShapes Go.Deep Go.Proofs

instance : Inhabited Bin := ⟨⟨false, 0, 0, 0⟩⟩
instance : Inhabited Hold := ⟨⟨0, 0, 0, 0⟩⟩

def structFields (P : Program) (t : TypeId) : Array Field := match P.underlying t with
  | some (.struct fs) => fs
  | _ => #[]
theorem fields_eq {P : Program} {t : TypeId} (h : (match P.underlying t with | some (.struct _) => true | _ => false) = true) : P.underlying t = some (.struct (structFields P t)) := by
  unfold structFields
  split at h
  · rename_i h'; rw [h']
  · cases h

theorem u_int : Try.prog.underlying 3 = some (.int .i64) := by kernel_rfl
theorem u_bool : Try.prog.underlying 4 = some .bool := by kernel_rfl
theorem u_ints : Try.prog.underlying 23 = some (.slice 3) := by kernel_rfl
theorem u_rows : Try.prog.underlying 26 = some (.slice 23) := by kernel_rfl
theorem u_bins : Try.prog.underlying 22 = some (.slice 42) := by kernel_rfl
theorem c_int : Try.prog.cellsOf 3 = 1 := by kernel_rfl
theorem c_ints : Try.prog.cellsOf 23 = 1 := by kernel_rfl
theorem b_int : 0 < Try.prog.bytesOf 3 := of_decide_eq_true (by kernel_rfl)
theorem b_ints : 0 < Try.prog.bytesOf 23 := of_decide_eq_true (by kernel_rfl)
theorem b_bin : 0 < Try.prog.bytesOf 42 := of_decide_eq_true (by kernel_rfl)
theorem s_bin : Try.prog.underlying 42 = some (.struct (structFields Try.prog 42)) := fields_eq (by kernel_rfl)
theorem o_bin : oneCellFields Try.prog (structFields Try.prog 42) = true := by kernel_rfl
theorem n_bin : (structFields Try.prog 42).size = 4 := by kernel_rfl
theorem c_bin : Try.prog.cellsOf 42 = 4 := by kernel_rfl
theorem f_bin : (structFields Try.prog 42).toList.map (·.type) = [4, 3, 3, 3] := by kernel_rfl
theorem s_plan : Try.prog.underlying 25 = some (.struct (structFields Try.prog 25)) := fields_eq (by kernel_rfl)
theorem o_plan : oneCellFields Try.prog (structFields Try.prog 25) = true := by kernel_rfl
theorem n_plan : (structFields Try.prog 25).size = 2 := by kernel_rfl
theorem c_plan : Try.prog.cellsOf 25 = 2 := by kernel_rfl
theorem f_plan : (structFields Try.prog 25).toList.map (·.type) = [22, 23] := by kernel_rfl

section
variable {H : Type} {en : TypeId × Value → H} {w : World} {base : Nat} {sp : Nat → Bool} {hd : Bool}
theorem Rd.field {P : Program} {t : TypeId} {fs : Array Field} {cs : List Value} {ts : List TypeId} (hs : P.underlying t = some (.struct fs)) (hone : oneCellFields P fs = true) (hC : P.cellsOf t = fs.size) (hf : fs.toList.map (·.type) = ts)
    (h : Rd en P w base sp hd t cs) (j : Nat) (t' : TypeId) (hj : ts[j]? = some t') : ∃ v, cs[j]? = some v ∧ Rd en P w base sp hd t' [v] := by
  subst hf
  rw [List.getElem?_map, Array.getElem?_toList] at hj
  obtain ⟨f, hf, rfl⟩ := Option.map_eq_some_iff.1 hj
  exact (h.fields hs hone hC).2 j f hf
abbrev Rt (en : TypeId × Value → H) (w : World) (base : Nat) (sp : Nat → Bool) (hd : Bool) (t : TypeId) (cs : List Value) : Prop := Rd en Try.prog w base sp hd t cs
theorem Rt.ints {cs : List Value} (h : Rt en w base sp hd 23 cs) : ∃ v l, cs = [v] ∧ Sl cInt w w.heap.size v l :=
  Rd.sl u_ints c_int b_int (fun _ => rfl) (by decide) (fun cs' _ h => h.int u_int) h
theorem Rt.rows {cs : List Value} (h : Rt en w base sp hd 26 cs) : ∃ v l, cs = [v] ∧ SlSl cInt w w.heap.size v l := by
  obtain ⟨A, c, l, vs, rfl, h1, h2, h3, h4⟩ := Rd.cells (α := List Int) (k := 1) (enc := fun v _ => [v]) (Q := fun v x => Sl cInt w w.heap.size v x) u_rows c_ints b_ints (fun _ _ => rfl) (by decide) (fun cs' _ h => by
    obtain ⟨v, l, rfl, hs⟩ := Rt.ints h
    exact ⟨v, l, rfl, hs⟩) h
  refine ⟨_, l, rfl, A, c, vs, rfl, h1, h2, ?_, h4⟩
  have : ((l.zip vs).flatMap fun x => [x.2]) = vs := by
    rw [← List.map_eq_flatMap, List.map_snd_zip]
    omega
  rwa [this] at h3
theorem Rt.bin {cs : List Value} (hl : cs.length = 4) (h : Rt en w base sp hd 42 cs) : ∃ b, cs = cBin b := by
  match cs, hl with
  | [v0, v1, v2, v3], _ =>
    obtain ⟨x0, e0, r0⟩ := h.field s_bin o_bin (c_bin.trans n_bin.symm) f_bin 0 _ rfl
    obtain ⟨x1, e1, r1⟩ := h.field s_bin o_bin (c_bin.trans n_bin.symm) f_bin 1 _ rfl
    obtain ⟨x2, e2, r2⟩ := h.field s_bin o_bin (c_bin.trans n_bin.symm) f_bin 2 _ rfl
    obtain ⟨x3, e3, r3⟩ := h.field s_bin o_bin (c_bin.trans n_bin.symm) f_bin 3 _ rfl
    obtain rfl := Option.some.inj e0
    obtain rfl := Option.some.inj e1
    obtain rfl := Option.some.inj e2
    obtain rfl := Option.some.inj e3
    obtain ⟨b0, q0⟩ := r0.bool u_bool
    obtain ⟨b1, q1⟩ := r1.int u_int
    obtain ⟨b2, q2⟩ := r2.int u_int
    obtain ⟨b3, q3⟩ := r3.int u_int
    obtain rfl := (List.cons.inj q0).1
    obtain rfl := (List.cons.inj q1).1
    obtain rfl := (List.cons.inj q2).1
    obtain rfl := (List.cons.inj q3).1
    exact ⟨⟨b0, b1, b2, b3⟩, rfl⟩
theorem Rt.bins {cs : List Value} (h : Rt en w base sp hd 22 cs) : ∃ v l, cs = [v] ∧ Sl cBin w w.heap.size v l :=
  Rd.sl u_bins c_bin b_bin (fun _ => rfl) (by decide) (fun _ hl h => Rt.bin hl h) h
theorem Rt.plan {cs : List Value} (hl : cs.length = 2) (h : Rt en w base sp hd 25 cs) : ∃ v0 v1 p, cs = [v0, v1] ∧ PlanV w w.heap.size (.agg #[v0, v1]) p := by
  match cs, hl with
  | [v0, v1], _ =>
    obtain ⟨x0, e0, r0⟩ := h.field s_plan o_plan (c_plan.trans n_plan.symm) f_plan 0 _ rfl
    obtain ⟨x1, e1, r1⟩ := h.field s_plan o_plan (c_plan.trans n_plan.symm) f_plan 1 _ rfl
    obtain rfl := Option.some.inj e0
    obtain rfl := Option.some.inj e1
    obtain ⟨_, l0, q0, hs0⟩ := Rt.bins r0
    obtain ⟨_, l1, q1, hs1⟩ := Rt.ints r1
    obtain rfl := (List.cons.inj q0).1
    obtain rfl := (List.cons.inj q1).1
    exact ⟨_, _, ⟨l0, l1⟩, rfl, _, _, rfl, hs0, hs1⟩
theorem rd_of {P : Program} {ts : List TypeId} {ds : List (DataW H)} {j : Nat} {t : TypeId} {v : Value} {d : DataW H} {ps : List MemPlace} (hsz : (DataW.weightsEach P ts ds).all (· ≤ reachBytes) = true) (ht : ts[j]? = some t) (hds : ds[j]? = some d)
    (h : DataW.Trod en P w base sp hd t v d ps) : Rd en P w base sp hd t v.cells.toList := by
  obtain ⟨n, hn⟩ := h
  exact ⟨n, _, hn, fun k hk => by simpa using List.all_eq_true.1 hsz _ (DataW.weights_mem_each ht hds k hk)⟩
set_option maxRecDepth 100000 in
theorem plan_of {b0 : Nat} {r : Reach} {v : Value} (hv : Value.okWide Try.prog w r b0 25 v) (h : Rt en w base sp hd 25 v.cells.toList) : ∃ p, PlanV w w.heap.size v p := by
  obtain ⟨cs, rfl, hsz⟩ := okWide_struct s_plan hv
  obtain ⟨l⟩ := cs
  obtain ⟨v0, v1, p, e, hp⟩ := Rt.plan (by simpa [Value.cells] using hsz.trans c_plan) h
  have e' : l = [v0, v1] := by simpa [Value.cells] using e
  subst e'
  exact ⟨p, hp⟩
end
end Wh
namespace Wh
open Go Go.RowKit Go.ChangeShapes Go.WideShapes Go.Deep Go.Proofs

theorem u_holds : Try.prog.underlying 28 = some (.slice 63) := by kernel_rfl
theorem b_hold : 0 < Try.prog.bytesOf 63 := of_decide_eq_true (by kernel_rfl)
theorem s_hold : Try.prog.underlying 63 = some (.struct (structFields Try.prog 63)) := fields_eq (by kernel_rfl)
theorem o_hold : oneCellFields Try.prog (structFields Try.prog 63) = true := by kernel_rfl
theorem n_hold : (structFields Try.prog 63).size = 4 := by kernel_rfl
theorem c_hold : Try.prog.cellsOf 63 = 4 := by kernel_rfl
theorem f_hold : (structFields Try.prog 63).toList.map (·.type) = [3, 3, 3, 3] := by kernel_rfl

section
variable {H : Type} {en : TypeId × Value → H} {w : World} {base : Nat} {sp : Nat → Bool} {hd : Bool}
theorem Rt.four_ints {t : TypeId} (s_t : Try.prog.underlying t = some (.struct (structFields Try.prog t))) (o_t : oneCellFields Try.prog (structFields Try.prog t) = true) (c_t : Try.prog.cellsOf t = (structFields Try.prog t).size)
    (f_t : (structFields Try.prog t).toList.map (·.type) = [3, 3, 3, 3]) {cs : List Value} (hl : cs.length = 4) (h : Rt en w base sp hd t cs) : ∃ a b c d : Int, cs = [.int .i64 a, .int .i64 b, .int .i64 c, .int .i64 d] := by
  match cs, hl with
  | [v0, v1, v2, v3], _ =>
    obtain ⟨x0, e0, r0⟩ := h.field s_t o_t c_t f_t 0 _ rfl
    obtain ⟨x1, e1, r1⟩ := h.field s_t o_t c_t f_t 1 _ rfl
    obtain ⟨x2, e2, r2⟩ := h.field s_t o_t c_t f_t 2 _ rfl
    obtain ⟨x3, e3, r3⟩ := h.field s_t o_t c_t f_t 3 _ rfl
    obtain rfl := Option.some.inj e0
    obtain rfl := Option.some.inj e1
    obtain rfl := Option.some.inj e2
    obtain rfl := Option.some.inj e3
    obtain ⟨b0, q0⟩ := r0.int u_int
    obtain ⟨b1, q1⟩ := r1.int u_int
    obtain ⟨b2, q2⟩ := r2.int u_int
    obtain ⟨b3, q3⟩ := r3.int u_int
    obtain rfl := (List.cons.inj q0).1
    obtain rfl := (List.cons.inj q1).1
    obtain rfl := (List.cons.inj q2).1
    obtain rfl := (List.cons.inj q3).1
    exact ⟨b0, b1, b2, b3, rfl⟩
theorem Rt.hold {cs : List Value} (hl : cs.length = 4) (h : Rt en w base sp hd 63 cs) : ∃ x, cs = cHold x := by
  obtain ⟨a, b, c, d, rfl⟩ := Rt.four_ints s_hold o_hold (c_hold.trans n_hold.symm) f_hold hl h
  exact ⟨⟨a, b, c, d⟩, rfl⟩
theorem Rt.holds {cs : List Value} (h : Rt en w base sp hd 28 cs) : ∃ v l, cs = [v] ∧ Sl cHold w w.heap.size v l :=
  Rd.sl u_holds c_hold b_hold (fun _ => rfl) (by decide) (fun _ hl h => Rt.hold hl h) h
end
end Wh
namespace Wh
open Go Go.RowKit Go.ChangeShapes Go.WideShapes Go.Deep Go.Proofs
instance : Inhabited Line := ⟨dLine⟩
instance : Inhabited Move := ⟨dMove⟩
instance : Inhabited Order := ⟨dOrder⟩

theorem u_lines : Try.prog.underlying 51 = some (.slice 56) := by kernel_rfl
theorem u_moves : Try.prog.underlying 29 = some (.slice 40) := by kernel_rfl
theorem u_orders : Try.prog.underlying 27 = some (.slice 53) := by kernel_rfl
theorem b_line : 0 < Try.prog.bytesOf 56 := of_decide_eq_true (by kernel_rfl)
theorem s_line : Try.prog.underlying 56 = some (.struct (structFields Try.prog 56)) := fields_eq (by kernel_rfl)
theorem o_line : oneCellFields Try.prog (structFields Try.prog 56) = true := by kernel_rfl
theorem n_line : (structFields Try.prog 56).size = 4 := by kernel_rfl
theorem c_line : Try.prog.cellsOf 56 = 4 := by kernel_rfl
theorem f_line : (structFields Try.prog 56).toList.map (·.type) = [3, 3, 3, 3] := by kernel_rfl
theorem b_move : 0 < Try.prog.bytesOf 40 := of_decide_eq_true (by kernel_rfl)
theorem s_move : Try.prog.underlying 40 = some (.struct (structFields Try.prog 40)) := fields_eq (by kernel_rfl)
theorem o_move : oneCellFields Try.prog (structFields Try.prog 40) = true := by kernel_rfl
theorem n_move : (structFields Try.prog 40).size = 4 := by kernel_rfl
theorem c_move : Try.prog.cellsOf 40 = 4 := by kernel_rfl
theorem f_move : (structFields Try.prog 40).toList.map (·.type) = [3, 3, 3, 3] := by kernel_rfl
theorem b_order : 0 < Try.prog.bytesOf 53 := of_decide_eq_true (by kernel_rfl)
theorem s_order : Try.prog.underlying 53 = some (.struct (structFields Try.prog 53)) := fields_eq (by kernel_rfl)
theorem o_order : oneCellFields Try.prog (structFields Try.prog 53) = true := by kernel_rfl
theorem n_order : (structFields Try.prog 53).size = 2 := by kernel_rfl
theorem c_order : Try.prog.cellsOf 53 = 2 := by kernel_rfl
theorem f_order : (structFields Try.prog 53).toList.map (·.type) = [3, 51] := by kernel_rfl
theorem s_state : Try.prog.underlying 31 = some (.struct (structFields Try.prog 31)) := fields_eq (by kernel_rfl)
theorem o_state : oneCellFields Try.prog (structFields Try.prog 31) = true := by kernel_rfl
theorem n_state : (structFields Try.prog 31).size = 7 := by kernel_rfl
theorem c_state : Try.prog.cellsOf 31 = 7 := by kernel_rfl
theorem f_state : (structFields Try.prog 31).toList.map (·.type) = [26, 27, 28, 29, 23, 23, 23] := by kernel_rfl

section
variable {H : Type} {en : TypeId × Value → H} {w : World} {base : Nat} {sp : Nat → Bool} {hd : Bool}
theorem Rt.line {cs : List Value} (hl : cs.length = 4) (h : Rt en w base sp hd 56 cs) : ∃ x, cs = cLine x := by
  obtain ⟨a, b, c, d, rfl⟩ := Rt.four_ints s_line o_line (c_line.trans n_line.symm) f_line hl h
  exact ⟨⟨a, b, c, d⟩, rfl⟩
theorem Rt.move {cs : List Value} (hl : cs.length = 4) (h : Rt en w base sp hd 40 cs) : ∃ x, cs = cMove x := by
  obtain ⟨a, b, c, d, rfl⟩ := Rt.four_ints s_move o_move (c_move.trans n_move.symm) f_move hl h
  exact ⟨⟨a, b, c, d⟩, rfl⟩
theorem Rt.lines {cs : List Value} (h : Rt en w base sp hd 51 cs) : ∃ v l, cs = [v] ∧ Sl cLine w w.heap.size v l :=
  Rd.sl u_lines c_line b_line (fun _ => rfl) (by decide) (fun _ hl h => Rt.line hl h) h
theorem Rt.moves {cs : List Value} (h : Rt en w base sp hd 29 cs) : ∃ v l, cs = [v] ∧ Sl cMove w w.heap.size v l :=
  Rd.sl u_moves c_move b_move (fun _ => rfl) (by decide) (fun _ hl h => Rt.move hl h) h
theorem Rt.order {cs : List Value} (hl : cs.length = 2) (h : Rt en w base sp hd 53 cs) : ∃ (v : Value) (x : Order), cs = [.int .i64 x.kind, v] ∧ Sl cLine w w.heap.size v x.lines := by
  match cs, hl with
  | [v0, v1], _ =>
    obtain ⟨x0, e0, r0⟩ := h.field s_order o_order (c_order.trans n_order.symm) f_order 0 _ rfl
    obtain ⟨x1, e1, r1⟩ := h.field s_order o_order (c_order.trans n_order.symm) f_order 1 _ rfl
    obtain rfl := Option.some.inj e0
    obtain rfl := Option.some.inj e1
    obtain ⟨b0, q0⟩ := r0.int u_int
    obtain ⟨_, l1, q1, hs1⟩ := Rt.lines r1
    obtain rfl := (List.cons.inj q0).1
    obtain rfl := (List.cons.inj q1).1
    exact ⟨_, ⟨b0, l1⟩, rfl, hs1⟩
theorem Rt.orders {cs : List Value} (h : Rt en w base sp hd 27 cs) : ∃ v l, cs = [v] ∧ SlOrders w w.heap.size v l := by
  obtain ⟨A, c, l, vs, rfl, h1, h2, h3, h4⟩ := Rd.cells (α := Order) (k := 2) (enc := fun v x => [.int .i64 x.kind, v]) (Q := fun v x => Sl cLine w w.heap.size v x.lines) u_orders c_order b_order (fun _ _ => rfl) (by decide) (fun cs' hl h => Rt.order hl h) h
  exact ⟨_, l, rfl, A, c, vs, rfl, h1, h2, h3, h4⟩
theorem Rt.state {cs : List Value} (hl : cs.length = 7) (h : Rt en w base sp hd 31 cs) : ∃ s, StateV w w.heap.size (.agg cs.toArray) s := by
  match cs, hl with
  | [v0, v1, v2, v3, v4, v5, v6], _ =>
    obtain ⟨x0, e0, r0⟩ := h.field s_state o_state (c_state.trans n_state.symm) f_state 0 _ rfl
    obtain ⟨x1, e1, r1⟩ := h.field s_state o_state (c_state.trans n_state.symm) f_state 1 _ rfl
    obtain ⟨x2, e2, r2⟩ := h.field s_state o_state (c_state.trans n_state.symm) f_state 2 _ rfl
    obtain ⟨x3, e3, r3⟩ := h.field s_state o_state (c_state.trans n_state.symm) f_state 3 _ rfl
    obtain ⟨x4, e4, r4⟩ := h.field s_state o_state (c_state.trans n_state.symm) f_state 4 _ rfl
    obtain ⟨x5, e5, r5⟩ := h.field s_state o_state (c_state.trans n_state.symm) f_state 5 _ rfl
    obtain ⟨x6, e6, r6⟩ := h.field s_state o_state (c_state.trans n_state.symm) f_state 6 _ rfl
    obtain rfl := Option.some.inj e0
    obtain rfl := Option.some.inj e1
    obtain rfl := Option.some.inj e2
    obtain rfl := Option.some.inj e3
    obtain rfl := Option.some.inj e4
    obtain rfl := Option.some.inj e5
    obtain rfl := Option.some.inj e6
    obtain ⟨_, l0, q0, hs0⟩ := Rt.rows r0
    obtain ⟨_, l1, q1, hs1⟩ := Rt.orders r1
    obtain ⟨_, l2, q2, hs2⟩ := Rt.holds r2
    obtain ⟨_, l3, q3, hs3⟩ := Rt.moves r3
    obtain ⟨_, l4, q4, hs4⟩ := Rt.ints r4
    obtain ⟨_, l5, q5, hs5⟩ := Rt.ints r5
    obtain ⟨_, l6, q6, hs6⟩ := Rt.ints r6
    obtain rfl := (List.cons.inj q0).1
    obtain rfl := (List.cons.inj q1).1
    obtain rfl := (List.cons.inj q2).1
    obtain rfl := (List.cons.inj q3).1
    obtain rfl := (List.cons.inj q4).1
    obtain rfl := (List.cons.inj q5).1
    obtain rfl := (List.cons.inj q6).1
    exact ⟨⟨l0, l1, l2, l3, l4, l5, l6⟩, _, _, _, _, _, _, _, rfl, hs0, hs1, hs2, hs3, hs4, hs5, hs6⟩
set_option maxRecDepth 100000 in
theorem state_of {b0 : Nat} {r : Reach} {v : Value} (hv : Value.okWide Try.prog w r b0 31 v) (h : Rt en w base sp hd 31 v.cells.toList) : ∃ s, StateV w w.heap.size v s := by
  obtain ⟨cs, rfl, hsz⟩ := okWide_struct s_state hv
  obtain ⟨s, hs⟩ := Rt.state (by simpa [Value.cells] using hsz.trans c_state) h
  exact ⟨s, by simpa [Value.cells] using hs⟩
end
end Wh
namespace Wh
open Go Go.RowKit Go.ChangeShapes Go.WideShapes Go.Deep Go.Proofs
section
variable {H : Type} {en : TypeId × Value → H} {w : World} {base : Nat} {sp : Nat → Bool} {hd : Bool}
theorem Rd.cap {P : Program} {t e : TypeId} {cs : List Value} (ht : P.underlying t = some (.slice e)) (h : Rd en P w base sp hd t cs) : ∃ (A : Option Addr) (len c : Nat), cs = [.slice A len c] ∧ len ≤ c := by
  obtain ⟨n, x, h, hw⟩ := h
  rcases open_slice ht h with ⟨rfl, _⟩ | ⟨a, len, cap, m, n', D, Pl, rfl, _, hl, _⟩
  · exact ⟨none, 0, 0, rfl, Nat.le_refl _⟩
  · exact ⟨some a, len, cap, rfl, hl⟩
theorem Rt.mvcap {cs : List Value} (hl : cs.length = 7) (h : Rt en w base sp hd 31 cs) : MvCap (.agg cs.toArray) := by
  match cs, hl with
  | [v0, v1, v2, v3, v4, v5, v6], _ =>
    obtain ⟨x3, e3, r3⟩ := h.field s_state o_state (c_state.trans n_state.symm) f_state 3 _ rfl
    obtain rfl := Option.some.inj e3
    obtain ⟨A, n, c, q, hc⟩ := Rd.cap u_moves r3
    obtain rfl := (List.cons.inj q).1
    exact ⟨_, _, _, A, n, c, _, _, _, rfl, hc⟩
set_option maxRecDepth 100000 in
theorem state_cap_of {b0 : Nat} {r : Reach} {v : Value} (hv : Value.okWide Try.prog w r b0 31 v) (h : Rt en w base sp hd 31 v.cells.toList) : ∃ s, StateV w w.heap.size v s ∧ MvCap v := by
  obtain ⟨cs, rfl, hsz⟩ := okWide_struct s_state hv
  have hl : cs.toList.length = 7 := by simpa [Value.cells] using hsz.trans c_state
  have h' : Rt en w base sp hd 31 cs.toList := by simpa [Value.cells] using h
  obtain ⟨s, hs⟩ := Rt.state hl h'
  exact ⟨s, by simpa [Value.cells] using hs, by simpa using Rt.mvcap hl h'⟩
end
end Wh
namespace Wh
open Go Go.RowKit Go.Shelf Go.Proofs
attribute [local go_sem] run_indexAt_letter evL_tmp evL_const evL_func

theorem flFillAt {p : Plan} {s x : State} {c : Int} (h : fill p s = (x, c)) (w : World) (v vs : Value) (hp : PlanV w w.heap.size v p) (hv : StateV w w.heap.size vs s) :
    Calls Try.prog 13 #[v, vs] w fun e w' => ∃ V : SV, e = .returned (.tuple #[V.val, .int .i64 c]) ∧ OwnSt w' w.heap.size V x ∧ Below w.heap.size w w' := by
  have := flFill w v vs p s hp hv
  rw [h] at this
  exact this
theorem filled_old {p : Plan} {s t : State} (h : Filled p s t) {k : Nat} (hk : k < s.moves.length) : moveAt t.moves k = moveAt s.moves k := by
  obtain ⟨l, e, _⟩ := h.ext
  rw [e]
  simp only [moveAt, List.getD_eq_getElem?_getD, List.getElem?_append_left hk]
theorem filled_len {p : Plan} {s t : State} (h : Filled p s t) : s.moves.length ≤ t.moves.length := by
  obtain ⟨l, e, _⟩ := h.ext
  rw [e, List.length_append]
  omega
theorem filled_new {p : Plan} {s t : State} (h : Filled p s t) {k : Nat} (hk : s.moves.length ≤ k) (hk2 : k < t.moves.length) : ∃ g a d : Nat, ∃ n : Int, moveAt t.moves k = ⟨g, a, d, n⟩ ∧ a < p.bins.length ∧ d < p.bins.length ∧ g < p.sizes.length ∧ (p.bin a).front = false ∧ (p.bin d).front = true ∧
    cell t.on d g + coming t d g ≤ (p.bin d).high := by
  obtain ⟨l, e, hl⟩ := h.ext
  have hx : moveAt t.moves k ∈ l := by
    rw [moveAt_eq hk2]
    have : t.moves[k] = l[k - s.moves.length]'(by rw [e, List.length_append] at hk2; omega) := by
      simp only [e]
      rw [List.getElem_append_right hk]
    rw [this]
    exact List.getElem_mem _
  obtain ⟨⟨⟨h1, h2⟩, ⟨h3, h4⟩, h5, h6⟩, h7, h8, h9⟩ := hl _ hx
  obtain ⟨gd, sr, ds, mn, hm⟩ : ∃ gd sr ds mn, moveAt t.moves k = ⟨gd, sr, ds, mn⟩ := ⟨_, _, _, _, rfl⟩
  rw [hm] at h1 h2 h3 h4 h5 h6 h7 h8 h9 ⊢
  simp only at h1 h2 h3 h4 h5 h6 h7 h8 h9
  obtain ⟨g, rfl⟩ : ∃ g : Nat, gd = g := ⟨gd.toNat, by omega⟩
  obtain ⟨a, rfl⟩ : ∃ a : Nat, sr = a := ⟨sr.toNat, by omega⟩
  obtain ⟨d, rfl⟩ : ∃ d : Nat, ds = d := ⟨ds.toNat, by omega⟩
  rw [← h.on] at h9
  exact ⟨g, a, d, mn, rfl, by omega, by omega, by omega, h7, h8, h9⟩

end Wh
namespace Wh
open Go Go.RowKit Go.Shelf Go.Proofs
attribute [local go_sem] run_indexAt_letter evL_tmp evL_const evL_func

set_option maxHeartbeats 20000000 in
set_option maxRecDepth 100000 in
theorem fillHighWalk (w : World) (v vs : Value) (p : Plan) (s : State) (hp : PlanV w w.heap.size v p) (hv : StateV w w.heap.size vs s) :
    Calls Try.prog 4 #[v, vs] w fun e w' => e = .returned (.bool true) ∧ Below w.heap.size w w' := by
  by_cases hc : checkState p s = 0
  · obtain ⟨a, ha⟩ : ∃ a, fillS p s = a := ⟨_, rfl⟩
    have hra := Lib.hid (show fill p s = (a, 0) by rw [fill_ok hc, ha])
    have hFl := Lib.hid (show Filled p s a by rw [← ha]; exact fillS_filled hc)
    have hsn := Lib.hid hFl.out.right.sane
    have hlen := filled_len hFl.out
    have h8 := hsn.out.moves8
    clear hc ha
    obtain ⟨Ab, cb, As, cs, rfl, hP', hBn, hSz, hlb, hls⟩ := openPl hp
    obtain ⟨A0, c0, A1, c1, A2, c2, A3, c3, A4, c4, A5, c5, A6, c6, rfl, hV, hN, hO, hH, hM, hI, hU, hX, hl0, hl1, hl2, hl3, hl4, hl5, hl6⟩ := openOne hv
    go_enter Try.func4, Try.ntmps4
    go_wp2_with fail
    obtain ⟨W0, hW0, hb0, hsz0, hsz1, hsE, hK⟩ := boxesTwo w p s Ab cb As cs A0 c0 A1 c1 A2 c2 A3 c3 A4 c4 A5 c5 A6 c6
    rw [hW0]
    clear hW0
    obtain ⟨⟨y0, y1⟩, x0, x1, x2, x3, x4, x5, x6, hbz0, hbz1⟩ := hK.out W0 (Below.refl W0.heap.size W0)
    go_wp2_with fail
    clear y0 y1 x0 x1 x2 x3 x4 x5 x6 hbz0 hbz1
    refine (flFillAt hra.out _ _ _ (hP'.out _ hb0) (hV.out _ hb0)).mono ?_
    rintro e W1 ⟨V1, rfl, ho1, hb1⟩
    obtain ⟨Am, cm, hvm, _, hAm⟩ := ho1.moves.sl (by omega)
    obtain ⟨gon, con, _, _, _, _, eon, _⟩ := ho1.onAt (b := 0) (g := 0) (by rw [hsn.out.onLen]; have := hsn.out.counts; omega) (by rw [hsn.out.rowLen (by have := hsn.out.counts; omega)]; have := hsn.out.counts; omega)
    obtain ⟨k0, k1, k2, k3, k4, k5, k6, k7, k8⟩ := V1
    obtain rfl : k0 = .slice (some ⟨gon, 0, none⟩) a.on.length con := eon
    obtain rfl : k3 = .slice Am a.moves.length cm := hvm
    have hone2 := (ho1).one
    have hnb2 := newBox (W1)
    go_wp2_with (refine wpList_store_state rfl (.tmp 5) (.tmp 15) rfl rfl (World.heap (W1)).size nilSV (⟨.slice (some ⟨gon, 0, none⟩) a.on.length con, k1, k2, .slice Am a.moves.length cm, k4, k5, k6, k7, k8⟩ : SV) hnb2 rfl rfl hone2 (fun w2 hbox2 hg2 => ?_); refine Hid.out ?_)
    unfold Hid
    have hbb2 := newBelow hg2
    have hbl2 := hbox2.lt
    clear hone2 hnb2 hg2
    have h02 := hb1.trans (hbb2.mono hb1.size)
    have hB2 := hb0.trans (h02.mono hb0.size)
    have hO2 := Lib.hid (ho1.below hbb2)
    have hM2 := Lib.hid (show ∀ W, Below w2.heap.size w2 W → At W W.heap.size Am (a.moves.flatMap cMove) from fun W hW => hAm.up (hbb2.trans (hW.mono hbb2.size)) (Nat.le_trans hbb2.size hW.size))
    have hbox2' := Lib.hid hbox2
    clear hbox2 ho1 hb1 hbb2 hAm hra
    have hbl2' : W1.heap.size < w2.heap.size := hbl2
    generalize W1.heap.size = b5 at hbox2' hbl2 hbl2' ⊢
    have honl : a.on.length = p.bins.length := hsn.out.onLen
    have hle : ((a.moves.length : Int) < (s.moves.length : Int)) = False := eq_false (by omega)
    have hld : decide ((a.moves.length : Int) < (s.moves.length : Int)) = false := decide_eq_false (by omega)
    have hon1 : ((a.on.length : Int) != (p.bins.length : Int)) = false := by rw [honl]; simp
    obtain ⟨⟨y0, y1⟩, x0, x1, x2, x3, x4, x5, x6, hbz0, hbz1⟩ := hK.out w2 (h02)
    obtain ⟨c0, c1, c2, c3, c4, c5, c6⟩ := hbox2'.out.cells
    simp only at c0 c1 c2 c3 c4 c5 c6
    go_wp2_with fail
    clear y0 y1 x0 x1 x2 x3 x4 x5 x6 hbz0 hbz1
    clear c0 c1 c2 c3 c4 c5 c6 hle hld hon1
    have hong : p.bins.length ≤ a.on.length := Nat.le_of_eq honl.symm
    clear honl
    have h22 := Below.refl w2.heap.size w2
    go_loopw [7] (fun k' wr => ∃ k : Nat, k ≤ a.moves.length ∧ k' = .int .i64 k ∧ Below w2.heap.size w2 wr) (fun k' _ => a.moves.length - (intOf k').toNat)
    case atStart => exact ⟨0, Nat.zero_le _, rfl, h22⟩
    case round =>
      clear h22
      obtain ⟨k, hk, rfl, h2r⟩ := hrel
      have h0r := h02.trans (h2r.mono h02.size)
      have hBr := hb0.trans (h0r.mono hb0.size)
      have hbr := Lib.hid (hbox2'.out.below h2r hbl2)
      have tb5 := Nat.lt_of_lt_of_le hbl2 h2r.size
      obtain ⟨c0, c1, c2, c3, c4, c5, c6⟩ := hbr.out.cells
      simp only at c0 c1 c2 c3 c4 c5 c6
      by_cases hk1 : k < a.moves.length
      · have hki : (k : Int) < (a.moves.length : Int) := by omega
        obtain ⟨okm, lm, e0, e1, e2, e3⟩ := (hM2.out wr h2r).move hk1
        by_cases hk2 : k < s.moves.length
        · have hks : (k : Int) < (s.moves.length : Int) := by omega
          obtain ⟨oks, ls, s0, s1, s2, s3⟩ := (hM.out wr hBr).at_.move hk2
          have hold := filled_old hFl.out hk2
          obtain ⟨gd, sr, ds, mn, hx⟩ : ∃ gd sr ds mn, moveAt s.moves k = ⟨gd, sr, ds, mn⟩ := ⟨_, _, _, _, rfl⟩
          rw [hold, hx] at e0 e1 e2 e3
          rw [hx] at s0 s1 s2 s3
          simp only at e0 e1 e2 e3 s0 s1 s2 s3
          clear hold hx
          obtain ⟨⟨y0, y1⟩, x0, x1, x2, x3, x4, x5, x6, hbz0, hbz1⟩ := hK.out wr (h0r)
          go_wp2_with fail
          go_quiet (fail)
          have h2q := below_drewN (h2r.alloc h2r.size (.cells #[.int .i64 gd, .int .i64 sr, .int .i64 ds, .int .i64 mn] 40)) nq
          go_wp2_with fail
          clear c0 c1 c2 c3 c4 c5 c6 e0 e1 e2 e3 s0 s1 s2 s3
          clear y0 y1 x0 x1 x2 x3 x4 x5 x6 hbz0 hbz1
          go_roundw
          case rel => exact ⟨k + 1, by omega, by go_num, h2q⟩
          case measure => simp [intOf]; omega
        · have hks : ¬ (k : Int) < (s.moves.length : Int) := by omega
          obtain ⟨g, sa, d, mn, hx, hsp, hdp, hgp, hfs, hfd, hhi⟩ := filled_new hFl.out (by omega) hk1
          rw [hx] at e0 e1 e2 e3
          simp only at e0 e1 e2 e3
          have hgd : d < a.on.length := by omega
          have hgr : g < (rowAt a.on d).length := by rw [hsn.out.rowLen hdp]; exact hgp
          have hdi : (d : Int) < (a.on.length : Int) := by omega
          have hgi : (g : Int) < ((rowAt a.on d).length : Int) := by omega
          have hspi : (sa : Int) < (p.bins.length : Int) := by omega
          have hdpi : (d : Int) < (p.bins.length : Int) := by omega
          obtain ⟨gr, cr, lon, lgr, r0, rc⟩ := (hO2.out.below h2r).onCells hgd hgr rfl
          obtain ⟨ob, lb, f0, _, _, _⟩ := (hBn.out wr hBr).at_.bin hsp
          obtain ⟨ob2, lb2, g0, _, _, g3⟩ := (hBn.out wr hBr).at_.bin hdp
          change wr.cell? _ = some (.bool (p.bin sa).front) at f0
          change wr.cell? _ = some (.bool (p.bin d).front) at g0
          change wr.cell? _ = some (.int .i64 (p.bin d).high) at g3
          rw [hfs] at f0
          rw [hfd] at g0
          have v1 := hsn.out.cell hdp hgp
          clear hx hfs hfd
          have h2a := h2r.alloc h2r.size (.cells #[.int .i64 g, .int .i64 sa, .int .i64 d, .int .i64 mn] 40)
          have hbl3 := Lib.hid (Blk.new wr 40 #[.int .i64 g, .int .i64 sa, .int .i64 d, .int .i64 mn])
          obtain ⟨⟨y0, y1⟩, x0, x1, x2, x3, x4, x5, x6, hbz0, hbz1⟩ := hK.out wr (h0r)
          go_wp2_with fail
          go_quiet (fail)
          revert nq
          intro n1
          go_wp2_with fail
          go_quiet (fail)
          have h2q := below_drewN (below_drewN h2a n1) nq
          have hq3 := Lib.hid (below_drewN (below_drewN (Below.refl (wr.alloc (.cells #[.int .i64 g, .int .i64 sa, .int .i64 d, .int .i64 mn] 40)).heap.size (wr.alloc (.cells #[.int .i64 g, .int .i64 sa, .int .i64 d, .int .i64 mn] 40))) n1) nq)
          have hbl5 := Lib.hid (hbl3.out.below hq3.out hbl3.out.lt)
          have tw : wr.heap.size < (wr.alloc (.cells #[.int .i64 g, .int .i64 sa, .int .i64 d, .int .i64 mn] 40)).heap.size := by simp
          have tw' := Nat.lt_of_lt_of_le tw hq3.out.size
          go_wp2_with fail
          clear c0 c1 c2 c3 c4 c5 c6 e0 e1 e2 e3 f0 g0 g3 r0 rc ob lb ob2 lb2 lon lgr okm lm tw
          clear y0 y1 x0 x1 x2 x3 x4 x5 x6 hbz0 hbz1
          clear hq3 hbl3 h2a h2r h0r hBr hbr
          generalize ((wr.alloc (.cells #[.int .i64 g, .int .i64 sa, .int .i64 d, .int .i64 mn] 40)).drewN n1).drewN nq = W5 at h2q hbl5 tw' ⊢
          generalize wr.heap.size = z8 at hbl5 tw' tb5 ⊢
          have hhi' : cell a.on d g + comingOf a.moves d g ≤ (p.bin d).high := hhi
          clear hhi
          go_loopw [9, 10] (fun hv' i' wr => ∃ m : Nat, m ≤ a.moves.length ∧ i' = .int .i64 m ∧ hv' = .int .i64 (cell a.on d g + comingTo a.moves d g m) ∧ Below W5.heap.size W5 wr) (fun _ i' _ => a.moves.length - (intOf i').toNat)
          case atStart => exact ⟨0, Nat.zero_le _, rfl, by simp [comingTo], Below.refl _ _⟩
          case round =>
            obtain ⟨m, hm, rfl, rfl, h5r⟩ := hrel
            have h2r := h2q.trans (h5r.mono h2q.size)
            have h0r := h02.trans (h2r.mono h02.size)
            have hBr := hb0.trans (h0r.mono hb0.size)
            have hbr := Lib.hid (hbox2'.out.below h2r hbl2)
            have tb6 := Nat.lt_of_lt_of_le hbl2 h2r.size
            have hbl6 := hbl5.out.below h5r hbl5.out.lt
            have tw6 := hbl6.lt
            have x0' := hbl6.cell (j := 0) rfl
            have x2' := hbl6.cell (j := 2) rfl
            obtain ⟨t1, t2⟩ := comingTo_range hsn.out (d : Int) g m
            obtain ⟨c0, c1, c2, c3, c4, c5, c6⟩ := hbr.out.cells
            simp only at c0 c1 c2 c3 c4 c5 c6
            by_cases hm1 : m < a.moves.length
            · have hmi : (m : Int) < (a.moves.length : Int) := by omega
              obtain ⟨okm, lm, e0, e1, e2, e3⟩ := (hM2.out wr h2r).move hm1
              obtain ⟨_, _, _, _, i7, i8⟩ := hsn.out.moveAt hm1
              have hsucc := comingTo_succ (b := (d : Int)) (g := g) hm1
              rcases to_cases (d : Int) g (moveAt a.moves m) with ⟨g1, gh⟩ | ⟨g1, g2, gh⟩ | ⟨g1, g2, gh⟩
              · rw [gh] at hsucc
                have hsu := Lib.hid hsucc
                clear hsucc gh
                go_wp2_with fail
                go_quiet (fail)
                have h5q := below_drewN h5r nq
                go_wp2_with fail
                clear c0 c1 c2 c3 c4 c5 c6 e0 e1 e2 e3
                go_roundw
                case rel => exact ⟨m + 1, by omega, by go_num, by rw [hsu.out, Int.add_zero], h5q⟩
                case measure => simp [intOf]; omega
              · rw [gh] at hsucc
                have hsu := Lib.hid hsucc
                clear hsucc gh
                go_wp2_with fail
                go_quiet (fail)
                have h5q := below_drewN h5r nq
                go_wp2_with fail
                clear c0 c1 c2 c3 c4 c5 c6 e0 e1 e2 e3
                go_roundw
                case rel => exact ⟨m + 1, by omega, by go_num, by rw [hsu.out, Int.add_zero], h5q⟩
                case measure => simp [intOf]; omega
              · rw [gh] at hsucc
                have hsu := Lib.hid hsucc
                clear hsucc gh
                have hw : IntKind.i64.wrap (cell a.on d g + comingTo a.moves d g m + (moveAt a.moves m).n) = cell a.on d g + comingTo a.moves d g m + (moveAt a.moves m).n := IntWalk.i64_in _ (by omega)
                go_wp2_with fail
                go_quiet (fail)
                have h5q := below_drewN h5r nq
                go_wp2_with fail
                clear c0 c1 c2 c3 c4 c5 c6 e0 e1 e2 e3
                go_roundw
                case rel => exact ⟨m + 1, by omega, by go_num, by rw [hsu.out, Int.add_assoc], h5q⟩
                case measure => simp [intOf]; omega
            · obtain rfl : m = a.moves.length := by omega
              rw [comingTo_all]
              obtain ⟨ob2, lb2, _, _, _, g3⟩ := (hBn.out wr hBr).at_.bin hdp
              change wr.cell? _ = some (.int .i64 (p.bin d).high) at g3
              obtain ⟨⟨y0, y1⟩, x0, x1, x2, x3, x4, x5, x6, hbz0, hbz1⟩ := hK.out wr (h0r)
              go_wp2_with fail
              clear c0 c1 c2 c3 c4 c5 c6
              clear y0 y1 x0 x1 x2 x3 x4 x5 x6 hbz0 hbz1
              go_roundw
              case rel => exact ⟨k + 1, by omega, by go_num, h2r⟩
              case measure => simp [intOf]; omega
      · obtain rfl : k = a.moves.length := by omega
        go_wp2_with fail
        refine (fillBegun _).mono ?_
        rintro e W9 ⟨rfl, h9⟩
        go_wp2_with fail
        go_ret
        exact ⟨rfl, hBr.trans (h9.mono hBr.size)⟩
  · obtain ⟨x, c, hf, hne⟩ : ∃ x c, fill p s = (x, c) ∧ (c != 0) = true := ⟨_, _, fill_bad hc, by simpa using hc⟩
    have hf' := Lib.hid hf
    clear hc hf
    obtain ⟨Ab, cb, As, cs, rfl, hP', hBn, hSz, hlb, hls⟩ := openPl hp
    obtain ⟨A0, c0, A1, c1, A2, c2, A3, c3, A4, c4, A5, c5, A6, c6, rfl, hV, hN, hO, hH, hM, hI, hU, hX, hl0, hl1, hl2, hl3, hl4, hl5, hl6⟩ := openOne hv
    go_enter Try.func4, Try.ntmps4
    go_wp2_with fail
    obtain ⟨W0, hW0, hb0, hsz0, hsz1, hsE, hK⟩ := boxesTwo w p s Ab cb As cs A0 c0 A1 c1 A2 c2 A3 c3 A4 c4 A5 c5 A6 c6
    rw [hW0]
    clear hW0
    obtain ⟨⟨y0, y1⟩, x0, x1, x2, x3, x4, x5, x6, hbz0, hbz1⟩ := hK.out W0 (Below.refl W0.heap.size W0)
    go_wp2_with fail
    clear y0 y1 x0 x1 x2 x3 x4 x5 x6 hbz0 hbz1
    refine (flFillAt hf'.out _ _ _ (hP'.out _ hb0) (hV.out _ hb0)).mono ?_
    rintro e W1 ⟨V1, rfl, ho1, hb1⟩
    have hone2 := (ho1).one
    have hnb2 := newBox (W1)
    go_wp2_with (refine wpList_store_state rfl (.tmp 5) (.tmp 15) rfl rfl (World.heap (W1)).size nilSV V1 hnb2 rfl rfl hone2 (fun w2 hbox2 hg2 => ?_); refine Hid.out ?_)
    unfold Hid
    have hbb2 := newBelow hg2
    have hbl2 := hbox2.lt
    clear hone2 hnb2 hg2
    have h02 := hb1.trans (hbb2.mono hb1.size)
    have hB2 := hb0.trans (h02.mono hb0.size)
    clear hbox2 ho1 hb1 hbb2
    go_wp2_with fail
    refine (fillBegun _).mono ?_
    rintro e W9 ⟨rfl, h9⟩
    go_wp2_with fail
    go_ret
    exact ⟨rfl, hB2.trans (h9.mono hB2.size)⟩
end Wh
