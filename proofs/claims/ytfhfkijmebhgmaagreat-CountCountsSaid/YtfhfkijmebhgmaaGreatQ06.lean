/- Texts of the claim, joined: OwnT, PlainG, Reg, Two. -/
import Derived.Laws.Tables
import Derived.Test.YtfhfkijmebhgmaaGreatQ05
import Derived.Test.YtfhfkijmebhgmaaGreatQ04
import Derived.Test.YtfhfkijmebhgmaaGreatQ01
import Derived.Test.YtfhfkijmebhgmaaGreatQ03
namespace Wh
open Go Go.RowKit Go.Proofs

/-- The box that a state lies in. -/
def BoxAt (w : World) (b : Nat) (V : SV) : Prop := w.heap[b]? = some (.cells V.cells.toArray 31 (0, 0))
theorem BoxAt.lt {w : World} {b : Nat} {V : SV} (h : BoxAt w b V) : b < w.heap.size := (Array.getElem?_eq_some_iff.1 h).1
theorem BoxAt.blk {w : World} {b : Nat} {V : SV} (h : BoxAt w b V) : Blk w b 31 V.cells := h
theorem BoxAt.below {w w' : World} {b B : Nat} {V : SV} (h : BoxAt w b V) (hb : Below B w w') (hB : b < B) : BoxAt w' b V := (hb.block b hB).trans h
theorem BoxAt.grown {w w' : World} {b : Nat} {V : SV} {row : Option Nat} (h : BoxAt w b V) (hg : w.grownBy w' row) (hne : some b ≠ row) : BoxAt w' b V := (hg.block b h.lt hne).trans h
theorem BoxAt.cells {w : World} {b : Nat} {V : SV} (h : BoxAt w b V) : w.cell? ⟨b, 0, none⟩ = some V.on ∧ w.cell? ⟨b, 1, none⟩ = some V.orders ∧ w.cell? ⟨b, 2, none⟩ = some V.holds ∧ w.cell? ⟨b, 3, none⟩ = some V.moves ∧
    w.cell? ⟨b, 4, none⟩ = some V.inn ∧ w.cell? ⟨b, 5, none⟩ = some V.out ∧ w.cell? ⟨b, 6, none⟩ = some V.fixed :=
  ⟨h.blk.cell rfl, h.blk.cell rfl, h.blk.cell rfl, h.blk.cell rfl, h.blk.cell rfl, h.blk.cell rfl, h.blk.cell rfl⟩
theorem BoxAt.frozen {w : World} {b : Nat} {V : SV} (h : BoxAt w b V) (o : Nat) : w.frozen? ⟨b, o, none⟩ = false := h.blk.frozen o
theorem set_row {w : World} {g : Nat} {e : TypeId} {cur : List Value} (h : Blk w g e cur) (j : Nat) (u : Value) : Blk (w.setCell ⟨g, j, none⟩ u) g e (cur.set j u) ∧ w.grownBy (w.setCell ⟨g, j, none⟩ u) (some g) := by
  unfold Blk at h
  have hl := (Array.getElem?_eq_some_iff.1 h).1
  constructor
  · unfold Blk World.setCell
    simp [Array.getElem?_modify, h]
  · refine ⟨rfl, rfl, rfl, by simp [World.setCell], fun k hk hne => ?_⟩
    unfold World.setCell
    simp only
    rw [Array.getElem?_modify]
    rw [if_neg (fun e => hne (by rw [e]))]
theorem BoxAt.setOn {w : World} {b : Nat} {V : SV} (h : BoxAt w b V) (u : Value) : BoxAt (w.setCell ⟨b, 0, none⟩ u) b { V with on := u } := (set_row h.blk 0 u).1
theorem BoxAt.setOrders {w : World} {b : Nat} {V : SV} (h : BoxAt w b V) (u : Value) : BoxAt (w.setCell ⟨b, 1, none⟩ u) b { V with orders := u } := (set_row h.blk 1 u).1
theorem BoxAt.setHolds {w : World} {b : Nat} {V : SV} (h : BoxAt w b V) (u : Value) : BoxAt (w.setCell ⟨b, 2, none⟩ u) b { V with holds := u } := (set_row h.blk 2 u).1
theorem BoxAt.setFixed {w : World} {b : Nat} {V : SV} (h : BoxAt w b V) (u : Value) : BoxAt (w.setCell ⟨b, 6, none⟩ u) b { V with fixed := u } := (set_row h.blk 6 u).1

/-- A state stored into its box. -/
theorem wpList_store_state {ops : Array Oper} {rest : List Oper} {o : Oper} {a : Act} {w : World} {Q : Exit → Act → World → Prop} (hgd : o.guard = none) (x y : Operand) (ho : o.op = .store 31 x y) (hn : o.dst = none) (b : Nat) (V V' : SV)
    (hbox : BoxAt w b V) (hx : a.eval x = .pointer (some ⟨b, 0, none⟩)) (hy : a.eval y = V'.val) (h1 : V'.cells.all (fun u => u.oneCell') = true)
    (h : ∀ w', BoxAt w' b V' → w.grownBy w' (some b) → wpList Tryz.prog ops Q rest a w') : wpList Tryz.prog ops Q (o :: rest) a w :=
  wpList_plain hgd fun K hK => by
    refine wp_store_row (P := Tryz.prog) 31 x y ho b V'.cells.toArray hx hy 31 V.cells.toArray hbox (by kernel_rfl) rfl (by simpa using h1) ?_
    rw [hn]
    exact hK _ _ (h _ (hbox.blk.row V'.cells) (grown_row w b V'.cells.toArray))
theorem Own.notBox {α : Type} {enc : α → List Value} {size : Nat} {e : TypeId} {w : World} {base : Nat} {v : Value} {l : List α} (h : Own enc size e w base v l) {b : Nat} {t : TypeId} {cur : List Value} (hb : Blk w b t cur) (hne : e ≠ t) :
    v.ownBlock = none ∨ v.ownBlock ≠ some b := by
  cases hv : v.ownBlock with
  | none => exact .inl rfl
  | some g =>
    refine .inr fun he => ?_
    injection he with he
    subst he
    obtain ⟨c1, h1⟩ := h.block hv
    unfold Blk at hb
    rw [h1] at hb
    injection hb with h2
    injection h2 with _ h3
    exact hne h3
namespace OwnSt
variable {w w' : World} {base : Nat} {V : SV} {s : State}
/-- A block of another type was written. -/
theorem keptBy (h : OwnSt w base V s) {b : Nat} {t : TypeId} {cur : List Value} (hg : w.grownBy w' (some b)) (hb : Blk w b t cur) (h1 : 23 ≠ t) (h2 : 3 ≠ t) (h3 : 42 ≠ t) (h4 : 44 ≠ t) (h5 : 46 ≠ t) (h6 : 48 ≠ t) : OwnSt w' base V s :=
  ⟨h.on.kept hg (h.on.notBox hb h1), h.rlen, fun b hlt => (h.row b hlt).kept hg ((h.row b hlt).notBox hb h2), h.orders.kept hg (h.orders.notBox hb h3), h.llen, fun o ho => (h.line o ho).kept hg ((h.line o ho).notBox hb h4),
    h.holds.kept hg (h.holds.notBox hb h5), h.moves.kept hg (h.moves.notBox hb h6), h.inn.kept hg (h.inn.notBox hb h2), h.out.kept hg (h.out.notBox hb h2), h.fixed.kept hg (h.fixed.notBox hb h2), h.apart, h.apartl⟩
theorem box (h : OwnSt w base V s) {b : Nat} {V' : SV} (hb : BoxAt w b V') (j : Nat) (u : Value) : OwnSt (w.setCell ⟨b, j, none⟩ u) base V s :=
  h.keptBy (set_row hb.blk j u).2 hb.blk (by decide) (by decide) (by decide) (by decide) (by decide) (by decide)
theorem ords_push {l : List Order} {vs : List Value} (h : vs.length = l.length) (x : Order) (u : Value) : ords (l ++ [x]) (vs ++ [u]) = ords l vs ++ [(x.kind, u)] := by
  unfold ords
  rw [List.zipWith_append h.symm]
  rfl
/-- An order more. -/
theorem pushOrder {w1 w2 : World} (h : OwnSt w base V s) (hb : Below w.heap.size w w1) {u : Value} {x : Order} (hu : Own cLine 4 44 w1 base u x.lines) (hf : ∀ g, u.ownBlock = some g → w.heap.size ≤ g) (hg : w1.grownBy w2 V.orders.ownBlock)
    {v' : Value} (hv : Own cOrd 2 42 w2 base v' (ords s.orders V.lines ++ [(x.kind, u)])) : OwnSt w2 base { V with orders := v', lines := V.lines ++ [u] } { s with orders := s.orders ++ [x] } := by
  have k := h.below hb
  refine ⟨k.on.kept hg (k.on.apart k.orders (by decide)), k.rlen, fun b hlt => (k.row b hlt).kept hg ((k.row b hlt).apart k.orders (by decide)), ?_, by simp [h.llen], fun o ho => ?_,
    k.holds.kept hg (k.holds.apart k.orders (by decide)), k.moves.kept hg (k.moves.apart k.orders (by decide)), k.inn.kept hg (k.inn.apart k.orders (by decide)), k.out.kept hg (k.out.apart k.orders (by decide)), k.fixed.kept hg (k.fixed.apart k.orders (by decide)), k.apart, ?_⟩
  · show Own cOrd 2 42 w2 base v' (ords (s.orders ++ [x]) (V.lines ++ [u]))
    rw [ords_push h.llen]
    exact hv
  · have ho' : o < s.orders.length + 1 := by simpa using ho
    by_cases hlt : o < s.orders.length
    · have e1 : SV.line { V with orders := v', lines := V.lines ++ [u] } o = V.line o := by
        unfold SV.line
        simp [List.getD_eq_getElem?_getD, List.getElem?_append_left (show o < V.lines.length by rw [h.llen]; exact hlt)]
      have e2 : State.order { s with orders := s.orders ++ [x] } o = s.order o := by
        unfold State.order orderAt
        simp [List.getD_eq_getElem?_getD, List.getElem?_append_left hlt]
      rw [e1, e2]
      exact (k.line o hlt).kept hg ((k.line o hlt).apart k.orders (by decide))
    · have ho2 : o = s.orders.length := by omega
      have e1 : SV.line { V with orders := v', lines := V.lines ++ [u] } o = u := by
        unfold SV.line
        rw [ho2, ← h.llen]
        simp
      have e2 : State.order { s with orders := s.orders ++ [x] } o = x := by
        unfold State.order orderAt
        rw [ho2]
        simp
      rw [e1, e2]
      exact hu.kept hg (hu.apart k.orders (by decide))
  · show apartL (V.lines ++ [u])
    unfold apartL
    rw [List.pairwise_append]
    refine ⟨h.apartl, List.pairwise_singleton _ _, fun a ha b hb' g hga => ?_⟩
    obtain rfl := List.mem_singleton.1 hb'
    intro he
    have h1 := hf g he
    obtain ⟨i, hi, rfl⟩ := List.getElem_of_mem ha
    have hil : i < s.orders.length := by rw [← h.llen]; exact hi
    have e1 : V.line i = V.lines[i] := by unfold SV.line; simp [hi]
    have h2 := ((h.line i hil).size g (by rw [e1]; exact hga)).2
    omega
/-- An order more, in one step. -/
theorem pushOrder2 {w2 : World} (h : OwnSt w base V s) (hg : w.grownBy w2 V.orders.ownBlock) {u : Value} {x : Order} (hu : Own cLine 4 44 w2 base u x.lines) (hf : ∀ g, u.ownBlock = some g → w.heap.size ≤ g)
    {v' : Value} (hv : Own cOrd 2 42 w2 base v' (ords s.orders V.lines ++ [(x.kind, u)])) : OwnSt w2 base { V with orders := v', lines := V.lines ++ [u] } { s with orders := s.orders ++ [x] } := by
  refine ⟨h.on.kept hg (h.on.apart h.orders (by decide)), h.rlen, fun b hlt => (h.row b hlt).kept hg ((h.row b hlt).apart h.orders (by decide)), ?_, by simp [h.llen], fun o ho => ?_,
    h.holds.kept hg (h.holds.apart h.orders (by decide)), h.moves.kept hg (h.moves.apart h.orders (by decide)), h.inn.kept hg (h.inn.apart h.orders (by decide)), h.out.kept hg (h.out.apart h.orders (by decide)), h.fixed.kept hg (h.fixed.apart h.orders (by decide)), h.apart, ?_⟩
  · show Own cOrd 2 42 w2 base v' (ords (s.orders ++ [x]) (V.lines ++ [u]))
    rw [ords_push h.llen]
    exact hv
  · have ho' : o < s.orders.length + 1 := by simpa using ho
    by_cases hlt : o < s.orders.length
    · have e1 : SV.line { V with orders := v', lines := V.lines ++ [u] } o = V.line o := by
        unfold SV.line
        simp [List.getD_eq_getElem?_getD, List.getElem?_append_left (show o < V.lines.length by rw [h.llen]; exact hlt)]
      have e2 : State.order { s with orders := s.orders ++ [x] } o = s.order o := by
        unfold State.order orderAt
        simp [List.getD_eq_getElem?_getD, List.getElem?_append_left hlt]
      rw [e1, e2]
      exact (h.line o hlt).kept hg ((h.line o hlt).apart h.orders (by decide))
    · have ho2 : o = s.orders.length := by omega
      have e1 : SV.line { V with orders := v', lines := V.lines ++ [u] } o = u := by
        unfold SV.line
        rw [ho2, ← h.llen]
        simp
      have e2 : State.order { s with orders := s.orders ++ [x] } o = x := by
        unfold State.order orderAt
        rw [ho2]
        simp
      rw [e1, e2]
      exact hu
  · show apartL (V.lines ++ [u])
    unfold apartL
    rw [List.pairwise_append]
    refine ⟨h.apartl, List.pairwise_singleton _ _, fun a ha b hb' g hga => ?_⟩
    obtain rfl := List.mem_singleton.1 hb'
    intro he
    have h1 := hf g he
    obtain ⟨i, hi, rfl⟩ := List.getElem_of_mem ha
    have hil : i < s.orders.length := by rw [← h.llen]; exact hi
    have e1 : V.line i = V.lines[i] := by unfold SV.line; simp [hi]
    have h2 := ((h.line i hil).size g (by rw [e1]; exact hga)).2
    omega
end OwnSt
theorem grown_trans {w1 w2 w3 : World} {row : Option Nat} (h : w1.grownBy w2 row) (h' : w2.grownBy w3 row) : w1.grownBy w3 row :=
  ⟨h'.os.trans h.os, h'.tape.trans h.tape, h'.output.trans h.output, Nat.le_trans h.size h'.size, fun k hk hne => (h'.block k (Nat.lt_of_lt_of_le hk h.size) hne).trans (h.block k hk hne)⟩
theorem grown_of_below {w1 w2 : World} {row : Option Nat} (h : Below w1.heap.size w1 w2) : w1.grownBy w2 row := ⟨h.os, h.tape, h.output, h.size, fun k hk _ => h.block k hk⟩

section
variable {P : Program}
/-- append to a new empty slice: nothing that was there is written. -/
theorem run_append_fresh {α : Type} {enc : α → List Value} (w : World) (t ty e : TypeId) (z : Value) (size bytes : Nat) (ht : P.underlying t = some (.slice e)) (hi : Elem P e z size bytes) (hzs : z.cells.size = size) (hsz : 0 < size) (hby : bytes ≤ 64)
    (g : Nat) (hg : Blk w g e []) (m : List α) (A : Option Addr) (c B : Nat) (hk : ∀ y, (enc y).length = size) (hA : At w B A (m.flatMap enc)) (hn : m.length ≤ 1000000) :
    ∃ v' w', (Builtin.append_ #[t, t] ty #[.slice (some ⟨g, 0, none⟩) 0 0, .slice A m.length c]).run P w = .ok v' w' ∧ Below w.heap.size w w' ∧ Own enc size e w' g v' m ∧ (0 < m.length → Own enc size e w' w.heap.size v' m) := by
  have hi0 := hi
  obtain ⟨i, hi, hz, hsize, hbytes⟩ := hi
  rcases Nat.eq_zero_or_pos m.length with h0 | h0
  · obtain rfl : m = [] := List.eq_nil_of_length_eq_zero h0
    refine ⟨.slice (some ⟨g, 0, none⟩) 0 0, w, ?_, Below.refl _ _, Own.of_row hk (Nat.le_refl _) hg (Nat.le_refl _) (Nat.zero_le _) (by simp) (by simp), fun h => by simp at h⟩
    cases A with
    | none => simp [Builtin.append_, run_underlying ht, Go.sizeOf, typeInfo, hi, Builtin.lenOf, Builtin.firstCells, storeCells]
    | some ad =>
      have hf := run_firstCells_some (P := P) w i.size 0 ad 0 c [] (by simp) (by simp)
      simp [Builtin.append_, run_underlying ht, Go.sizeOf, typeInfo, hi, Builtin.lenOf, hf, storeCells]
  · have hp : 0 < (m.flatMap enc).length := by rw [flat_length enc size hk]; exact Nat.mul_pos h0 hsz
    have he := (hA.ok hp).eq
    have hmax : m.length ≤ maxLen := by unfold maxLen; omega
    have hcap : Builtin.nextslicecap m.length 0 * i.bytes ≤ 281474976710656 := by
      rw [nextslicecap_zero h0, hbytes]
      exact Nat.le_trans (Nat.mul_le_mul hn hby) (by decide)
    have hr := run_append_grow (P := P) w t ty e i z ht hi hz ⟨g, 0, none⟩ 0 0 [] (by simp) (by simp) ⟨ablk A, aoff A, none⟩ m.length c (m.flatMap enc) (by rw [flat_length enc size hk, hsize]) (fun j u hj => by rw [Addr.add_lit]; exact hA.cell hj)
      (by omega) (by have : m.length ≤ 1000000 := hn; omega) (by simpa using hcap)
    rw [← he] at hr
    simp only [Nat.zero_add, Array.empty_append] at hr
    have hge := grownCap_ge w m.length 0 e
    have hcm := grownCap_le_maxLen w m.length 0 e hmax
    have hown : Own enc size e (w.drew.alloc (.cells ((m.flatMap enc).toArray ++ Builtin.zeroCells z.cells (grownCap w m.length 0 e - m.length)) e)) w.heap.size (.slice (some ⟨w.heap.size, 0, none⟩) m.length (grownCap w m.length 0 e)) m := by
      have hb := Blk.new w.drew e ((m.flatMap enc).toArray ++ Builtin.zeroCells z.cells (grownCap w m.length 0 e - m.length))
      refine Own.of_row hk (Nat.le_refl _) hb hge hcm ?_ ?_
      · rw [Array.length_toList, Array.size_append, List.size_toArray, zeroCells_length, hzs, flat_length enc size hk, ← Nat.add_mul]
        congr 1
        omega
      · rw [Array.toList_append, ← flat_length enc size hk]
        exact List.take_left
    exact ⟨_, _, hr, ((Below.refl _ _).drew.alloc (Nat.le_refl _) _), hown.from_ (Nat.le_of_lt hg.lt), fun _ => hown⟩
end
/-- The sums' slices, made one behind the other: none in a block of the rows, nor of another. -/
def NumsI (w : World) (B : Nat) (on : List (List Int)) (inn : List Int) (vO vI : Value) : Prop := ∃ gs, OwnOn 23 3 w B vO on gs ∧ Own cInt 1 3 w B vI inn ∧ ∀ x ∈ gs, vI.ownBlock ≠ some x
def NumsU (w : World) (B : Nat) (on : List (List Int)) (inn out : List Int) (vO vI vU : Value) : Prop := ∃ gs, OwnOn 23 3 w B vO on gs ∧ (Own cInt 1 3 w B vI inn ∧ ∀ x ∈ gs, vI.ownBlock ≠ some x) ∧
  Own cInt 1 3 w B vU out ∧ (∀ x ∈ gs, vU.ownBlock ≠ some x) ∧ ∀ x, vI.ownBlock = some x → vU.ownBlock ≠ some x
def NumsX (w : World) (B : Nat) (on : List (List Int)) (inn out fixed : List Int) (vO vI vU vX : Value) : Prop := ∃ gs, OwnOn 23 3 w B vO on gs ∧ (Own cInt 1 3 w B vI inn ∧ ∀ x ∈ gs, vI.ownBlock ≠ some x) ∧
  (Own cInt 1 3 w B vU out ∧ (∀ x ∈ gs, vU.ownBlock ≠ some x) ∧ ∀ x, vI.ownBlock = some x → vU.ownBlock ≠ some x) ∧
  Own cInt 1 3 w B vX fixed ∧ (∀ x ∈ gs, vX.ownBlock ≠ some x) ∧ (∀ x, vI.ownBlock = some x → vX.ownBlock ≠ some x) ∧ ∀ x, vU.ownBlock = some x → vX.ownBlock ≠ some x
section
variable {w w' : World} {B : Nat} {on : List (List Int)} {inn out fixed : List Int} {vO vI vU vX : Value}
theorem NumsI.below (h : NumsI w B on inn vO vI) (hb : Below w.heap.size w w') : NumsI w' B on inn vO vI := let ⟨gs, h1, h2, h3⟩ := h; ⟨gs, h1.below hb, h2.below hb, h3⟩
theorem NumsU.below (h : NumsU w B on inn out vO vI vU) (hb : Below w.heap.size w w') : NumsU w' B on inn out vO vI vU := let ⟨gs, h1, ⟨h2, h3⟩, h4, h5⟩ := h; ⟨gs, h1.below hb, ⟨h2.below hb, h3⟩, h4.below hb, h5⟩
theorem NumsX.below (h : NumsX w B on inn out fixed vO vI vU vX) (hb : Below w.heap.size w w') : NumsX w' B on inn out fixed vO vI vU vX :=
  let ⟨gs, h1, ⟨h2, h3⟩, ⟨h4, h5⟩, h6, h7⟩ := h
  ⟨gs, h1.below hb, ⟨h2.below hb, h3⟩, ⟨h4.below hb, h5⟩, h6.below hb, h7⟩
theorem fresh_ne {v : Value} {l : List Int} (h : Own cInt 1 3 w' w.heap.size v l) {x : Nat} (hx : x < w.heap.size) : v.ownBlock ≠ some x := fun he => by
  have := (h.size x he).1
  omega
theorem NumsI.of {gs : List Nat} (h : OwnOn 23 3 w B vO on gs) (hB : B ≤ w.heap.size) (hb : Below w.heap.size w w') (hv : Own cInt 1 3 w' w.heap.size vI inn) : NumsI w' B on inn vO vI :=
  ⟨gs, h.below hb, hv.from_ hB, fun _ hx => fresh_ne hv (h.mem hx).2⟩
theorem NumsU.of (h : NumsI w B on inn vO vI) (hB : B ≤ w.heap.size) (hb : Below w.heap.size w w') (hv : Own cInt 1 3 w' w.heap.size vU out) : NumsU w' B on inn out vO vI vU :=
  let ⟨gs, h1, h2, h3⟩ := h
  ⟨gs, h1.below hb, ⟨h2.below hb, h3⟩, hv.from_ hB, fun _ hx => fresh_ne hv (h1.mem hx).2, fun x hx => fresh_ne hv (h2.size x hx).2⟩
theorem NumsX.of (h : NumsU w B on inn out vO vI vU) (hB : B ≤ w.heap.size) (hb : Below w.heap.size w w') (hv : Own cInt 1 3 w' w.heap.size vX fixed) : NumsX w' B on inn out fixed vO vI vU vX :=
  let ⟨gs, h1, ⟨h2, h3⟩, h4, h5, h6⟩ := h
  ⟨gs, h1.below hb, ⟨h2.below hb, h3⟩, ⟨h4.below hb, h5, h6⟩, hv.from_ hB, fun _ hx => fresh_ne hv (h1.mem hx).2, fun x hx => fresh_ne hv (h2.size x hx).2, fun x hx => fresh_ne hv (h4.size x hx).2⟩
theorem OwnOn.isSlice {E2 E1 : TypeId} {gs : List Nat} {v : Value} (h : OwnOn E2 E1 w B v on gs) : ∃ A c, v = .slice A on.length c := by
  obtain ⟨vs, h1, h2, _⟩ := h
  obtain ⟨A, c, e⟩ := h1.isSlice
  exact ⟨A, c, by rw [e, h2]⟩
theorem NumsI.isSlice (h : NumsI w B on inn vO vI) : ∃ A c, vI = .slice A inn.length c := let ⟨_, _, h2, _⟩ := h; h2.isSlice
theorem NumsU.isSlice (h : NumsU w B on inn out vO vI vU) : ∃ A c, vU = .slice A out.length c := let ⟨_, _, _, h4, _⟩ := h; h4.isSlice
theorem NumsX.isSlice (h : NumsX w B on inn out fixed vO vI vU vX) : ∃ A c, vX = .slice A fixed.length c := let ⟨_, _, _, _, h6, _⟩ := h; h6.isSlice
theorem NumsX.isSlice0 (h : NumsX w B on inn out fixed vO vI vU vX) : ∃ A c, vO = .slice A on.length c := let ⟨_, h1, _⟩ := h; h1.isSlice
/-- A state without orders, made of its slices. -/
theorem NumsX.made (h : NumsX w B on inn out fixed vO vI vU vX) {vH vM : Value} {holds : List Hold} {moves : List Move} (hH : Own cHold 4 46 w B vH holds) (hM : Own cMove 4 48 w B vM moves) :
    ∃ vs, OwnSt w B ⟨vO, nilV, vH, vM, vI, vU, vX, vs, []⟩ ⟨on, [], holds, moves, inn, out, fixed⟩ := by
  obtain ⟨gs, ⟨vs, k1, k2, k3, k4, k5⟩, ⟨h2, h3⟩, ⟨h4, h5, h6⟩, h7, h8, h9, h10⟩ := h
  have hrow : ∀ b, b < on.length → ∃ g c, vs.getD b nilV = .slice (some ⟨g, 0, none⟩) (rowAt on b).length c ∧ gs[b]? = some g ∧ Own cInt 1 3 w B (.slice (some ⟨g, 0, none⟩) (rowAt on b).length c) (rowAt on b) := fun b hb => by
    obtain ⟨g, c, e1, e2, e3⟩ := k5 b on[b] (by simp [hb])
    rw [rowAt_eq hb]
    exact ⟨g, c, by rw [List.getD_eq_getElem?_getD, e1]; rfl, e2, e3⟩
  have hmem : ∀ u ∈ vs, ∃ g ∈ gs, u.ownBlock = some g := fun u hu => by
    obtain ⟨i, hi, rfl⟩ := List.getElem_of_mem hu
    obtain ⟨g, c, e1, e2, _⟩ := k5 i on[i] (by simp [← k2, hi])
    rw [List.getElem?_eq_getElem hi] at e1
    injection e1 with e1
    exact ⟨g, List.mem_of_getElem? e2, by rw [e1]; rfl⟩
  refine ⟨vs, k1, k2, fun b hb => ?_, Own.nil, rfl, (fun o ho => by cases ho), hH, hM, h2, h4, h7, ?_, List.Pairwise.nil⟩
  · obtain ⟨g, c, e1, _, e3⟩ := hrow b hb
    show Own cInt 1 3 w B (vs.getD b nilV) (rowAt on b)
    rw [e1]
    exact e3
  · show apartL (vs ++ [vI, vU, vX])
    unfold apartL
    rw [List.pairwise_append]
    refine ⟨?_, ?_, fun a ha b hb g hg => ?_⟩
    · rw [List.pairwise_iff_getElem]
      intro i j hi hj hij g hg he
      obtain ⟨g1, c1, a1, b1, _⟩ := k5 i on[i] (by simp [← k2, hi])
      obtain ⟨g2, c2, a2, b2, _⟩ := k5 j on[j] (by simp [← k2, hj])
      rw [List.getElem?_eq_getElem hi] at a1
      rw [List.getElem?_eq_getElem hj] at a2
      injection a1 with a1
      injection a2 with a2
      rw [a1] at hg
      rw [a2] at he
      simp only [Value.ownBlock, Option.some.injEq] at hg he
      have hgi : i < gs.length := by rw [k3, ← k2]; exact hi
      have hgj : j < gs.length := by rw [k3, ← k2]; exact hj
      rw [List.getElem?_eq_getElem hgi] at b1
      rw [List.getElem?_eq_getElem hgj] at b2
      injection b1 with b1
      injection b2 with b2
      have : gs[i] = gs[j] := by rw [b1, b2, hg, he]
      have := (List.getElem_inj k4).1 this
      omega
    · refine List.Pairwise.cons (fun b hb g hg => ?_) (List.Pairwise.cons (fun b hb g hg => ?_) (List.pairwise_singleton _ _))
      · rcases List.mem_cons.1 hb with rfl | hb
        · exact h6 g hg
        · obtain rfl := List.mem_singleton.1 hb
          exact h9 g hg
      · obtain rfl := List.mem_singleton.1 hb
        exact h10 g hg
    · obtain ⟨g', hg', e⟩ := hmem a ha
      rw [hg] at e
      injection e with e
      subst e
      simp only [List.mem_cons, List.not_mem_nil, or_false] at hb
      rcases hb with rfl | rfl | rfl
      · exact h3 g hg'
      · exact h5 g hg'
      · exact h8 g hg'
end
end Wh
namespace Wh

theorem range_all {n : Nat} {P : Nat → Bool} : (List.range n).all P = true ↔ ∀ k, k < n → P k = true := by
  rw [List.all_eq_true]
  exact ⟨fun h k hk => h k (List.mem_range.2 hk), fun h k hk => h k (List.mem_range.1 hk)⟩
theorem range_no {n : Nat} {P : Nat → Bool} {k : Nat} (hk : k < n) (h : P k = false) : (List.range n).all P = false := by
  cases ha : (List.range n).all P
  · rfl
  · rw [range_all.1 ha k hk] at h; cases h
theorem summed_iff {p : Plan} {s : State} : summed p s = true ↔ (∀ g, g < p.sizes.length → goodSummed p s g = true) ∧ ∀ o, o < s.orders.length → orderSummed s o = true := by
  unfold summed
  rw [Bool.and_eq_true, range_all, range_all]
theorem summed_good {p : Plan} {s : State} {g : Nat} (hg : g < p.sizes.length) (h : goodSummed p s g = false) : summed p s = false := by
  unfold summed
  rw [range_no hg h, Bool.false_and]
theorem summed_order {p : Plan} {s : State} {o : Nat} (ho : o < s.orders.length) (h : orderSummed s o = false) : summed p s = false := by
  unfold summed
  rw [range_no ho h, Bool.and_false]
theorem goodSummed_iff {p : Plan} {s : State} {g : Nat} : goodSummed p s g = true ↔ sumOf s.on g = intAt s.inn g - intAt s.out g + intAt s.fixed g ∧ ∀ b : Nat, b < p.bins.length → bound s b g ≤ cell s.on b g := by
  unfold goodSummed
  rw [Bool.and_eq_true, range_all]
  simp
theorem goodSummed_sum {p : Plan} {s : State} {g : Nat} (h : sumOf s.on g ≠ intAt s.inn g - intAt s.out g + intAt s.fixed g) : goodSummed p s g = false := by
  cases hq : goodSummed p s g
  · rfl
  · exact absurd (goodSummed_iff.1 hq).1 h
theorem goodSummed_bin {p : Plan} {s : State} {g b : Nat} (hb : b < p.bins.length) (h : cell s.on b g < bound s b g) : goodSummed p s g = false := by
  cases hq : goodSummed p s g
  · rfl
  · have := (goodSummed_iff.1 hq).2 b hb
    omega
theorem orderSummed_iff {s : State} {o : Nat} : orderSummed s o = true ↔ ¬ ((s.order o).kind = 1 ∧ allGot (s.order o) = true) ∧ ∀ k, k < (s.order o).lines.length → lineSummed s o k = true := by
  unfold orderSummed
  rw [Bool.and_eq_true, range_all]
  by_cases h1 : (s.order o).kind = 1 <;> simp [h1]
theorem orderSummed_got {s : State} {o : Nat} (h : (s.order o).kind = 1) (h2 : allGot (s.order o) = true) : orderSummed s o = false := by
  cases hq : orderSummed s o
  · rfl
  · exact absurd ⟨h, h2⟩ (orderSummed_iff.1 hq).1
theorem orderSummed_line {s : State} {o k : Nat} (hk : k < (s.order o).lines.length) (h : lineSummed s o k = false) : orderSummed s o = false := by
  cases hq : orderSummed s o
  · rfl
  · rw [(orderSummed_iff.1 hq).2 k hk] at h
    cases h
theorem lineSummed_iff {s : State} {o k : Nat} : lineSummed s o k = true ↔ (s.line o k).got + (s.line o k).back + kept s.holds o k = (if (s.order o).kind = 0 then 0 else (s.line o k).want) ∧ ¬ ((s.order o).kind = 2 ∧ 0 < kept s.holds o k) := by
  unfold lineSummed
  by_cases h1 : (s.order o).kind = 2 <;> simp [h1]
theorem allGot_any {p : Plan} {s : State} (h : Sane p s) {o : Nat} (ho : o < s.orders.length) : ((s.order o).lines.any fun x => decide (x.got < x.want)) = !(allGot (s.order o)) := by
  have hl : ∀ x ∈ (s.order o).lines, x.got ≤ x.want := fun x hx => by
    obtain ⟨k, hk, rfl⟩ := List.getElem_of_mem hx
    have := (h.line ho hk).2.2.1.2
    unfold State.line at this
    rwa [lineAt_eq hk] at this
  unfold allGot
  rw [← any_not]
  generalize (s.order o).lines = l at hl
  induction l with
  | nil => rfl
  | cons x l ih =>
    rw [List.any_cons, List.any_cons, ih (fun y hy => hl y (by simp [hy]))]
    congr 1
    have := hl x (by simp)
    rw [Bool.eq_iff_iff]
    simp
    omega
/-- Where not all was got, one is named. -/
theorem allGot_iff {o : Order} : allGot o = true ↔ ∀ k, k < o.lines.length → (lineAt o.lines k).got = (lineAt o.lines k).want := by
  unfold allGot
  constructor
  · intro h k hk
    have := all_at dLine h hk
    simpa [lineAt] using this
  · intro h
    refine all_of dLine fun k hk => ?_
    have := h k hk
    unfold lineAt at this
    simpa using this
theorem sumsOk_bad {p : Plan} (l : List Int) (lo : Int) (hn : 0 < p.sizes.length) : (l.length ≠ p.sizes.length ∧ sumsOk p l lo = false) ∨ (l.length = p.sizes.length ∧ lowest l < lo ∧ sumsOk p l lo = false) ∨
    (l.length = p.sizes.length ∧ lo ≤ lowest l ∧ 1048576 < greatest l ∧ sumsOk p l lo = false) ∨ (l.length = p.sizes.length ∧ lo ≤ lowest l ∧ greatest l ≤ 1048576 ∧ sumsOk p l lo = true) := by
  by_cases h1 : l.length = p.sizes.length
  · have hp : 0 < l.length := by omega
    have hlo : lo ≤ lowest l ↔ ∀ j, j < l.length → lo ≤ intAt l j := by
      unfold lowest
      rw [le_minTo]
      exact ⟨fun h j hj => h j (by omega), fun h j hj => h j (by omega)⟩
    have hhi : greatest l ≤ 1048576 ↔ ∀ j, j < l.length → intAt l j ≤ 1048576 := by
      unfold greatest
      rw [maxTo_le]
      exact ⟨fun h j hj => h j (by omega), fun h j hj => h j (by omega)⟩
    have hs : sumsOk p l lo = true ↔ lo ≤ lowest l ∧ greatest l ≤ 1048576 := by
      rw [sumsOk_iff, hlo, hhi]
      constructor
      · rintro ⟨_, h⟩
        exact ⟨fun j hj => (within_iff.1 (all_at 0 h hj)).1, fun j hj => (within_iff.1 (all_at 0 h hj)).2⟩
      · rintro ⟨h2, h3⟩
        exact ⟨h1, all_of 0 fun j hj => within_iff.2 ⟨h2 j hj, h3 j hj⟩⟩
    cases hq : sumsOk p l lo
    · rw [hq] at hs
      simp only [Bool.false_eq_true, false_iff] at hs
      simp only [h1, and_true, true_and, ne_eq, not_true_eq_false, false_or, reduceCtorEq, and_false, or_false]
      omega
    · rw [hq] at hs
      simp only [true_iff] at hs
      simp only [h1, and_true, true_and, ne_eq, not_true_eq_false, false_or, reduceCtorEq, and_false]
      omega
  · refine .inl ⟨h1, ?_⟩
    unfold sumsOk
    rw [decide_eq_false h1, Bool.false_and]
end Wh
namespace Wh
open Go Go.RowKit

/-- How far a world is from another: its draws, the blocks behind. -/
structure GB where
  d : Nat
  os : Array Obj
instance : Inhabited GB := ⟨⟨0, #[]⟩⟩

def wld (w : World) (d : Nat) (os : Array Obj) : World := { w with drawn := d, heap := w.heap ++ os }

theorem below_wld (w : World) (d : Nat) (os : Array Obj) : Below w.heap.size w (wld w d os) :=
  ⟨rfl, rfl, rfl, by simp [wld], fun k hk => by simp [wld, Array.getElem?_append_left hk]⟩
theorem wld_of_below {w w' : World} (h : Below w.heap.size w w') : ∃ p : GB, w' = wld w p.d p.os := by
  obtain ⟨h1, h2, h3, h4, h5⟩ := h
  obtain ⟨heap, tape, drawn, os, output⟩ := w'
  refine ⟨⟨drawn, heap.extract w.heap.size heap.size⟩, ?_⟩
  simp only at h1 h2 h3 h4 h5
  subst h1 h2 h3
  unfold wld
  congr 1
  apply Array.ext_getElem?
  intro k
  by_cases hk : k < w.heap.size
  · rw [h5 k hk, Array.getElem?_append_left hk]
  · rw [Array.getElem?_append_right (by omega)]
    simp only [Array.getElem?_extract]
    by_cases hl : k < heap.size
    · rw [if_pos (by omega)]
      congr 1
      omega
    · rw [if_neg (by omega), Array.getElem?_eq_none (by omega)]
theorem cells_wld {w : World} {b : Nat} (hb : b < w.heap.size) (o : Nat) (d : Nat) (os : Array Obj) : (wld w d os).cell? ⟨b, o, none⟩ = w.cell? ⟨b, o, none⟩ :=
  (below_wld w d os).cell (p := ⟨b, o, none⟩) hb
theorem wp_region_wld {P : Program} {id : Nat} {Q : Exit → Act → World → Prop} {a : Act} {w : World} {l : List Oper} (hm : P.follows .mixedOrders = true) (hB : Region.lexB .any l.toArray = true)
    (h : wpQuiet P l.toArray (fun w' => ∃ p : GB, w' = wld w p.d p.os) (fun a' => ∀ w', (∃ p : GB, w' = wld w p.d p.os) → Q .normal a' w') l a) : (Code.region id l.toArray true).wp P Q a w :=
  wp_region_quiet (C := fun w' => ∃ p : GB, w' = wld w p.d p.os) hm hB ⟨⟨w.drawn + 1, #[]⟩, by simp [wld]⟩ (by simpa using h)
/-- A callee's contract, met in a world of the class. -/
theorem calls_wld {P : Program} {f : FuncId} {args : Array Value} {w : World} {d : Nat} {os : Array Obj} {v : Value}
    (h : Calls P f args (wld w d os) fun e w' => e = .returned v ∧ Below (wld w d os).heap.size (wld w d os) w') : Calls P f args (wld w d os) fun e w'' => e = .returned v ∧ ∃ p : GB, w'' = wld w p.d p.os :=
  h.mono fun _ _ ⟨he, hb⟩ => ⟨he, wld_of_below ((below_wld w d os).trans (hb.mono (below_wld w d os).size))⟩
theorem calls_wld_same {P : Program} {f : FuncId} {args : Array Value} {w : World} {d : Nat} {os : Array Obj} {v : Value}
    (h : Calls P f args (wld w d os) fun e w' => e = .returned v ∧ wld w d os = w') : Calls P f args (wld w d os) fun e w'' => e = .returned v ∧ ∃ p : GB, w'' = wld w p.d p.os :=
  h.mono fun _ _ ⟨he, hb⟩ => ⟨he, ⟨d, os⟩, hb.symm⟩
theorem below_of_cls {w W : World} (h : ∃ p : GB, W = wld w p.d p.os) : Below w.heap.size w W := by
  obtain ⟨p, rfl⟩ := h
  exact below_wld w p.d p.os
end Wh
namespace Wh
open Go Go.RowKit Go.Proofs

theorem openOne {w : World} {vs : Value} {s : State} (hv : StateV w w.heap.size vs s) : ∃ A0 c0 A1 c1 A2 c2 A3 c3 A4 c4 A5 c5 A6 c6, vs = .agg #[.slice A0 s.on.length c0, .slice A1 s.orders.length c1, .slice A2 s.holds.length c2, .slice A3 s.moves.length c3, .slice A4 s.inn.length c4, .slice A5 s.out.length c5, .slice A6 s.fixed.length c6] ∧ Hid (∀ W, Below w.heap.size w W → StateV W W.heap.size (.agg #[.slice A0 s.on.length c0, .slice A1 s.orders.length c1, .slice A2 s.holds.length c2, .slice A3 s.moves.length c3, .slice A4 s.inn.length c4, .slice A5 s.out.length c5, .slice A6 s.fixed.length c6]) s) ∧ Hid (∀ W, Below w.heap.size w W → SlSl cInt W W.heap.size (.slice A0 s.on.length c0) s.on) ∧ Hid (∀ W, Below w.heap.size w W → SlOrders W W.heap.size (.slice A1 s.orders.length c1) s.orders) ∧ Hid (∀ W, Below w.heap.size w W → Sl cHold W W.heap.size (.slice A2 s.holds.length c2) s.holds) ∧ Hid (∀ W, Below w.heap.size w W → Sl cMove W W.heap.size (.slice A3 s.moves.length c3) s.moves) ∧ Hid (∀ W, Below w.heap.size w W → Sl cInt W W.heap.size (.slice A4 s.inn.length c4) s.inn) ∧ Hid (∀ W, Below w.heap.size w W → Sl cInt W W.heap.size (.slice A5 s.out.length c5) s.out) ∧ Hid (∀ W, Below w.heap.size w W → Sl cInt W W.heap.size (.slice A6 s.fixed.length c6) s.fixed) ∧ s.on.length ≤ 140737488355232 ∧ s.orders.length ≤ 140737488355232 ∧ s.holds.length ≤ 140737488355232 ∧ s.moves.length ≤ 140737488355232 ∧ s.inn.length ≤ 140737488355232 ∧ s.out.length ≤ 140737488355232 ∧ s.fixed.length ≤ 140737488355232 := by
  have hS := hv
  obtain ⟨_, _, _, _, _, _, _, rfl, ⟨A0, c0, vs0, rfl, hl0, hm0, ha0, hr0⟩, ⟨A1, c1, vs1, rfl, hl1, hm1, ha1, hr1⟩, ⟨A2, c2, rfl, hl2, ha2⟩, ⟨A3, c3, rfl, hl3, ha3⟩, ⟨A4, c4, rfl, hl4, ha4⟩, ⟨A5, c5, rfl, hl5, ha5⟩, ⟨A6, c6, rfl, hl6, ha6⟩⟩ := hv
  exact ⟨A0, c0, A1, c1, A2, c2, A3, c3, A4, c4, A5, c5, A6, c6, rfl, Lib.hid (fun W hW => hS.up hW hW.size), Lib.hid (fun W hW => SlSl.up ⟨A0, c0, vs0, rfl, hl0, hm0, ha0, hr0⟩ hW hW.size), Lib.hid (fun W hW => SlOrders.up ⟨A1, c1, vs1, rfl, hl1, hm1, ha1, hr1⟩ hW hW.size), Lib.hid (fun W hW => Sl.up ⟨A2, c2, rfl, hl2, ha2⟩ hW hW.size), Lib.hid (fun W hW => Sl.up ⟨A3, c3, rfl, hl3, ha3⟩ hW hW.size), Lib.hid (fun W hW => Sl.up ⟨A4, c4, rfl, hl4, ha4⟩ hW hW.size), Lib.hid (fun W hW => Sl.up ⟨A5, c5, rfl, hl5, ha5⟩ hW hW.size), Lib.hid (fun W hW => Sl.up ⟨A6, c6, rfl, hl6, ha6⟩ hW hW.size), hl0, hl1, hl2, hl3, hl4, hl5, hl6⟩

theorem openPl {w : World} {v : Value} {p : Plan} (hp : PlanV w w.heap.size v p) : ∃ Ab cb As cs, v = .agg #[.slice Ab p.bins.length cb, .slice As p.sizes.length cs] ∧ Hid (∀ W, Below w.heap.size w W → PlanV W W.heap.size (.agg #[.slice Ab p.bins.length cb, .slice As p.sizes.length cs]) p) ∧ Hid (∀ W, Below w.heap.size w W → Sl cBin W W.heap.size (.slice Ab p.bins.length cb) p.bins) ∧ Hid (∀ W, Below w.heap.size w W → Sl cInt W W.heap.size (.slice As p.sizes.length cs) p.sizes) ∧ p.bins.length ≤ 140737488355232 ∧ p.sizes.length ≤ 140737488355232 := by
  have hP := hp
  obtain ⟨_, _, rfl, ⟨Ab, cb, rfl, hlb, hb⟩, ⟨As, cs, rfl, hls, hs⟩⟩ := hp
  exact ⟨Ab, cb, As, cs, rfl, Lib.hid (fun W hW => hP.up hW hW.size), Lib.hid (fun W hW => Sl.up ⟨Ab, cb, rfl, hlb, hb⟩ hW hW.size), Lib.hid (fun W hW => Sl.up ⟨As, cs, rfl, hls, hs⟩ hW hW.size), hlb, hls⟩

theorem boxesTwo (w : World) (p : Plan) (s : State) (Ab : Option Addr) (cb : Nat) (As : Option Addr) (cs : Nat) (A0 : Option Addr) (c0 : Nat) (A1 : Option Addr) (c1 : Nat) (A2 : Option Addr) (c2 : Nat) (A3 : Option Addr) (c3 : Nat) (A4 : Option Addr) (c4 : Nat) (A5 : Option Addr) (c5 : Nat) (A6 : Option Addr) (c6 : Nat) :
    ∃ W0 : World, (w.alloc (.cells #[.slice Ab p.bins.length cb, .slice As p.sizes.length cs] 25)).alloc (.cells #[.slice A0 s.on.length c0, .slice A1 s.orders.length c1, .slice A2 s.holds.length c2, .slice A3 s.moves.length c3, .slice A4 s.inn.length c4, .slice A5 s.out.length c5, .slice A6 s.fixed.length c6] 31) = W0 ∧ Below w.heap.size w W0 ∧ w.heap.size + 1 < W0.heap.size ∧ w.heap.size < W0.heap.size ∧ Hid (W0.heap.size = w.heap.size + 1 + 1) ∧
      Hid (∀ W, Below W0.heap.size W0 W → (W.cell? ⟨w.heap.size, 0, none⟩ = some (.slice Ab p.bins.length cb) ∧ W.cell? ⟨w.heap.size, 1, none⟩ = some (.slice As p.sizes.length cs)) ∧ W.cell? ⟨w.heap.size + 1, 0, none⟩ = some (.slice A0 s.on.length c0) ∧ W.cell? ⟨w.heap.size + 1, 1, none⟩ = some (.slice A1 s.orders.length c1) ∧ W.cell? ⟨w.heap.size + 1, 2, none⟩ = some (.slice A2 s.holds.length c2) ∧ W.cell? ⟨w.heap.size + 1, 3, none⟩ = some (.slice A3 s.moves.length c3) ∧ W.cell? ⟨w.heap.size + 1, 4, none⟩ = some (.slice A4 s.inn.length c4) ∧ W.cell? ⟨w.heap.size + 1, 5, none⟩ = some (.slice A5 s.out.length c5) ∧ W.cell? ⟨w.heap.size + 1, 6, none⟩ = some (.slice A6 s.fixed.length c6) ∧ w.heap.size + 1 < W.heap.size ∧ w.heap.size < W.heap.size) := by
  refine ⟨_, rfl, ((Below.refl _ _).alloc (Nat.le_refl _) _).alloc (by simp) _, by simp, by simp; omega, Lib.hid (by simp), Lib.hid fun W hW => ?_⟩
  have h1 : Blk ((w.alloc (.cells #[.slice Ab p.bins.length cb, .slice As p.sizes.length cs] 25)).alloc (.cells #[.slice A0 s.on.length c0, .slice A1 s.orders.length c1, .slice A2 s.holds.length c2, .slice A3 s.moves.length c3, .slice A4 s.inn.length c4, .slice A5 s.out.length c5, .slice A6 s.fixed.length c6] 31)) w.heap.size 25 [.slice Ab p.bins.length cb, .slice As p.sizes.length cs] := (Blk.new _ _ _).alloc _
  have h2 : Blk ((w.alloc (.cells #[.slice Ab p.bins.length cb, .slice As p.sizes.length cs] 25)).alloc (.cells #[.slice A0 s.on.length c0, .slice A1 s.orders.length c1, .slice A2 s.holds.length c2, .slice A3 s.moves.length c3, .slice A4 s.inn.length c4, .slice A5 s.out.length c5, .slice A6 s.fixed.length c6] 31)) (w.heap.size + 1) 31 [.slice A0 s.on.length c0, .slice A1 s.orders.length c1, .slice A2 s.holds.length c2, .slice A3 s.moves.length c3, .slice A4 s.inn.length c4, .slice A5 s.out.length c5, .slice A6 s.fixed.length c6] := by
    have := Blk.new (w.alloc (.cells #[.slice Ab p.bins.length cb, .slice As p.sizes.length cs] 25)) 31 #[.slice A0 s.on.length c0, .slice A1 s.orders.length c1, .slice A2 s.holds.length c2, .slice A3 s.moves.length c3, .slice A4 s.inn.length c4, .slice A5 s.out.length c5, .slice A6 s.fixed.length c6]
    rw [World.size_alloc] at this
    exact this
  have k1 := h1.below hW (by simp; omega)
  have k2 := h2.below hW (by simp)
  exact ⟨⟨k1.cell rfl, k1.cell rfl⟩, k2.cell rfl, k2.cell rfl, k2.cell rfl, k2.cell rfl, k2.cell rfl, k2.cell rfl, k2.cell rfl, k2.lt, k1.lt⟩

theorem boxesOne (w : World) (s : State) (A0 : Option Addr) (c0 : Nat) (A1 : Option Addr) (c1 : Nat) (A2 : Option Addr) (c2 : Nat) (A3 : Option Addr) (c3 : Nat) (A4 : Option Addr) (c4 : Nat) (A5 : Option Addr) (c5 : Nat) (A6 : Option Addr) (c6 : Nat) :
    ∃ W0 : World, w.alloc (.cells #[.slice A0 s.on.length c0, .slice A1 s.orders.length c1, .slice A2 s.holds.length c2, .slice A3 s.moves.length c3, .slice A4 s.inn.length c4, .slice A5 s.out.length c5, .slice A6 s.fixed.length c6] 31) = W0 ∧ Below w.heap.size w W0 ∧ w.heap.size < W0.heap.size ∧ w.heap.size < W0.heap.size ∧ Hid (W0.heap.size = w.heap.size + 1) ∧
      Hid (∀ W, Below W0.heap.size W0 W → (True ∧ True) ∧ W.cell? ⟨w.heap.size, 0, none⟩ = some (.slice A0 s.on.length c0) ∧ W.cell? ⟨w.heap.size, 1, none⟩ = some (.slice A1 s.orders.length c1) ∧ W.cell? ⟨w.heap.size, 2, none⟩ = some (.slice A2 s.holds.length c2) ∧ W.cell? ⟨w.heap.size, 3, none⟩ = some (.slice A3 s.moves.length c3) ∧ W.cell? ⟨w.heap.size, 4, none⟩ = some (.slice A4 s.inn.length c4) ∧ W.cell? ⟨w.heap.size, 5, none⟩ = some (.slice A5 s.out.length c5) ∧ W.cell? ⟨w.heap.size, 6, none⟩ = some (.slice A6 s.fixed.length c6) ∧ w.heap.size < W.heap.size ∧ w.heap.size < W.heap.size) := by
  refine ⟨_, rfl, (Below.refl _ _).alloc (Nat.le_refl _) _, by simp, by simp, Lib.hid (by simp), Lib.hid fun W hW => ?_⟩
  have h2 : Blk (w.alloc (.cells #[.slice A0 s.on.length c0, .slice A1 s.orders.length c1, .slice A2 s.holds.length c2, .slice A3 s.moves.length c3, .slice A4 s.inn.length c4, .slice A5 s.out.length c5, .slice A6 s.fixed.length c6] 31)) w.heap.size 31 [.slice A0 s.on.length c0, .slice A1 s.orders.length c1, .slice A2 s.holds.length c2, .slice A3 s.moves.length c3, .slice A4 s.inn.length c4, .slice A5 s.out.length c5, .slice A6 s.fixed.length c6] := Blk.new _ _ _
  have k2 := h2.below hW (by simp)
  exact ⟨⟨trivial, trivial⟩, k2.cell rfl, k2.cell rfl, k2.cell rfl, k2.cell rfl, k2.cell rfl, k2.cell rfl, k2.cell rfl, k2.lt, k2.lt⟩

theorem boxesPl (w : World) (p : Plan) (Ab : Option Addr) (cb : Nat) (As : Option Addr) (cs : Nat) :
    ∃ W0 : World, w.alloc (.cells #[.slice Ab p.bins.length cb, .slice As p.sizes.length cs] 25) = W0 ∧ Below w.heap.size w W0 ∧ w.heap.size < W0.heap.size ∧ Hid (∀ W, Below W0.heap.size W0 W → W.cell? ⟨w.heap.size, 0, none⟩ = some (.slice Ab p.bins.length cb) ∧ W.cell? ⟨w.heap.size, 1, none⟩ = some (.slice As p.sizes.length cs) ∧ w.heap.size < W.heap.size) := by
  refine ⟨_, rfl, (Below.refl _ _).alloc (Nat.le_refl _) _, by simp, Lib.hid fun W hW => ?_⟩
  have h1 : Blk (w.alloc (.cells #[.slice Ab p.bins.length cb, .slice As p.sizes.length cs] 25)) w.heap.size 25 [.slice Ab p.bins.length cb, .slice As p.sizes.length cs] := Blk.new _ _ _
  have k1 := h1.below hW (by simp)
  exact ⟨k1.cell rfl, k1.cell rfl, k1.lt⟩

/-- .. and the box of the state that comes. -/
theorem boxesAct (w : World) (p : Plan) (s : State) (Ab : Option Addr) (cb : Nat) (As : Option Addr) (cs : Nat) (A0 : Option Addr) (c0 : Nat) (A1 : Option Addr) (c1 : Nat) (A2 : Option Addr) (c2 : Nat) (A3 : Option Addr) (c3 : Nat) (A4 : Option Addr) (c4 : Nat) (A5 : Option Addr) (c5 : Nat) (A6 : Option Addr) (c6 : Nat) :
    ∃ W0 : World, ((w.alloc (.cells #[.slice Ab p.bins.length cb, .slice As p.sizes.length cs] 25)).alloc (.cells #[.slice A0 s.on.length c0, .slice A1 s.orders.length c1, .slice A2 s.holds.length c2, .slice A3 s.moves.length c3, .slice A4 s.inn.length c4, .slice A5 s.out.length c5, .slice A6 s.fixed.length c6] 31)).alloc (.cells #[.slice none 0 0, .slice none 0 0, .slice none 0 0, .slice none 0 0, .slice none 0 0, .slice none 0 0, .slice none 0 0] 31) = W0 ∧ Below w.heap.size w W0 ∧ w.heap.size + 1 < W0.heap.size ∧ w.heap.size < W0.heap.size ∧ Hid (W0.heap.size = w.heap.size + 1 + 1 + 1) ∧
      Hid (∀ W, Below W0.heap.size W0 W → (W.cell? ⟨w.heap.size, 0, none⟩ = some (.slice Ab p.bins.length cb) ∧ W.cell? ⟨w.heap.size, 1, none⟩ = some (.slice As p.sizes.length cs)) ∧ W.cell? ⟨w.heap.size + 1, 0, none⟩ = some (.slice A0 s.on.length c0) ∧ W.cell? ⟨w.heap.size + 1, 1, none⟩ = some (.slice A1 s.orders.length c1) ∧ W.cell? ⟨w.heap.size + 1, 2, none⟩ = some (.slice A2 s.holds.length c2) ∧ W.cell? ⟨w.heap.size + 1, 3, none⟩ = some (.slice A3 s.moves.length c3) ∧ W.cell? ⟨w.heap.size + 1, 4, none⟩ = some (.slice A4 s.inn.length c4) ∧ W.cell? ⟨w.heap.size + 1, 5, none⟩ = some (.slice A5 s.out.length c5) ∧ W.cell? ⟨w.heap.size + 1, 6, none⟩ = some (.slice A6 s.fixed.length c6) ∧ w.heap.size + 1 < W.heap.size ∧ w.heap.size < W.heap.size) ∧
      Hid (∀ W, Below W0.heap.size W0 W → Blk W (w.heap.size + 1 + 1) 31 [.slice none 0 0, .slice none 0 0, .slice none 0 0, .slice none 0 0, .slice none 0 0, .slice none 0 0, .slice none 0 0]) := by
  obtain ⟨W1, e1, b1, s1, s2, s3, hK⟩ := boxesTwo w p s Ab cb As cs A0 c0 A1 c1 A2 c2 A3 c3 A4 c4 A5 c5 A6 c6
  rw [e1]
  have e3 : W1.heap.size = w.heap.size + 1 + 1 := s3
  have ha : Below W1.heap.size W1 (W1.alloc (.cells #[.slice none 0 0, .slice none 0 0, .slice none 0 0, .slice none 0 0, .slice none 0 0, .slice none 0 0, .slice none 0 0] 31)) := (Below.refl _ _).alloc (Nat.le_refl _) _
  have h1 : Blk (W1.alloc (.cells #[.slice none 0 0, .slice none 0 0, .slice none 0 0, .slice none 0 0, .slice none 0 0, .slice none 0 0, .slice none 0 0] 31)) W1.heap.size 31 [.slice none 0 0, .slice none 0 0, .slice none 0 0, .slice none 0 0, .slice none 0 0, .slice none 0 0, .slice none 0 0] := Blk.new _ _ _
  rw [e3] at h1
  refine ⟨_, rfl, b1.trans (ha.mono b1.size), by simp; omega, by simp; omega, Lib.hid (by simp [e3]), Lib.hid fun W hW => ?_, Lib.hid fun W hW => h1.below hW (by simp; omega)⟩
  exact RowKit.Hid.out hK W (ha.trans (hW.mono ha.size))
end Wh
