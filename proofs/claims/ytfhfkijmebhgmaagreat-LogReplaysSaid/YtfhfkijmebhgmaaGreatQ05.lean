/- Texts of the claim, joined: OwnS. -/
import Derived.Test.YtfhfkijmebhgmaaGreatQ03
import Derived.Test.YtfhfkijmebhgmaaGreatQ04
namespace Wh
open Go Go.RowKit Go.Proofs

/-- The slices of a state; the rows' and the orders' lines'. -/
structure SV where
  on : Value
  orders : Value
  holds : Value
  moves : Value
  inn : Value
  out : Value
  fixed : Value
  rows : List Value
  lines : List Value
def SV.cells (V : SV) : List Value := [V.on, V.orders, V.holds, V.moves, V.inn, V.out, V.fixed]
def SV.val (V : SV) : Value := .agg #[V.on, V.orders, V.holds, V.moves, V.inn, V.out, V.fixed]
def nilV : Value := .slice none 0 0
def SV.row (V : SV) (b : Nat) : Value := V.rows.getD b nilV
def SV.line (V : SV) (o : Nat) : Value := V.lines.getD o nilV
def cOrd (x : Int × Value) : List Value := [.int .i64 x.1, x.2]
def ords (l : List Order) (vs : List Value) : List (Int × Value) := List.zipWith (fun o u => (o.kind, u)) l vs
/-- No two of these slices lie in one block. -/
def apartL (vs : List Value) : Prop := vs.Pairwise fun a b => ∀ g, a.ownBlock = some g → b.ownBlock ≠ some g

structure OwnSt (w : World) (base : Nat) (V : SV) (s : State) : Prop where
  on : Own (fun u : Value => [u]) 1 23 w base V.on V.rows
  rlen : V.rows.length = s.on.length
  row : ∀ b, b < s.on.length → Own cInt 1 3 w base (V.row b) (rowAt s.on b)
  orders : Own cOrd 2 42 w base V.orders (ords s.orders V.lines)
  llen : V.lines.length = s.orders.length
  line : ∀ o, o < s.orders.length → Own cLine 4 44 w base (V.line o) (s.order o).lines
  holds : Own cHold 4 46 w base V.holds s.holds
  moves : Own cMove 4 48 w base V.moves s.moves
  inn : Own cInt 1 3 w base V.inn s.inn
  out : Own cInt 1 3 w base V.out s.out
  fixed : Own cInt 1 3 w base V.fixed s.fixed
  apart : apartL (V.rows ++ [V.inn, V.out, V.fixed])
  apartl : apartL V.lines

theorem ords_length {l : List Order} {vs : List Value} (h : vs.length = l.length) : (ords l vs).length = l.length := by
  unfold ords
  rw [List.length_zipWith]
  omega
theorem ords_get {l : List Order} {vs : List Value} {i : Nat} (h : vs.length = l.length) (hi : i < l.length) : (ords l vs)[i]? = some ((orderAt l i).kind, vs.getD i nilV) := by
  unfold ords
  rw [List.getElem?_zipWith, List.getElem?_eq_getElem hi, List.getElem?_eq_getElem (by omega), orderAt_eq hi]
  simp [show i < vs.length by omega]
theorem apart_at {vs : List Value} (h : apartL vs) {i j : Nat} (hi : i < vs.length) (hj : j < vs.length) (hne : i ≠ j) {g : Nat} (hg : (vs.getD i nilV).ownBlock = some g) : (vs.getD j nilV).ownBlock ≠ some g := by
  have e1 : vs.getD i nilV = vs[i] := by simp [hi]
  have e2 : vs.getD j nilV = vs[j] := by simp [hj]
  rw [e1] at hg
  rw [e2]
  rcases Nat.lt_or_gt_of_ne hne with h1 | h1
  · exact List.pairwise_iff_getElem.1 h i j hi hj h1 g hg
  · intro he
    exact List.pairwise_iff_getElem.1 h j i hj hi h1 g he hg
/-- Two slices of one list, seen from a block that is written. -/
theorem apart_or {vs : List Value} (h : apartL vs) {i j : Nat} (hi : i < vs.length) (hj : j < vs.length) (hne : i ≠ j) : (vs.getD i nilV).ownBlock = none ∨ (vs.getD i nilV).ownBlock ≠ (vs.getD j nilV).ownBlock := by
  cases hb : (vs.getD i nilV).ownBlock with
  | none => exact .inl rfl
  | some g => exact .inr fun he => apart_at h hi hj hne hb he.symm

namespace OwnSt
variable {w w' : World} {base : Nat} {V : SV} {s : State}
theorem below (h : OwnSt w base V s) (hb : Below w.heap.size w w') : OwnSt w' base V s :=
  ⟨h.on.below hb, h.rlen, fun b hlt => (h.row b hlt).below hb, h.orders.below hb, h.llen, fun o ho => (h.line o ho).below hb, h.holds.below hb, h.moves.below hb, h.inn.below hb, h.out.below hb, h.fixed.below hb, h.apart, h.apartl⟩
theorem alloc (h : OwnSt w base V s) (o : Obj) : OwnSt (w.alloc o) base V s := h.below ((Below.refl _ _).alloc (Nat.le_refl _) _)
theorem drew (h : OwnSt w base V s) : OwnSt w.drew base V s := h.below (Below.refl _ _).drew
theorem from_ (h : OwnSt w base V s) {base' : Nat} (hb : base' ≤ base) : OwnSt w base' V s :=
  ⟨h.on.from_ hb, h.rlen, fun b hlt => (h.row b hlt).from_ hb, h.orders.from_ hb, h.llen, fun o ho => (h.line o ho).from_ hb, h.holds.from_ hb, h.moves.from_ hb, h.inn.from_ hb, h.out.from_ hb, h.fixed.from_ hb, h.apart, h.apartl⟩

theorem rowGet (h : OwnSt w base V s) {b : Nat} (hb : b < s.on.length) : V.rows[b]? = some (V.row b) := by
  unfold SV.row
  simp [show b < V.rows.length by rw [h.rlen]; exact hb]
theorem lineGet (h : OwnSt w base V s) {o : Nat} (ho : o < s.orders.length) : V.lines[o]? = some (V.line o) := by
  unfold SV.line
  simp [show o < V.lines.length by rw [h.llen]; exact ho]

/-- It reads as the state. -/
theorem view (h : OwnSt w base V s) {p : Plan} (hs : Sane p s) : StateV w w.heap.size V.val s := by
  have h72 := ok_len72 hs.holds
  have h8 := hs.moves8
  have h4 := hs.orders4
  have hc := hs.counts
  have hon := hs.onLen
  obtain ⟨A, c, hv, _, hA⟩ := h.on.sl (by rw [h.rlen]; omega)
  obtain ⟨A1, c1, hv1, _, hA1⟩ := h.orders.sl (by rw [ords_length h.llen]; omega)
  refine ⟨_, _, _, _, _, _, _, rfl, ⟨A, c, V.rows, by rw [hv, h.rlen], by omega, h.rlen, ?_, fun i x hi => ?_⟩, ⟨A1, c1, V.lines, by rw [hv1, ords_length h.llen], by omega, h.llen, ?_, fun i x hi => ?_⟩, h.holds.sl (by omega), h.moves.sl (by omega), h.inn.sl (by rw [hs.inn.1]; omega), h.out.sl (by rw [hs.out.1]; omega), h.fixed.sl (by rw [hs.fixed.1]; omega)⟩
  · have : V.rows.flatMap (fun u => [u]) = V.rows := by simp
    rw [this] at hA
    exact hA
  · have hil : i < s.on.length := (List.getElem?_eq_some_iff.1 hi).1
    have hx : rowAt s.on i = x := by rw [rowAt_eq hil]; exact (List.getElem?_eq_some_iff.1 hi).2
    exact ⟨_, h.rowGet hil, by rw [← hx]; exact (h.row i hil).sl (by rw [hs.rowLen (by omega)]; omega)⟩
  · have e : (s.orders.zip V.lines).flatMap (fun x => [Value.int .i64 x.1.kind, x.2]) = (ords s.orders V.lines).flatMap cOrd := by
      unfold ords cOrd
      rw [List.zip_eq_zipWith, List.flatMap_def, List.flatMap_def, List.map_zipWith, List.map_zipWith]
    rw [e]
    exact hA1
  · have hil : i < s.orders.length := (List.getElem?_eq_some_iff.1 hi).1
    have hx : s.order i = x := by unfold State.order; rw [orderAt_eq hil]; exact (List.getElem?_eq_some_iff.1 hi).2
    have := hs.lines3 hil
    rw [hx] at this
    exact ⟨_, h.lineGet hil, by rw [← hx]; exact (h.line i hil).sl (by rw [hx]; omega)⟩

-- which slices lie apart
theorem innAt (V : SV) : (V.rows ++ [V.inn, V.out, V.fixed]).getD (V.rows.length + 0) nilV = V.inn := by simp
theorem outAt (V : SV) : (V.rows ++ [V.inn, V.out, V.fixed]).getD (V.rows.length + 1) nilV = V.out := by simp
theorem fixedAt (V : SV) : (V.rows ++ [V.inn, V.out, V.fixed]).getD (V.rows.length + 2) nilV = V.fixed := by simp
theorem rowAtV (V : SV) {b : Nat} (hb : b < V.rows.length) : (V.rows ++ [V.inn, V.out, V.fixed]).getD b nilV = V.row b := by
  unfold SV.row
  simp [List.getD_eq_getElem?_getD, List.getElem?_append_left hb]
theorem lenV (V : SV) : (V.rows ++ [V.inn, V.out, V.fixed]).length = V.rows.length + 3 := by simp

/-- Another slice of moves; the old one's block may have been written. -/
theorem newMoves (h : OwnSt w base V s) (hg : w.grownBy w' V.moves.ownBlock) {v : Value} {l : List Move} (hv : Own cMove 4 48 w' base v l) : OwnSt w' base { V with moves := v } { s with moves := l } :=
  ⟨h.on.kept hg (h.on.apart h.moves (by decide)), h.rlen, fun b hb => (h.row b hb).kept hg ((h.row b hb).apart h.moves (by decide)), h.orders.kept hg (h.orders.apart h.moves (by decide)), h.llen, fun o ho => (h.line o ho).kept hg ((h.line o ho).apart h.moves (by decide)),
    h.holds.kept hg (h.holds.apart h.moves (by decide)), hv, h.inn.kept hg (h.inn.apart h.moves (by decide)), h.out.kept hg (h.out.apart h.moves (by decide)), h.fixed.kept hg (h.fixed.apart h.moves (by decide)), h.apart, h.apartl⟩
/-- The holds' block was written. -/
theorem wroteHolds (h : OwnSt w base V s) (hg : w.grownBy w' V.holds.ownBlock) {v : Value} {l : List Hold} (hv : Own cHold 4 46 w' base v l) : OwnSt w' base { V with holds := v } { s with holds := l } :=
  ⟨h.on.kept hg (h.on.apart h.holds (by decide)), h.rlen, fun b hb => (h.row b hb).kept hg ((h.row b hb).apart h.holds (by decide)), h.orders.kept hg (h.orders.apart h.holds (by decide)), h.llen, fun o ho => (h.line o ho).kept hg ((h.line o ho).apart h.holds (by decide)),
    hv, h.moves.kept hg (h.moves.apart h.holds (by decide)), h.inn.kept hg (h.inn.apart h.holds (by decide)), h.out.kept hg (h.out.apart h.holds (by decide)), h.fixed.kept hg (h.fixed.apart h.holds (by decide)), h.apart, h.apartl⟩

theorem order_set {s : State} {o o' : Nat} {x : Order} (ho : o < s.orders.length) : orderAt (s.orders.set o x) o' = if o' = o then x else s.order o' := by
  unfold State.order orderAt
  by_cases h : o' = o
  · subst h
    simp [ho]
  · rw [if_neg h]
    simp [Ne.symm h]
theorem ords_set {l : List Order} {vs : List Value} {o : Nat} {x : Order} (hx : x.kind = (orderAt l o).kind) : ords (l.set o x) vs = ords l vs := by
  unfold ords
  apply List.ext_getElem?
  intro i
  rw [List.getElem?_zipWith, List.getElem?_zipWith, List.getElem?_set]
  by_cases h : o = i
  · subst h
    rw [if_pos rfl]
    by_cases hl : o < l.length
    · rw [if_pos hl, List.getElem?_eq_getElem hl]
      cases vs[o]? with
      | none => rfl
      | some u =>
        simp only
        rw [hx, orderAt_eq hl]
    · rw [if_neg hl, List.getElem?_eq_none (show l.length ≤ o by omega)]
  · rw [if_neg h]

/-- A number of a line. -/
theorem setLine (h : OwnSt w base V s) {o k : Nat} (ho : o < s.orders.length) (hk : k < (s.order o).lines.length) {gl n c : Nat} (hv : V.line o = .slice (some ⟨gl, 0, none⟩) n c) {j : Nat} (hj : j < 4) {y : Line} {u : Value}
    (hy : cLine y = (cLine (s.line o k)).set j u) : OwnSt (w.setCell ⟨gl, k * 4 + j, none⟩ u) base V (s.setLine o k y) ∧ w.grownBy (w.setCell ⟨gl, k * 4 + j, none⟩ u) (some gl) := by
  have hl := h.line o ho
  have hl' := hl
  rw [hv] at hl'
  have hlk : s.line o k = (s.order o).lines[k] := by unfold State.line; rw [lineAt_eq hk]
  obtain ⟨o1, hg⟩ := hl'.store (fun _ => rfl) hk hj (y := y) (u := u) (by rw [hy, hlk])
  have hob : (V.line o).ownBlock = some gl := by rw [hv]; rfl
  have hg' : w.grownBy (w.setCell ⟨gl, k * 4 + j, none⟩ u) (V.line o).ownBlock := by rw [hob]; exact hg
  have hlen : (s.setLine o k y).orders.length = s.orders.length := by unfold State.setLine; simp
  have hor : ∀ o', (s.setLine o k y).order o' = if o' = o then { s.order o with lines := (s.order o).lines.set k y } else s.order o' := fun o' => order_set ho
  refine ⟨⟨h.on.kept hg' (h.on.apart hl (by decide)), h.rlen, fun b hb => (h.row b hb).kept hg' ((h.row b hb).apart hl (by decide)), ?_, by rw [hlen]; exact h.llen, fun o' ho' => ?_, h.holds.kept hg' (h.holds.apart hl (by decide)),
    h.moves.kept hg' (h.moves.apart hl (by decide)), h.inn.kept hg' (h.inn.apart hl (by decide)), h.out.kept hg' (h.out.apart hl (by decide)), h.fixed.kept hg' (h.fixed.apart hl (by decide)), h.apart, h.apartl⟩, hg⟩
  · have e : ords (s.setLine o k y).orders V.lines = ords s.orders V.lines := ords_set rfl
    rw [e]
    exact h.orders.kept hg' (h.orders.apart hl (by decide))
  · rw [hlen] at ho'
    rw [hor]
    by_cases he : o' = o
    · subst he
      rw [if_pos rfl, hv]
      exact o1
    · rw [if_neg he]
      exact (h.line o' ho').kept hg' (apart_or h.apartl (by rw [h.llen]; exact ho') (by rw [h.llen]; exact ho) he)
/-- An order's kind. -/
theorem setKind (h : OwnSt w base V s) {o : Nat} (ho : o < s.orders.length) {go n c : Nat} (hv : V.orders = .slice (some ⟨go, 0, none⟩) n c) (q : Int) :
    OwnSt (w.setCell ⟨go, o * 2, none⟩ (.int .i64 q)) base V { s with orders := s.orders.set o { s.order o with kind := q } } ∧ w.grownBy (w.setCell ⟨go, o * 2, none⟩ (.int .i64 q)) (some go) := by
  have hl := h.orders
  have hl' := hl
  rw [hv] at hl'
  have hol : o < (ords s.orders V.lines).length := by rw [ords_length h.llen]; exact ho
  have hget : (ords s.orders V.lines)[o] = ((orderAt s.orders o).kind, V.lines.getD o nilV) := by
    have := ords_get h.llen ho
    rw [List.getElem?_eq_getElem hol] at this
    exact Option.some.inj this
  obtain ⟨o1, hg⟩ := hl'.store (i := o) (fun _ => rfl) hol (show 0 < 2 by omega) (y := (q, V.lines.getD o nilV)) (u := .int .i64 q) (by rw [hget]; rfl)
  have hob : V.orders.ownBlock = some go := by rw [hv]; rfl
  rw [Nat.add_zero] at o1 hg
  have hg' : w.grownBy (w.setCell ⟨go, o * 2, none⟩ (.int .i64 q)) V.orders.ownBlock := by rw [hob]; exact hg
  have hlen : (s.orders.set o { s.order o with kind := q }).length = s.orders.length := by simp
  refine ⟨⟨h.on.kept hg' (h.on.apart hl (by decide)), h.rlen, fun b hb => (h.row b hb).kept hg' ((h.row b hb).apart hl (by decide)), ?_, by rw [hlen]; exact h.llen, fun o' ho' => ?_, h.holds.kept hg' (h.holds.apart hl (by decide)),
    h.moves.kept hg' (h.moves.apart hl (by decide)), h.inn.kept hg' (h.inn.apart hl (by decide)), h.out.kept hg' (h.out.apart hl (by decide)), h.fixed.kept hg' (h.fixed.apart hl (by decide)), h.apart, h.apartl⟩, hg⟩
  · rw [hv]
    have e : ords (s.orders.set o { s.order o with kind := q }) V.lines = (ords s.orders V.lines).set o (q, V.lines.getD o nilV) := by
      unfold ords
      apply List.ext_getElem?
      intro i
      rw [List.getElem?_zipWith, List.getElem?_set, List.getElem?_set, List.getElem?_zipWith]
      by_cases he : o = i
      · subst he
        have hvl : o < V.lines.length := by rw [h.llen]; exact ho
        rw [if_pos rfl, if_pos ho, if_pos rfl, if_pos (by rw [List.length_zipWith]; omega), List.getElem?_eq_getElem hvl]
        simp [hvl]
      · rw [if_neg he, if_neg he]
    show Own cOrd 2 42 _ base _ (ords (s.orders.set o { s.order o with kind := q }) V.lines)
    rw [e]
    exact o1
  · rw [hlen] at ho'
    have hor : State.order { s with orders := s.orders.set o { s.order o with kind := q } } o' = if o' = o then { s.order o with kind := q } else s.order o' := order_set ho
    rw [hor]
    have k1 := (h.line o' ho').kept hg' ((h.line o' ho').apart hl (by decide))
    by_cases he : o' = o
    · subst he
      rw [if_pos rfl]
      exact k1
    · rw [if_neg he]
      exact k1
/-- A number of a shelf. -/
theorem setOn (h : OwnSt w base V s) {b g : Nat} (hb : b < s.on.length) (hgl : g < (rowAt s.on b).length) {gr n c : Nat} (hv : V.row b = .slice (some ⟨gr, 0, none⟩) n c) (q : Int) :
    OwnSt (w.setCell ⟨gr, g, none⟩ (.int .i64 q)) base V { s with on := setCell s.on b g q } ∧ w.grownBy (w.setCell ⟨gr, g, none⟩ (.int .i64 q)) (some gr) := by
  have hl := h.row b hb
  have hl' := hl
  rw [hv] at hl'
  obtain ⟨o1, hg⟩ := hl'.store (i := g) (fun _ => rfl) hgl (show 0 < 1 by omega) (y := q) (u := .int .i64 q) rfl
  rw [Nat.mul_one, Nat.add_zero] at o1 hg
  have hob : (V.row b).ownBlock = some gr := by rw [hv]; rfl
  have hg' : w.grownBy (w.setCell ⟨gr, g, none⟩ (.int .i64 q)) (V.row b).ownBlock := by rw [hob]; exact hg
  have hbV : b < V.rows.length := by rw [h.rlen]; exact hb
  have key : ∀ i, i < V.rows.length + 3 → i ≠ b → ((V.rows ++ [V.inn, V.out, V.fixed]).getD i nilV).ownBlock = none ∨ ((V.rows ++ [V.inn, V.out, V.fixed]).getD i nilV).ownBlock ≠ (V.row b).ownBlock := fun i hi hne => by
    have := apart_or h.apart (i := i) (j := b) (by rw [lenV]; exact hi) (by rw [lenV]; omega) hne
    rw [rowAtV V hbV] at this
    exact this
  refine ⟨⟨h.on.kept hg' (h.on.apart hl (by decide)), by rw [length_setCell]; exact h.rlen, fun i hi => ?_, h.orders.kept hg' (h.orders.apart hl (by decide)), h.llen, fun o ho => (h.line o ho).kept hg' ((h.line o ho).apart hl (by decide)), h.holds.kept hg' (h.holds.apart hl (by decide)),
    h.moves.kept hg' (h.moves.apart hl (by decide)), h.inn.kept hg' ?_, h.out.kept hg' ?_, h.fixed.kept hg' ?_, h.apart, h.apartl⟩, hg⟩
  · rw [length_setCell] at hi
    unfold Wh.setCell
    rw [rowAt_set hb]
    by_cases he : i = b
    · subst he
      rw [if_pos rfl, hv]
      exact o1
    · rw [if_neg he]
      have := key i (by rw [h.rlen]; omega) he
      rw [rowAtV V (by rw [h.rlen]; exact hi)] at this
      exact (h.row i hi).kept hg' this
  · have := key (V.rows.length + 0) (by omega) (by omega)
    rw [innAt] at this
    exact this
  · have := key (V.rows.length + 1) (by omega) (by omega)
    rw [outAt] at this
    exact this
  · have := key (V.rows.length + 2) (by omega) (by omega)
    rw [fixedAt] at this
    exact this
/-- A number of the sums 'inn'. -/
theorem setInn (h : OwnSt w base V s) {g : Nat} (hgl : g < s.inn.length) {gr n c : Nat} (hv : V.inn = .slice (some ⟨gr, 0, none⟩) n c) (q : Int) :
    OwnSt (w.setCell ⟨gr, g, none⟩ (.int .i64 q)) base V { s with inn := s.inn.set g q } ∧ w.grownBy (w.setCell ⟨gr, g, none⟩ (.int .i64 q)) (some gr) := by
  have hl := h.inn
  have hl' := hl
  rw [hv] at hl'
  obtain ⟨o1, hg⟩ := hl'.store (i := g) (fun _ => rfl) hgl (show 0 < 1 by omega) (y := q) (u := .int .i64 q) rfl
  rw [Nat.mul_one, Nat.add_zero] at o1 hg
  have hob : V.inn.ownBlock = some gr := by rw [hv]; rfl
  have hg' : w.grownBy (w.setCell ⟨gr, g, none⟩ (.int .i64 q)) V.inn.ownBlock := by rw [hob]; exact hg
  have key : ∀ i, i < V.rows.length + 3 → i ≠ V.rows.length + 0 → ((V.rows ++ [V.inn, V.out, V.fixed]).getD i nilV).ownBlock = none ∨ ((V.rows ++ [V.inn, V.out, V.fixed]).getD i nilV).ownBlock ≠ V.inn.ownBlock := fun i hi hne => by
    have := apart_or h.apart (i := i) (j := V.rows.length + 0) (by rw [lenV]; exact hi) (by rw [lenV]; omega) hne
    rw [innAt] at this
    exact this
  refine ⟨⟨h.on.kept hg' (h.on.apart hl (by decide)), h.rlen, fun i hi => ?_, h.orders.kept hg' (h.orders.apart hl (by decide)), h.llen, fun o ho => (h.line o ho).kept hg' ((h.line o ho).apart hl (by decide)), h.holds.kept hg' (h.holds.apart hl (by decide)),
    h.moves.kept hg' (h.moves.apart hl (by decide)), ?_, ?_, ?_, h.apart, h.apartl⟩, hg⟩
  · have hi' : i < s.on.length := hi
    have hr := h.rlen
    have := key i (by omega) (by omega)
    rw [rowAtV V (by omega)] at this
    exact (h.row i hi).kept hg' this
  · rw [hv]
    exact o1
  · have := key (V.rows.length + 1) (by omega) (by omega)
    rw [outAt] at this
    exact h.out.kept hg' this
  · have := key (V.rows.length + 2) (by omega) (by omega)
    rw [fixedAt] at this
    exact h.fixed.kept hg' this
/-- A number of the sums 'out'. -/
theorem setOut (h : OwnSt w base V s) {g : Nat} (hgl : g < s.out.length) {gr n c : Nat} (hv : V.out = .slice (some ⟨gr, 0, none⟩) n c) (q : Int) :
    OwnSt (w.setCell ⟨gr, g, none⟩ (.int .i64 q)) base V { s with out := s.out.set g q } ∧ w.grownBy (w.setCell ⟨gr, g, none⟩ (.int .i64 q)) (some gr) := by
  have hl := h.out
  have hl' := hl
  rw [hv] at hl'
  obtain ⟨o1, hg⟩ := hl'.store (i := g) (fun _ => rfl) hgl (show 0 < 1 by omega) (y := q) (u := .int .i64 q) rfl
  rw [Nat.mul_one, Nat.add_zero] at o1 hg
  have hob : V.out.ownBlock = some gr := by rw [hv]; rfl
  have hg' : w.grownBy (w.setCell ⟨gr, g, none⟩ (.int .i64 q)) V.out.ownBlock := by rw [hob]; exact hg
  have key : ∀ i, i < V.rows.length + 3 → i ≠ V.rows.length + 1 → ((V.rows ++ [V.inn, V.out, V.fixed]).getD i nilV).ownBlock = none ∨ ((V.rows ++ [V.inn, V.out, V.fixed]).getD i nilV).ownBlock ≠ V.out.ownBlock := fun i hi hne => by
    have := apart_or h.apart (i := i) (j := V.rows.length + 1) (by rw [lenV]; exact hi) (by rw [lenV]; omega) hne
    rw [outAt] at this
    exact this
  refine ⟨⟨h.on.kept hg' (h.on.apart hl (by decide)), h.rlen, fun i hi => ?_, h.orders.kept hg' (h.orders.apart hl (by decide)), h.llen, fun o ho => (h.line o ho).kept hg' ((h.line o ho).apart hl (by decide)), h.holds.kept hg' (h.holds.apart hl (by decide)),
    h.moves.kept hg' (h.moves.apart hl (by decide)), ?_, ?_, ?_, h.apart, h.apartl⟩, hg⟩
  · have hi' : i < s.on.length := hi
    have hr := h.rlen
    have := key i (by omega) (by omega)
    rw [rowAtV V (by omega)] at this
    exact (h.row i hi).kept hg' this
  · have := key (V.rows.length + 0) (by omega) (by omega)
    rw [innAt] at this
    exact h.inn.kept hg' this
  · rw [hv]
    exact o1
  · have := key (V.rows.length + 2) (by omega) (by omega)
    rw [fixedAt] at this
    exact h.fixed.kept hg' this
/-- A number of the sums 'fixed'. -/
theorem setFixed (h : OwnSt w base V s) {g : Nat} (hgl : g < s.fixed.length) {gr n c : Nat} (hv : V.fixed = .slice (some ⟨gr, 0, none⟩) n c) (q : Int) :
    OwnSt (w.setCell ⟨gr, g, none⟩ (.int .i64 q)) base V { s with fixed := s.fixed.set g q } ∧ w.grownBy (w.setCell ⟨gr, g, none⟩ (.int .i64 q)) (some gr) := by
  have hl := h.fixed
  have hl' := hl
  rw [hv] at hl'
  obtain ⟨o1, hg⟩ := hl'.store (i := g) (fun _ => rfl) hgl (show 0 < 1 by omega) (y := q) (u := .int .i64 q) rfl
  rw [Nat.mul_one, Nat.add_zero] at o1 hg
  have hob : V.fixed.ownBlock = some gr := by rw [hv]; rfl
  have hg' : w.grownBy (w.setCell ⟨gr, g, none⟩ (.int .i64 q)) V.fixed.ownBlock := by rw [hob]; exact hg
  have key : ∀ i, i < V.rows.length + 3 → i ≠ V.rows.length + 2 → ((V.rows ++ [V.inn, V.out, V.fixed]).getD i nilV).ownBlock = none ∨ ((V.rows ++ [V.inn, V.out, V.fixed]).getD i nilV).ownBlock ≠ V.fixed.ownBlock := fun i hi hne => by
    have := apart_or h.apart (i := i) (j := V.rows.length + 2) (by rw [lenV]; exact hi) (by rw [lenV]; omega) hne
    rw [fixedAt] at this
    exact this
  refine ⟨⟨h.on.kept hg' (h.on.apart hl (by decide)), h.rlen, fun i hi => ?_, h.orders.kept hg' (h.orders.apart hl (by decide)), h.llen, fun o ho => (h.line o ho).kept hg' ((h.line o ho).apart hl (by decide)), h.holds.kept hg' (h.holds.apart hl (by decide)),
    h.moves.kept hg' (h.moves.apart hl (by decide)), ?_, ?_, ?_, h.apart, h.apartl⟩, hg⟩
  · have hi' : i < s.on.length := hi
    have hr := h.rlen
    have := key i (by omega) (by omega)
    rw [rowAtV V (by omega)] at this
    exact (h.row i hi).kept hg' this
  · have := key (V.rows.length + 0) (by omega) (by omega)
    rw [innAt] at this
    exact h.inn.kept hg' this
  · have := key (V.rows.length + 1) (by omega) (by omega)
    rw [outAt] at this
    exact h.out.kept hg' this
  · rw [hv]
    exact o1
end OwnSt
end Wh
