/- Texts of the claim, joined: OwnS, Rel. -/
import Derived.StillTail
import Derived.Test.YtfhfkijmebhgmaaGreatQ03
import Derived.Test.YtfhfkijmebhgmaaGreatQ04
import Derived.Test.YtfhfkijmebhgmaaGreatQ01
namespace Wh
open Go Go.RowKit Go.Proofs

/-- The slices of a state; the rows' and the orders' lines'. -/
structure SV where
  on : Value
  orders : Value
  holds : Value
  moves : Value
  inn : Value
  out : Value
  fixed : Value
  rows : List Value
  lines : List Value
def SV.cells (V : SV) : List Value := [V.on, V.orders, V.holds, V.moves, V.inn, V.out, V.fixed]
def SV.val (V : SV) : Value := .agg #[V.on, V.orders, V.holds, V.moves, V.inn, V.out, V.fixed]
def nilV : Value := .slice none 0 0
def SV.row (V : SV) (b : Nat) : Value := V.rows.getD b nilV
def SV.line (V : SV) (o : Nat) : Value := V.lines.getD o nilV
def cOrd (x : Int × Value) : List Value := [.int .i64 x.1, x.2]
def ords (l : List Order) (vs : List Value) : List (Int × Value) := List.zipWith (fun o u => (o.kind, u)) l vs
/-- No two of these slices lie in one block. -/
def apartL (vs : List Value) : Prop := vs.Pairwise fun a b => ∀ g, a.ownBlock = some g → b.ownBlock ≠ some g

structure OwnSt (w : World) (base : Nat) (V : SV) (s : State) : Prop where
  on : Own (fun u : Value => [u]) 1 23 w base V.on V.rows
  rlen : V.rows.length = s.on.length
  row : ∀ b, b < s.on.length → Own cInt 1 3 w base (V.row b) (rowAt s.on b)
  orders : Own cOrd 2 42 w base V.orders (ords s.orders V.lines)
  llen : V.lines.length = s.orders.length
  line : ∀ o, o < s.orders.length → Own cLine 4 44 w base (V.line o) (s.order o).lines
  holds : Own cHold 4 46 w base V.holds s.holds
  moves : Own cMove 4 48 w base V.moves s.moves
  inn : Own cInt 1 3 w base V.inn s.inn
  out : Own cInt 1 3 w base V.out s.out
  fixed : Own cInt 1 3 w base V.fixed s.fixed
  apart : apartL (V.rows ++ [V.inn, V.out, V.fixed])
  apartl : apartL V.lines

theorem ords_length {l : List Order} {vs : List Value} (h : vs.length = l.length) : (ords l vs).length = l.length := by
  unfold ords
  rw [List.length_zipWith]
  omega
theorem ords_get {l : List Order} {vs : List Value} {i : Nat} (h : vs.length = l.length) (hi : i < l.length) : (ords l vs)[i]? = some ((orderAt l i).kind, vs.getD i nilV) := by
  unfold ords
  rw [List.getElem?_zipWith, List.getElem?_eq_getElem hi, List.getElem?_eq_getElem (by omega), orderAt_eq hi]
  simp [show i < vs.length by omega]
theorem apart_at {vs : List Value} (h : apartL vs) {i j : Nat} (hi : i < vs.length) (hj : j < vs.length) (hne : i ≠ j) {g : Nat} (hg : (vs.getD i nilV).ownBlock = some g) : (vs.getD j nilV).ownBlock ≠ some g := by
  have e1 : vs.getD i nilV = vs[i] := by simp [hi]
  have e2 : vs.getD j nilV = vs[j] := by simp [hj]
  rw [e1] at hg
  rw [e2]
  rcases Nat.lt_or_gt_of_ne hne with h1 | h1
  · exact List.pairwise_iff_getElem.1 h i j hi hj h1 g hg
  · intro he
    exact List.pairwise_iff_getElem.1 h j i hj hi h1 g he hg
/-- Two slices of one list, seen from a block that is written. -/
theorem apart_or {vs : List Value} (h : apartL vs) {i j : Nat} (hi : i < vs.length) (hj : j < vs.length) (hne : i ≠ j) : (vs.getD i nilV).ownBlock = none ∨ (vs.getD i nilV).ownBlock ≠ (vs.getD j nilV).ownBlock := by
  cases hb : (vs.getD i nilV).ownBlock with
  | none => exact .inl rfl
  | some g => exact .inr fun he => apart_at h hi hj hne hb he.symm

namespace OwnSt
variable {w w' : World} {base : Nat} {V : SV} {s : State}
theorem below (h : OwnSt w base V s) (hb : Below w.heap.size w w') : OwnSt w' base V s :=
  ⟨h.on.below hb, h.rlen, fun b hlt => (h.row b hlt).below hb, h.orders.below hb, h.llen, fun o ho => (h.line o ho).below hb, h.holds.below hb, h.moves.below hb, h.inn.below hb, h.out.below hb, h.fixed.below hb, h.apart, h.apartl⟩
theorem alloc (h : OwnSt w base V s) (o : Obj) : OwnSt (w.alloc o) base V s := h.below ((Below.refl _ _).alloc (Nat.le_refl _) _)
theorem drew (h : OwnSt w base V s) : OwnSt w.drew base V s := h.below (Below.refl _ _).drew
theorem from_ (h : OwnSt w base V s) {base' : Nat} (hb : base' ≤ base) : OwnSt w base' V s :=
  ⟨h.on.from_ hb, h.rlen, fun b hlt => (h.row b hlt).from_ hb, h.orders.from_ hb, h.llen, fun o ho => (h.line o ho).from_ hb, h.holds.from_ hb, h.moves.from_ hb, h.inn.from_ hb, h.out.from_ hb, h.fixed.from_ hb, h.apart, h.apartl⟩

theorem rowGet (h : OwnSt w base V s) {b : Nat} (hb : b < s.on.length) : V.rows[b]? = some (V.row b) := by
  unfold SV.row
  simp [show b < V.rows.length by rw [h.rlen]; exact hb]
theorem lineGet (h : OwnSt w base V s) {o : Nat} (ho : o < s.orders.length) : V.lines[o]? = some (V.line o) := by
  unfold SV.line
  simp [show o < V.lines.length by rw [h.llen]; exact ho]

/-- It reads as the state. -/
theorem view (h : OwnSt w base V s) {p : Plan} (hs : Sane p s) : StateV w w.heap.size V.val s := by
  have h72 := ok_len72 hs.holds
  have h8 := hs.moves8
  have h4 := hs.orders4
  have hc := hs.counts
  have hon := hs.onLen
  obtain ⟨A, c, hv, _, hA⟩ := h.on.sl (by rw [h.rlen]; omega)
  obtain ⟨A1, c1, hv1, _, hA1⟩ := h.orders.sl (by rw [ords_length h.llen]; omega)
  refine ⟨_, _, _, _, _, _, _, rfl, ⟨A, c, V.rows, by rw [hv, h.rlen], by omega, h.rlen, ?_, fun i x hi => ?_⟩, ⟨A1, c1, V.lines, by rw [hv1, ords_length h.llen], by omega, h.llen, ?_, fun i x hi => ?_⟩, h.holds.sl (by omega), h.moves.sl (by omega), h.inn.sl (by rw [hs.inn.1]; omega), h.out.sl (by rw [hs.out.1]; omega), h.fixed.sl (by rw [hs.fixed.1]; omega)⟩
  · have : V.rows.flatMap (fun u => [u]) = V.rows := by simp
    rw [this] at hA
    exact hA
  · have hil : i < s.on.length := (List.getElem?_eq_some_iff.1 hi).1
    have hx : rowAt s.on i = x := by rw [rowAt_eq hil]; exact (List.getElem?_eq_some_iff.1 hi).2
    exact ⟨_, h.rowGet hil, by rw [← hx]; exact (h.row i hil).sl (by rw [hs.rowLen (by omega)]; omega)⟩
  · have e : (s.orders.zip V.lines).flatMap (fun x => [Value.int .i64 x.1.kind, x.2]) = (ords s.orders V.lines).flatMap cOrd := by
      unfold ords cOrd
      rw [List.zip_eq_zipWith, List.flatMap_def, List.flatMap_def, List.map_zipWith, List.map_zipWith]
    rw [e]
    exact hA1
  · have hil : i < s.orders.length := (List.getElem?_eq_some_iff.1 hi).1
    have hx : s.order i = x := by unfold State.order; rw [orderAt_eq hil]; exact (List.getElem?_eq_some_iff.1 hi).2
    have := hs.lines3 hil
    rw [hx] at this
    exact ⟨_, h.lineGet hil, by rw [← hx]; exact (h.line i hil).sl (by rw [hx]; omega)⟩

-- which slices lie apart
theorem innAt (V : SV) : (V.rows ++ [V.inn, V.out, V.fixed]).getD (V.rows.length + 0) nilV = V.inn := by simp
theorem outAt (V : SV) : (V.rows ++ [V.inn, V.out, V.fixed]).getD (V.rows.length + 1) nilV = V.out := by simp
theorem fixedAt (V : SV) : (V.rows ++ [V.inn, V.out, V.fixed]).getD (V.rows.length + 2) nilV = V.fixed := by simp
theorem rowAtV (V : SV) {b : Nat} (hb : b < V.rows.length) : (V.rows ++ [V.inn, V.out, V.fixed]).getD b nilV = V.row b := by
  unfold SV.row
  simp [List.getD_eq_getElem?_getD, List.getElem?_append_left hb]
theorem lenV (V : SV) : (V.rows ++ [V.inn, V.out, V.fixed]).length = V.rows.length + 3 := by simp

/-- Another slice of moves; the old one's block may have been written. -/
theorem newMoves (h : OwnSt w base V s) (hg : w.grownBy w' V.moves.ownBlock) {v : Value} {l : List Move} (hv : Own cMove 4 48 w' base v l) : OwnSt w' base { V with moves := v } { s with moves := l } :=
  ⟨h.on.kept hg (h.on.apart h.moves (by decide)), h.rlen, fun b hb => (h.row b hb).kept hg ((h.row b hb).apart h.moves (by decide)), h.orders.kept hg (h.orders.apart h.moves (by decide)), h.llen, fun o ho => (h.line o ho).kept hg ((h.line o ho).apart h.moves (by decide)),
    h.holds.kept hg (h.holds.apart h.moves (by decide)), hv, h.inn.kept hg (h.inn.apart h.moves (by decide)), h.out.kept hg (h.out.apart h.moves (by decide)), h.fixed.kept hg (h.fixed.apart h.moves (by decide)), h.apart, h.apartl⟩
/-- The holds' block was written. -/
theorem wroteHolds (h : OwnSt w base V s) (hg : w.grownBy w' V.holds.ownBlock) {v : Value} {l : List Hold} (hv : Own cHold 4 46 w' base v l) : OwnSt w' base { V with holds := v } { s with holds := l } :=
  ⟨h.on.kept hg (h.on.apart h.holds (by decide)), h.rlen, fun b hb => (h.row b hb).kept hg ((h.row b hb).apart h.holds (by decide)), h.orders.kept hg (h.orders.apart h.holds (by decide)), h.llen, fun o ho => (h.line o ho).kept hg ((h.line o ho).apart h.holds (by decide)),
    hv, h.moves.kept hg (h.moves.apart h.holds (by decide)), h.inn.kept hg (h.inn.apart h.holds (by decide)), h.out.kept hg (h.out.apart h.holds (by decide)), h.fixed.kept hg (h.fixed.apart h.holds (by decide)), h.apart, h.apartl⟩

theorem order_set {s : State} {o o' : Nat} {x : Order} (ho : o < s.orders.length) : orderAt (s.orders.set o x) o' = if o' = o then x else s.order o' := by
  unfold State.order orderAt
  by_cases h : o' = o
  · subst h
    simp [ho]
  · rw [if_neg h]
    simp [Ne.symm h]
theorem ords_set {l : List Order} {vs : List Value} {o : Nat} {x : Order} (hx : x.kind = (orderAt l o).kind) : ords (l.set o x) vs = ords l vs := by
  unfold ords
  apply List.ext_getElem?
  intro i
  rw [List.getElem?_zipWith, List.getElem?_zipWith, List.getElem?_set]
  by_cases h : o = i
  · subst h
    rw [if_pos rfl]
    by_cases hl : o < l.length
    · rw [if_pos hl, List.getElem?_eq_getElem hl]
      cases vs[o]? with
      | none => rfl
      | some u =>
        simp only
        rw [hx, orderAt_eq hl]
    · rw [if_neg hl, List.getElem?_eq_none (show l.length ≤ o by omega)]
  · rw [if_neg h]

/-- A number of a line. -/
theorem setLine (h : OwnSt w base V s) {o k : Nat} (ho : o < s.orders.length) (hk : k < (s.order o).lines.length) {gl n c : Nat} (hv : V.line o = .slice (some ⟨gl, 0, none⟩) n c) {j : Nat} (hj : j < 4) {y : Line} {u : Value}
    (hy : cLine y = (cLine (s.line o k)).set j u) : OwnSt (w.setCell ⟨gl, k * 4 + j, none⟩ u) base V (s.setLine o k y) ∧ w.grownBy (w.setCell ⟨gl, k * 4 + j, none⟩ u) (some gl) := by
  have hl := h.line o ho
  have hl' := hl
  rw [hv] at hl'
  have hlk : s.line o k = (s.order o).lines[k] := by unfold State.line; rw [lineAt_eq hk]
  obtain ⟨o1, hg⟩ := hl'.store (fun _ => rfl) hk hj (y := y) (u := u) (by rw [hy, hlk])
  have hob : (V.line o).ownBlock = some gl := by rw [hv]; rfl
  have hg' : w.grownBy (w.setCell ⟨gl, k * 4 + j, none⟩ u) (V.line o).ownBlock := by rw [hob]; exact hg
  have hlen : (s.setLine o k y).orders.length = s.orders.length := by unfold State.setLine; simp
  have hor : ∀ o', (s.setLine o k y).order o' = if o' = o then { s.order o with lines := (s.order o).lines.set k y } else s.order o' := fun o' => order_set ho
  refine ⟨⟨h.on.kept hg' (h.on.apart hl (by decide)), h.rlen, fun b hb => (h.row b hb).kept hg' ((h.row b hb).apart hl (by decide)), ?_, by rw [hlen]; exact h.llen, fun o' ho' => ?_, h.holds.kept hg' (h.holds.apart hl (by decide)),
    h.moves.kept hg' (h.moves.apart hl (by decide)), h.inn.kept hg' (h.inn.apart hl (by decide)), h.out.kept hg' (h.out.apart hl (by decide)), h.fixed.kept hg' (h.fixed.apart hl (by decide)), h.apart, h.apartl⟩, hg⟩
  · have e : ords (s.setLine o k y).orders V.lines = ords s.orders V.lines := ords_set rfl
    rw [e]
    exact h.orders.kept hg' (h.orders.apart hl (by decide))
  · rw [hlen] at ho'
    rw [hor]
    by_cases he : o' = o
    · subst he
      rw [if_pos rfl, hv]
      exact o1
    · rw [if_neg he]
      exact (h.line o' ho').kept hg' (apart_or h.apartl (by rw [h.llen]; exact ho') (by rw [h.llen]; exact ho) he)
/-- A number of a shelf. -/
theorem setOn (h : OwnSt w base V s) {b g : Nat} (hb : b < s.on.length) (hgl : g < (rowAt s.on b).length) {gr n c : Nat} (hv : V.row b = .slice (some ⟨gr, 0, none⟩) n c) (q : Int) :
    OwnSt (w.setCell ⟨gr, g, none⟩ (.int .i64 q)) base V { s with on := setCell s.on b g q } ∧ w.grownBy (w.setCell ⟨gr, g, none⟩ (.int .i64 q)) (some gr) := by
  have hl := h.row b hb
  have hl' := hl
  rw [hv] at hl'
  obtain ⟨o1, hg⟩ := hl'.store (i := g) (fun _ => rfl) hgl (show 0 < 1 by omega) (y := q) (u := .int .i64 q) rfl
  rw [Nat.mul_one, Nat.add_zero] at o1 hg
  have hob : (V.row b).ownBlock = some gr := by rw [hv]; rfl
  have hg' : w.grownBy (w.setCell ⟨gr, g, none⟩ (.int .i64 q)) (V.row b).ownBlock := by rw [hob]; exact hg
  have hbV : b < V.rows.length := by rw [h.rlen]; exact hb
  have key : ∀ i, i < V.rows.length + 3 → i ≠ b → ((V.rows ++ [V.inn, V.out, V.fixed]).getD i nilV).ownBlock = none ∨ ((V.rows ++ [V.inn, V.out, V.fixed]).getD i nilV).ownBlock ≠ (V.row b).ownBlock := fun i hi hne => by
    have := apart_or h.apart (i := i) (j := b) (by rw [lenV]; exact hi) (by rw [lenV]; omega) hne
    rw [rowAtV V hbV] at this
    exact this
  refine ⟨⟨h.on.kept hg' (h.on.apart hl (by decide)), by rw [length_setCell]; exact h.rlen, fun i hi => ?_, h.orders.kept hg' (h.orders.apart hl (by decide)), h.llen, fun o ho => (h.line o ho).kept hg' ((h.line o ho).apart hl (by decide)), h.holds.kept hg' (h.holds.apart hl (by decide)),
    h.moves.kept hg' (h.moves.apart hl (by decide)), h.inn.kept hg' ?_, h.out.kept hg' ?_, h.fixed.kept hg' ?_, h.apart, h.apartl⟩, hg⟩
  · rw [length_setCell] at hi
    unfold Wh.setCell
    rw [rowAt_set hb]
    by_cases he : i = b
    · subst he
      rw [if_pos rfl, hv]
      exact o1
    · rw [if_neg he]
      have := key i (by rw [h.rlen]; omega) he
      rw [rowAtV V (by rw [h.rlen]; exact hi)] at this
      exact (h.row i hi).kept hg' this
  · have := key (V.rows.length + 0) (by omega) (by omega)
    rw [innAt] at this
    exact this
  · have := key (V.rows.length + 1) (by omega) (by omega)
    rw [outAt] at this
    exact this
  · have := key (V.rows.length + 2) (by omega) (by omega)
    rw [fixedAt] at this
    exact this
/-- A number of the sums 'fixed'. -/
theorem setFixed (h : OwnSt w base V s) {g : Nat} (hgl : g < s.fixed.length) {gr n c : Nat} (hv : V.fixed = .slice (some ⟨gr, 0, none⟩) n c) (q : Int) :
    OwnSt (w.setCell ⟨gr, g, none⟩ (.int .i64 q)) base V { s with fixed := s.fixed.set g q } ∧ w.grownBy (w.setCell ⟨gr, g, none⟩ (.int .i64 q)) (some gr) := by
  have hl := h.fixed
  have hl' := hl
  rw [hv] at hl'
  obtain ⟨o1, hg⟩ := hl'.store (i := g) (fun _ => rfl) hgl (show 0 < 1 by omega) (y := q) (u := .int .i64 q) rfl
  rw [Nat.mul_one, Nat.add_zero] at o1 hg
  have hob : V.fixed.ownBlock = some gr := by rw [hv]; rfl
  have hg' : w.grownBy (w.setCell ⟨gr, g, none⟩ (.int .i64 q)) V.fixed.ownBlock := by rw [hob]; exact hg
  have key : ∀ i, i < V.rows.length + 3 → i ≠ V.rows.length + 2 → ((V.rows ++ [V.inn, V.out, V.fixed]).getD i nilV).ownBlock = none ∨ ((V.rows ++ [V.inn, V.out, V.fixed]).getD i nilV).ownBlock ≠ V.fixed.ownBlock := fun i hi hne => by
    have := apart_or h.apart (i := i) (j := V.rows.length + 2) (by rw [lenV]; exact hi) (by rw [lenV]; omega) hne
    rw [fixedAt] at this
    exact this
  refine ⟨⟨h.on.kept hg' (h.on.apart hl (by decide)), h.rlen, fun i hi => ?_, h.orders.kept hg' (h.orders.apart hl (by decide)), h.llen, fun o ho => (h.line o ho).kept hg' ((h.line o ho).apart hl (by decide)), h.holds.kept hg' (h.holds.apart hl (by decide)),
    h.moves.kept hg' (h.moves.apart hl (by decide)), ?_, ?_, ?_, h.apart, h.apartl⟩, hg⟩
  · have hi' : i < s.on.length := hi
    have hr := h.rlen
    have := key i (by omega) (by omega)
    rw [rowAtV V (by omega)] at this
    exact (h.row i hi).kept hg' this
  · have := key (V.rows.length + 0) (by omega) (by omega)
    rw [innAt] at this
    exact h.inn.kept hg' this
  · have := key (V.rows.length + 1) (by omega) (by omega)
    rw [outAt] at this
    exact h.out.kept hg' this
  · rw [hv]
    exact o1
end OwnSt
end Wh
namespace Wh
open Go Go.RowKit

def fillT (t : Array Value) (ds : List Nat) (f : Nat → Value) : Array Value := ds.foldl (fun t d => t.setIfInBounds d (f d)) t
/-- The frame, the region's slots filled. -/
def fillA (a : Act) (l : List Oper) (f : Nat → Value) : Act := { a with tmps := fillT a.tmps (l.filterMap (·.dst)) f }
def upd (f : Nat → Value) (d : Nat) (v : Value) (k : Nat) : Value := if k = d then v else f k
theorem fillT_get (ds : List Nat) (f : Nat → Value) : ∀ (t : Array Value) (k : Nat), (fillT t ds f)[k]? = if k < t.size then (if k ∈ ds then some (f k) else t[k]?) else none := by
  induction ds with
  | nil =>
    intro t k
    show t[k]? = _
    by_cases h : k < t.size
    · simp [h]
    · simp [h]
  | cons d ds ih =>
    intro t k
    show (fillT (t.setIfInBounds d (f d)) ds f)[k]? = _
    rw [ih, Array.size_setIfInBounds, Array.getElem?_setIfInBounds]
    by_cases h : k < t.size
    · by_cases hk : k ∈ ds
      · simp [h, hk]
      · by_cases hd : d = k
        · subst hd; simp [h, hk]
        · have hd' : ¬ k = d := fun e => hd e.symm
          simp [h, hk, hd, hd']
    · simp [h]
theorem fillT_put {t : Array Value} {ds : List Nat} {f : Nat → Value} {d : Nat} (hd : d ∈ ds) (v : Value) : (fillT t ds f).setIfInBounds d v = fillT t ds (upd f d v) := by
  apply Array.ext_getElem?
  intro k
  rw [Array.getElem?_setIfInBounds, fillT_get, fillT_get]
  have hs : (fillT t ds f).size = t.size := by
    unfold fillT
    induction ds generalizing t with
    | nil => rfl
    | cons e ds ih =>
      by_cases h : d ∈ ds
      · rw [List.foldl_cons, ih h, Array.size_setIfInBounds]
      · have aux : ∀ (ds : List Nat) (t : Array Value), (ds.foldl (fun t d => t.setIfInBounds d (f d)) t).size = t.size := by
          intro ds
          induction ds with
          | nil => intro t; rfl
          | cons x xs ihx => intro t; rw [List.foldl_cons, ihx, Array.size_setIfInBounds]
        exact aux _ _
  rw [hs]
  unfold upd
  by_cases h : k < t.size
  · by_cases hk : d = k
    · subst hk; simp [h, hd]
    · have hk' : ¬ k = d := fun e => hk e.symm
      simp [h, hk, hk']
  · by_cases hk : d = k
    · subst hk; simp [h]
    · simp [h, hk]
theorem fillT_self (t : Array Value) (ds : List Nat) : fillT t ds (fun d => t.getD d undef) = t := by
  apply Array.ext_getElem?
  intro k
  rw [fillT_get]
  by_cases h : k < t.size
  · by_cases hk : k ∈ ds <;> simp [h, hk, Array.getD]
  · simp [h]

/-- Operation j, or one that i waits for, however far back. -/
inductive Anc (l : List Oper) : Nat → Nat → Prop
  | self (i : Nat) : Anc l i i
  | back {j k i : Nat} {o : Oper} {e : Edge} : l[i]? = some o → e ∈ o.after → Region.binds .any e = true → e.on = k → Anc l j k → Anc l j i
def updO (f : Nat → Value) (d : Option Nat) (v : Value) : Nat → Value := match d with | some d => upd f d v | none => f
/-- What the operations say that this one waits for. -/
def Deps (n : Nat) (R : Nat → (Nat → Value) → World → Prop) (f : Nat → Value) (w : World) (o : Oper) : Prop :=
  ∀ e ∈ o.after, Region.binds .any e = true → e.on < n → R e.on f w
/-- What is to be shown of one operation. -/
def StepRel (P : Program) (l : List Oper) (n : Nat) (R : Nat → (Nat → Value) → World → Prop) (Q : Exit → Act → World → Prop) (a : Act) (w : World) (i : Nat) (o : Oper) : Prop :=
  ∀ f w', Below w.heap.size w w' → Deps n R f w' o → o.wp P (fillA a (l.take n) f) w' (fun a' w'' => ∃ v, a' = (fillA a (l.take n) f).put o.dst v ∧ R i (updO f o.dst v) w'' ∧ Below w'.heap.size w' w'') Q
def StepsRel (P : Program) (l : List Oper) (n : Nat) (R : Nat → (Nat → Value) → World → Prop) (Q : Exit → Act → World → Prop) (a : Act) (w : World) : Nat → List Oper → Prop
  | _, [] => True
  | i, o :: r => StepRel P l n R Q a w i o ∧ StepsRel P l n R Q a w (i + 1) r
theorem StepsRel.at {P : Program} {l : List Oper} {n : Nat} {R : Nat → (Nat → Value) → World → Prop} {Q : Exit → Act → World → Prop} {a : Act} {w : World} : ∀ {r : List Oper} {k : Nat}, StepsRel P l n R Q a w k r → ∀ {j : Nat} {o : Oper}, r[j]? = some o → StepRel P l n R Q a w (k + j) o
  | [], _, _, _, _, h => by simp at h
  | x :: r, k, h, 0, o, hj => by
    simp at hj
    subst hj
    exact h.1
  | x :: r, k, h, j + 1, o, hj => by
    have := StepsRel.at h.2 (j := j) (o := o) (by simpa using hj)
    rwa [show k + 1 + j = k + (j + 1) by omega] at this

def heads (m n : Nat) : Array Bool := Array.replicate n true ++ Array.replicate (m - n) false
/-- The first n operations hang on earlier ones alone, wait for no guard, write each a slot of its own; the rest come behind them in a row. -/
def relB (l : List Oper) (n : Nat) : Bool :=
  (decide (n = l.length) || (decide (n < l.length) && Region.sinkB .any l.toArray n && Region.chainB .any l.toArray n)) && Region.seqB .any l.toArray (l.length - n) n (heads l.length n) &&
  (l.take n).all (fun o => o.guard.isNone) && decide ((l.take n).filterMap (·.dst)).Nodup && (List.range n).all fun i => ((l[i]?).map fun o => o.after.all fun e => !Region.binds .any e || decide (e.on < i)).getD true

def unl (listed : Array Bool) (n : Nat) : Nat := (List.range n).countP fun i => !listed.getD i true
theorem getD_set_self {listed : Array Bool} {i : Nat} (d : Bool) (hs : i < listed.size) : (listed.setIfInBounds i true).getD i d = true := by simp [Array.getD, hs]
theorem lt_of_unl {listed : Array Bool} {i : Nat} (hi : listed.getD i true = false) : i < listed.size := by
  rcases Nat.lt_or_ge i listed.size with h | h
  · exact h
  · simp [Array.getElem?_eq_none h] at hi
theorem unl_set {listed : Array Bool} {i : Nat} (hi : listed.getD i true = false) : ∀ n, unl (listed.setIfInBounds i true) n + (if i < n then 1 else 0) = unl listed n := by
  have hs := lt_of_unl hi
  intro n
  induction n with
  | zero => simp [unl]
  | succ n ih =>
    unfold unl at ih ⊢
    rw [List.range_succ, List.countP_append, List.countP_append]
    by_cases h : i = n
    · subst h
      rw [if_neg (by omega)] at ih
      rw [if_pos (by omega)]
      simp only [List.countP_singleton, hi, getD_set_self true hs, Bool.not_true, Bool.not_false, Bool.false_eq_true, if_true, if_false]
      omega
    · have e : (List.countP (fun j => !(listed.setIfInBounds i true).getD j true) [n]) = List.countP (fun j => !listed.getD j true) [n] := by
        simp only [List.countP_singleton, getD_set_ne true h]
      rw [e]
      by_cases hlt : i < n
      · rw [if_pos hlt] at ih
        rw [if_pos (by omega)]
        omega
      · rw [if_neg hlt] at ih
        rw [if_neg (by omega)]
        omega
theorem unl_zero {listed : Array Bool} {n : Nat} (h : unl listed n = 0) {i : Nat} (hi : i < n) : listed.getD i true = true := by
  unfold unl at h
  rw [List.countP_eq_zero] at h
  have := h i (List.mem_range.2 hi)
  simpa using this
theorem unl_pos {listed : Array Bool} {n : Nat} (h : 0 < unl listed n) : ∃ i, i < n ∧ listed.getD i true = false := by
  unfold unl at h
  rw [List.countP_pos_iff] at h
  obtain ⟨i, hi, hp⟩ := h
  exact ⟨i, List.mem_range.1 hi, by simpa using hp⟩

section
variable {P : Program} {l : List Oper} {n : Nat} {R : Nat → (Nat → Value) → World → Prop} {Q : Exit → Act → World → Prop} {a : Act} {w : World}

theorem dst_mem {i d : Nat} {o : Oper} (hi : l[i]? = some o) (hin : i < n) (hd : o.dst = some d) : d ∈ (l.take n).filterMap (·.dst) := by
  rw [List.mem_filterMap]
  refine ⟨o, ?_, hd⟩
  rw [List.mem_iff_getElem?]
  exact ⟨i, by rw [List.getElem?_take]; simp [hin, hi]⟩
theorem dst_ne {i j d d' : Nat} {o o' : Oper} (hn : ((l.take n).filterMap (·.dst)).Nodup) (hi : l[i]? = some o) (hin : i < n) (hd : o.dst = some d) (hj : l[j]? = some o') (hjn : j < n) (hd' : o'.dst = some d') (hne : i ≠ j) : d ≠ d' := by
  intro e
  subst e
  have key : ∀ (l : List Oper), (l.filterMap (·.dst)).Nodup → ∀ (i j : Nat) (o o' : Oper), l[i]? = some o → l[j]? = some o' → o.dst = some d → o'.dst = some d → i < j → False := by
    intro l
    induction l with
    | nil => intro _ i j o o' h; simp at h
    | cons x l ih =>
      intro hn i j o o' hi hj hd hd' hlt
      have hnl : (l.filterMap (·.dst)).Nodup := by
        cases hx : x.dst with
        | none => rw [List.filterMap_cons_none hx] at hn; exact hn
        | some y => rw [List.filterMap_cons_some hx] at hn; exact (List.nodup_cons.1 hn).2
      cases i with
      | zero =>
        simp at hi
        subst hi
        rw [List.filterMap_cons_some hd] at hn
        obtain ⟨j, rfl⟩ : ∃ k, j = k + 1 := ⟨j - 1, by omega⟩
        refine (List.nodup_cons.1 hn).1 ?_
        rw [List.mem_filterMap]
        exact ⟨o', List.mem_of_getElem? (by simpa using hj), hd'⟩
      | succ i =>
        obtain ⟨j, rfl⟩ : ∃ k, j = k + 1 := ⟨j - 1, by omega⟩
        exact ih hnl i j o o' (by simpa using hi) (by simpa using hj) hd hd' (by omega)
  have hi' : (l.take n)[i]? = some o := by rw [List.getElem?_take]; simp [hin, hi]
  have hj' : (l.take n)[j]? = some o' := by rw [List.getElem?_take]; simp [hjn, hj]
  rcases Nat.lt_or_gt_of_ne hne with h | h
  · exact key _ hn i j o o' hi' hj' hd hd' h
  · exact key _ hn j i o' o hj' hi' hd' hd h

theorem rel_run (hle : n ≤ l.length) (hwait : ∀ listed, HeadInv .any l.toArray n listed → ∀ i, i < n → listed.getD i true = false → ∀ t, n ≤ t → t ∉ Region.ready .any l.toArray listed) (hseq : Region.seqB .any l.toArray (l.length - n) n (heads l.length n) = true)
    (hg : ∀ i o, i < n → l[i]? = some o → o.guard = none) (hnd : ((l.take n).filterMap (·.dst)).Nodup) (hback : ∀ i o, i < n → l[i]? = some o → ∀ e ∈ o.after, Region.binds .any e = true → e.on < i)
    (hst : ∀ i g w1 w2, R i g w1 → Below w1.heap.size w1 w2 → R i g w2) (hsup : ∀ i g g' w, (∀ j o d, Anc l j i → l[j]? = some o → o.dst = some d → g d = g' d) → R i g w → R i g' w) (hsteps : StepsRel P l n R Q a w 0 (l.take n))
    (hend : ∀ f w', Below w.heap.size w w' → (∀ i, i < n → R i f w') → wpList P l.toArray Q (l.drop n) (fillA a (l.take n) f) w') :
    ∀ (k : Nat) (listed : Array Bool) (f : Nat → Value) (w' : World), HeadInv .any l.toArray n listed → unl listed n = k → Below w.heap.size w w' → (∀ i, i < n → listed.getD i false = true → R i f w') →
      wpAny P .any l.toArray Q (k + (l.length - n)) listed (fillA a (l.take n) f) w'
  | 0, listed, f, w', inv, hk, hb, hR => by
    have hsz : listed.size = l.length := by rw [inv.size]; simp
    have he : listed = heads l.length n := by
      apply Array.ext_getElem?
      intro i
      unfold heads
      rw [Array.getElem?_append]
      simp only [Array.size_replicate]
      by_cases hi : i < n
      · rw [if_pos hi]
        have h1 := unl_zero hk hi
        have h2 : i < listed.size := by omega
        simp [hi, h2, Array.getD] at h1 ⊢
        exact h1
      · rw [if_neg hi]
        by_cases hl : i < l.length
        · have h1 := inv.tail i (by omega) (by simpa using hl)
          have h2 : i < listed.size := by omega
          have h3 : i - n < l.length - n := by omega
          simp [h2, h3, Array.getD] at h1 ⊢
          exact h1
        · rw [Array.getElem?_eq_none (by omega), Array.getElem?_eq_none (by simp; omega)]
    have hd : l.length - n = (l.drop n).length := by simp
    rw [Nat.zero_add, hd]
    refine wpAny_of_seq (l.drop n) n listed _ w' (fun j => by simp [List.getElem?_drop]) (by rw [he, ← hd]; exact hseq) (hend f w' hb fun i hin => hR i hin ?_)
    have h1 := unl_zero hk hin
    have h2 : i < listed.size := by omega
    simp [h2, Array.getD] at h1 ⊢
    exact h1
  | k + 1, listed, f, w', inv, hk, hb, hR => by
    have hsz : listed.size = l.length := by rw [inv.size]; simp
    obtain ⟨i0, hi0, hu0⟩ := unl_pos (show 0 < unl listed n by omega)
    have hne : ∀ i, i < n → listed.getD i true = false → Region.ready .any l.toArray listed ≠ [] := by
      intro i
      induction i using Nat.strongRecOn with
      | _ i ih =>
        intro hin hu
        have hil : i < l.length := by omega
        by_cases hall : ∀ e ∈ (l[i]).after, Region.binds .any e = true → listed.getD e.on false = true
        · have : i ∈ Region.ready .any l.toArray listed := mem_ready.2 ⟨hu, l[i], by simp [hil], hall⟩
          intro h0
          rw [h0] at this
          cases this
        · simp only [Classical.not_forall] at hall
          obtain ⟨e, he, hbd, hno⟩ := hall
          have hlt := hback i l[i] hin (by simp [hil]) e he hbd
          exact ih e.on hlt (by omega) (getD_in (by omega) (by simpa using hno))
    rw [show k + 1 + (l.length - n) = (k + (l.length - n)) + 1 by omega]
    refine ⟨fun h0 => absurd h0 (hne i0 hi0 hu0), fun i hi => ?_⟩
    have hin : i < n := by
      rcases Nat.lt_or_ge i n with h | h
      · exact h
      · exact absurd hi (hwait listed inv i0 hi0 hu0 i h)
    obtain ⟨hu, o, ho, hall⟩ := mem_ready.1 hi
    have ho' : l[i]? = some o := by simpa using ho
    have hgd := hg i o hin ho'
    have hstep := hsteps.at (j := i) (o := o) (by rw [List.getElem?_take]; simp [hin, ho'])
    rw [Nat.zero_add] at hstep
    have h1 := hstep f w' hb fun e he hbd hen => hR e.on hen (hall e he hbd)
    unfold wpOp
    simp only [ho]
    rw [if_pos (by simp [Region.wanted, hgd])]
    refine .inl (Oper.wp_mono ?_ h1)
    rintro a' w'' ⟨v, rfl, hv, hbw⟩
    have hcount : unl (listed.setIfInBounds i true) n = k := by
      have := unl_set hu n
      rw [if_pos hin] at this
      omega
    have hb2 := hb.trans (hbw.mono hb.size)
    have hanc : ∀ j k, Anc l j k → k < n → listed.getD k false = true → j < n ∧ listed.getD j false = true := by
      intro j k h
      induction h with
      | self => exact fun h1 h2 => ⟨h1, h2⟩
      | back ho he hbd hon _ ih =>
        intro h1 h2
        subst hon
        have := hback _ _ h1 ho _ he hbd
        exact ih (by omega) (inv.closed _ _ (by simpa using ho) h2 _ he hbd)
    have hfin : (fillA a (l.take n) f).put o.dst v = fillA a (l.take n) (updO f o.dst v) := by
      cases hdst : o.dst with
      | none => rfl
      | some d0 =>
        unfold fillA Act.put updO
        simp only
        rw [fillT_put (dst_mem ho' hin hdst)]
    rw [hfin]
    refine rel_run hle hwait hseq hg hnd hback hst hsup hsteps hend k _ (updO f o.dst v) w'' (inv.set hi hin) hcount hb2 fun j hjn hl => ?_
    by_cases hij : i = j
    · subst hij
      exact hv
    · rw [getD_set_ne false hij] at hl
      refine hsup j f _ _ (fun j' oj d haj hoj hd => ?_) (hst _ _ _ _ (hR j hjn hl) hbw)
      obtain ⟨hjn', hlj'⟩ := hanc _ _ haj hjn hl
      cases hdst : o.dst with
      | none => rfl
      | some d0 =>
        have hne : i ≠ j' := fun e => by
          subst e
          rw [getD_both hu] at hlj'
          cases hlj'
        have hdd := dst_ne hnd ho' hin hdst hoj hjn' hd hne
        unfold updO upd
        simp only
        rw [if_neg (fun e => hdd e.symm)]

theorem any_rel (n : Nat) (R : Nat → (Nat → Value) → World → Prop) (hB : relB l n = true) (hst : ∀ i g w1 w2, R i g w1 → Below w1.heap.size w1 w2 → R i g w2)
    (hsup : ∀ i g g' w, (∀ j o d, Anc l j i → l[j]? = some o → o.dst = some d → g d = g' d) → R i g w → R i g' w) (hsteps : StepsRel P l n R Q a w 0 (l.take n))
    (hend : ∀ f w', Below w.heap.size w w' → (∀ i, i < n → R i f w') → wpList P l.toArray Q (l.drop n) (fillA a (l.take n) f) w') : wpAny P .any l.toArray Q l.toArray.size (Array.replicate l.toArray.size false) a w.drew := by
  simp only [relB, Bool.and_eq_true, Bool.or_eq_true, decide_eq_true_eq, List.all_eq_true] at hB
  obtain ⟨⟨⟨⟨hw, hseq⟩, hg⟩, hnd⟩, hback⟩ := hB
  have hle : n ≤ l.length := by rcases hw with h | h <;> omega
  have hat : ∀ i o, i < n → l[i]? = some o → o ∈ l.take n := fun i o hin hi => by
    rw [List.mem_iff_getElem?]
    exact ⟨i, by rw [List.getElem?_take]; simp [hin, hi]⟩
  have H := rel_run (P := P) (Q := Q) (a := a) (w := w) hle ?_ hseq (fun i o hin hi => by simpa using hg o (hat i o hin hi)) hnd ?_ hst hsup hsteps hend n (Array.replicate l.toArray.size false) (fun d => a.tmps.getD d undef) w.drew
    ⟨by simp, fun j oj _ hl => (by rw [getD_replicate_false] at hl; cases hl), fun t _ ht => getD_in (by simpa using ht) (getD_replicate_false _ _)⟩ ?_ (Below.refl _ _).drew (fun i _ hl => by rw [getD_replicate_false] at hl; cases hl)
  · have e : fillA a (l.take n) (fun d => a.tmps.getD d undef) = a := by
      unfold fillA
      rw [fillT_self]
    rw [e] at H
    have hs : n + (l.length - n) = l.toArray.size := by simp; omega
    rw [hs] at H
    exact H
  · intro listed inv i hin hu t ht hr
    rcases hw with h | ⟨⟨h1, h2⟩, h3⟩
    · obtain ⟨_, o, ho, _⟩ := mem_ready.1 hr
      have := (Array.getElem?_eq_some_iff.1 ho).1
      simp at this
      omega
    · exact tail_waits h2 h3 (by simpa using h1) inv (n - i) i rfl hin hu t ht hr
  · intro i o hin hi e he hbd
    have := hback i (List.mem_range.2 hin)
    rw [hi] at this
    simp only [Option.map_some, Option.getD_some, Array.all_eq_true_iff_forall_mem, Bool.or_eq_true, Bool.not_eq_true', decide_eq_true_eq] at this
    rcases this e he with h | h
    · rw [h] at hbd; cases hbd
    · exact h
  · have key : ∀ m, m ≤ l.length → unl (Array.replicate l.toArray.size false) m = m := by
      intro m
      induction m with
      | zero => intro _; rfl
      | succ m ih =>
        intro hm
        have := ih (by omega)
        unfold unl at this ⊢
        have hml : m < l.length := by omega
        rw [List.range_succ, List.countP_append, this]
        simp [hml]
    exact key n hle
def evL (g : Nat → Value) : Operand → Value
  | .tmp t => g t
  | .const v => v
  | .global b => .pointer (some ⟨b, 0, none⟩)
  | .func f => .func (.func f) #[] #[]
theorem evL_eval (a : Act) : a.eval = evL (fun d => a.tmps.getD d undef) := by
  funext x
  cases x <;> rfl
def OpRel (P : Program) (o : Oper) (ev : Operand → Value) (w : World) (K : Value → World → Prop) : Prop :=
  match (execOp ev o).run P w with
  | .ok (.value v) w' => K v w'
  | .ok .skip w' => K undef w'
  | .ok (.enter f args) w' => Calls P f args w' fun e w'' => ∃ v, e = .returned v ∧ K v w''
  | _ => False
theorem OpRel.wp {P : Program} {o : Oper} {a : Act} {w : World} {K : Value → World → Prop} {Q : Exit → Act → World → Prop} (h : OpRel P o a.eval w K) : o.wp P a w (fun a' w' => ∃ v, a' = a.put o.dst v ∧ K v w') Q := by
  unfold OpRel at h
  unfold Oper.wp
  generalize (execOp a.eval o).run P w = r at *
  cases r with
  | ok n w' =>
    cases n <;> simp only [Oper.upon] at h ⊢
    case value v => exact ⟨v, rfl, h⟩
    case skip => exact ⟨undef, rfl, h⟩
    case enter f args =>
      refine h.mono ?_
      rintro e w'' ⟨v, rfl, hk⟩
      exact ⟨v, rfl, hk⟩
    all_goals exact h.elim
  | halt x w' => exact (h : False).elim
theorem StepRel.of {i : Nat} {o : Oper} (_hin : l[i]? = some o) (hi : i < n) (hB : relB l n = true) (hsz : ((l.take n).filterMap (·.dst)).all (fun d => decide (d < a.tmps.size)) = true)
    (hsup : ∀ i g g' w, (∀ j o d, Anc l j i → l[j]? = some o → o.dst = some d → g d = g' d) → R i g w → R i g' w)
    (h : ∀ (g : Nat → Value) w', Below w.heap.size w w' → (∀ d, ((l.take n).filterMap (·.dst)).contains d = false → g d = a.tmps.getD d undef) → Deps n R g w' o → OpRel P o (evL g) w' fun v w'' => R i (updO g o.dst v) w'' ∧ Below w'.heap.size w' w'') :
    StepRel P l n R Q a w i o := by
  simp only [relB, Bool.and_eq_true, Bool.or_eq_true, decide_eq_true_eq, List.all_eq_true] at hB
  obtain ⟨_, hback⟩ := hB
  have hback' : ∀ k oe, k < n → l[k]? = some oe → ∀ e ∈ oe.after, Region.binds .any e = true → e.on < k := fun k oe hk hoe e he hbd => by
    have := hback k (List.mem_range.2 hk)
    rw [hoe] at this
    simp only [Option.map_some, Option.getD_some, Array.all_eq_true_iff_forall_mem, Bool.or_eq_true, Bool.not_eq_true', decide_eq_true_eq] at this
    rcases this e he with h | h
    · rw [h] at hbd; cases hbd
    · exact h
  have hanc : ∀ j k, Anc l j k → k < n → j < n := by
    intro j k h
    induction h with
    | self => exact id
    | back ho he hbd hon _ ih =>
      intro h1
      subst hon
      have := hback' _ _ h1 ho _ he hbd
      exact ih (by omega)
  have hsz' : ∀ d ∈ (l.take n).filterMap (·.dst), d < a.tmps.size := fun d hd => by
    have := List.all_eq_true.1 hsz d hd
    simpa using this
  intro f w' hb hd
  have hg : ∀ d ∈ (l.take n).filterMap (·.dst), (fillA a (l.take n) f).tmps.getD d undef = f d := fun d hd => by
    have h1 := fillT_get ((l.take n).filterMap (·.dst)) f a.tmps d
    rw [if_pos (hsz' d hd), if_pos hd] at h1
    unfold fillA
    simp only [Array.getD_eq_getD_getElem?, h1, Option.getD_some]
  have ho : ∀ d, ((l.take n).filterMap (·.dst)).contains d = false → (fillA a (l.take n) f).tmps.getD d undef = a.tmps.getD d undef := fun d hd => by
    have h1 := fillT_get ((l.take n).filterMap (·.dst)) f a.tmps d
    have h2 : d ∉ (l.take n).filterMap (·.dst) := by simpa using hd
    rw [if_neg h2] at h1
    unfold fillA
    simp only [Array.getD_eq_getD_getElem?, h1]
    by_cases hl : d < a.tmps.size
    · rw [if_pos hl]
    · rw [if_neg hl, Array.getElem?_eq_none (Nat.le_of_not_lt hl)]
  have key := h (fun d => (fillA a (l.take n) f).tmps.getD d undef) w' hb ho (fun e he hbd hen => hsup e.on f _ _ (fun j oj d haj hoj hdj => (hg d (dst_mem hoj (hanc _ _ haj hen) hdj)).symm) (hd e he hbd hen))
  rw [← evL_eval] at key
  refine Oper.wp_mono ?_ key.wp
  rintro a' w'' ⟨v, rfl, hr, hbw⟩
  refine ⟨v, rfl, hsup i _ _ _ (fun j oj d haj hoj hdj => ?_) hr, hbw⟩
  have hjn := hanc _ _ haj hi
  have hmem := dst_mem hoj hjn hdj
  cases hdst : o.dst with
  | none => exact hg d hmem
  | some d0 =>
    unfold updO upd
    simp only
    split
    · rfl
    · exact hg d hmem

abbrev RelP := (Nat → Value) → World → Prop
def atR (Rs : List RelP) (i : Nat) : RelP := Rs.getD i (fun _ _ => True)
def AllR : List RelP → (Nat → Value) → World → Prop
  | [], _, _ => True
  | p :: r, g, w => p g w ∧ AllR r g w
/-- One operation: what it says stays, hangs on what came before it alone, and comes. -/
def OpOK (P : Program) (l : List Oper) (n : Nat) (Rs : List RelP) (a : Act) (w : World) (i : Nat) (o : Oper) (p : RelP) : Prop :=
  (∀ g w1 w2, p g w1 → Below w1.heap.size w1 w2 → p g w2) ∧ (∀ g g' w, (∀ j o d, Anc l j i → l[j]? = some o → o.dst = some d → g d = g' d) → p g w → p g' w) ∧
  ∀ g w', Below w.heap.size w w' → (∀ d, ((l.take n).filterMap (·.dst)).contains d = false → g d = a.tmps.getD d undef) → Deps n (atR Rs) g w' o → OpRel P o (evL g) w' fun v w'' => p (updO g o.dst v) w'' ∧ Below w'.heap.size w' w''
def OpsOK (P : Program) (l : List Oper) (n : Nat) (Rs : List RelP) (a : Act) (w : World) : Nat → List Oper → List RelP → Prop
  | _, [], _ => True
  | _, _ :: _, [] => False
  | i, o :: r, p :: ps => OpOK P l n Rs a w i o p ∧ OpsOK P l n Rs a w (i + 1) r ps
theorem OpsOK.at {Rs : List RelP} : ∀ {r : List Oper} {ps : List RelP} {k : Nat}, OpsOK P l n Rs a w k r ps → ∀ {j : Nat} {o : Oper}, r[j]? = some o → OpOK P l n Rs a w (k + j) o (ps.getD j (fun _ _ => True))
  | [], _, _, _, _, _, h => by simp at h
  | _ :: _, [], _, h, _, _, _ => h.elim
  | x :: r, p :: ps, k, h, 0, o, hj => by
    simp at hj
    subst hj
    exact h.1
  | x :: r, p :: ps, k, h, j + 1, o, hj => by
    have := OpsOK.at h.2 (j := j) (o := o) (by simpa using hj)
    rw [show k + 1 + j = k + (j + 1) by omega] at this
    simpa using this
theorem AllR.of {Rs : List RelP} {g : Nat → Value} {w : World} (h : ∀ i, i < Rs.length → atR Rs i g w) : AllR Rs g w := by
  induction Rs with
  | nil => trivial
  | cons p r ih => exact ⟨h 0 (by simp), ih fun i hi => h (i + 1) (by simp; omega)⟩
theorem any_ops (n : Nat) (Rs : List RelP) (hB : relB l n = true) (hn : Rs.length = n) (hsz : ((l.take n).filterMap (·.dst)).all (fun d => decide (d < a.tmps.size)) = true)
    (hops : OpsOK P l n Rs a w 0 (l.take n) Rs) (hend : ∀ f w', Below w.heap.size w w' → AllR Rs f w' → wpList P l.toArray Q (l.drop n) (fillA a (l.take n) f) w') : wpAny P .any l.toArray Q l.toArray.size (Array.replicate l.toArray.size false) a w.drew := by
  have hle : n ≤ l.length := by
    have := hB
    simp only [relB, Bool.and_eq_true, Bool.or_eq_true, decide_eq_true_eq] at this
    rcases this.1.1.1.1 with h | h <;> omega
  have hat : ∀ i, i < n → ∃ o, l[i]? = some o ∧ OpOK P l n Rs a w i o (atR Rs i) := fun i hi => by
    have hil : i < l.length := by omega
    refine ⟨l[i], by simp [hil], ?_⟩
    have := hops.at (j := i) (o := l[i]) (by rw [List.getElem?_take]; simp [hi, hil])
    rwa [Nat.zero_add] at this
  have hst : ∀ i g w1 w2, atR Rs i g w1 → Below w1.heap.size w1 w2 → atR Rs i g w2 := fun i g w1 w2 h hb => by
    by_cases hi : i < n
    · obtain ⟨o, _, h1, _⟩ := hat i hi
      exact h1 g w1 w2 h hb
    · unfold atR
      rw [List.getD_eq_getElem?_getD, List.getElem?_eq_none (by omega)]
      trivial
  have hsup : ∀ i g g' w, (∀ j o d, Anc l j i → l[j]? = some o → o.dst = some d → g d = g' d) → atR Rs i g w → atR Rs i g' w := fun i g g' w1 he h => by
    by_cases hi : i < n
    · obtain ⟨o, _, _, h2, _⟩ := hat i hi
      exact h2 g g' w1 he h
    · unfold atR
      rw [List.getD_eq_getElem?_getD, List.getElem?_eq_none (by omega)]
      trivial
  refine any_rel n (atR Rs) hB hst hsup ?_ (fun f w' hb hR => hend f w' hb (AllR.of fun i hi => hR i (by omega)))
  have key : ∀ (r : List Oper) (k : Nat), (∀ j o, r[j]? = some o → k + j < n ∧ l[k + j]? = some o) → StepsRel P l n (atR Rs) Q a w k r := by
    intro r
    induction r with
    | nil => intro _ _; trivial
    | cons x r ih =>
      intro k h
      obtain ⟨hk, hx⟩ := h 0 x (by simp)
      rw [Nat.add_zero] at hk hx
      obtain ⟨o, ho, _, _, h3⟩ := hat k hk
      rw [hx] at ho
      injection ho with ho
      subst ho
      exact ⟨StepRel.of hx hk hB hsz hsup h3, ih (k + 1) fun j o hj => by
        have := h (j + 1) o (by simpa using hj)
        rwa [show k + (j + 1) = k + 1 + j by omega] at this⟩
  exact key _ 0 fun j o hj => by
    rw [List.getElem?_take] at hj
    by_cases h : j < n
    · rw [if_pos h] at hj
      exact ⟨by omega, by simpa using hj⟩
    · rw [if_neg h] at hj
      cases hj

theorem wp_region_ops (n : Nat) (Rs : List RelP) {id : Nat} (hm : P.follows .mixedOrders = true) (hB : relB l n = true) (hn : Rs.length = n) (hsz : ((l.take n).filterMap (·.dst)).all (fun d => decide (d < a.tmps.size)) = true)
    (hops : OpsOK P l n Rs a w 0 (l.take n) Rs) (hend : ∀ f w', Below w.heap.size w w' → AllR Rs f w' → wpList P l.toArray Q (l.drop n) (fillA a (l.take n) f) w') : (Code.region id l.toArray true).wp P Q a w :=
  wp_region_any hm (any_ops n Rs hB hn hsz hops hend)
theorem OpsOK.nil {Rs : List RelP} {i : Nat} {ps : List RelP} : OpsOK P l n Rs a w i [] ps := by cases ps <;> trivial
theorem OpsOK.cons {Rs : List RelP} {i : Nat} {o : Oper} {r : List Oper} {p : RelP} {ps : List RelP} (h : OpOK P l n Rs a w i o p) (h' : OpsOK P l n Rs a w (i + 1) r ps) : OpsOK P l n Rs a w i (o :: r) (p :: ps) := ⟨h, h'⟩
/-- An operation whose value is known. -/
theorem OpOK.val {Rs : List RelP} {i d : Nat} {o : Oper} {c : Value} (hi : l[i]? = some o) (ho : o.dst = some d)
    (h : ∀ g w', Below w.heap.size w w' → (∀ d, ((l.take n).filterMap (·.dst)).contains d = false → g d = a.tmps.getD d undef) → Deps n (atR Rs) g w' o → (execOp (evL g) o).run P w' = .ok (.value c) w') :
    OpOK P l n Rs a w i o (fun g _ => g d = c) := by
  refine ⟨fun _ _ _ h _ => h, fun g g' _ he h => (he i o d (Anc.self i) hi ho).symm.trans h, fun g w' hb hout hd => ?_⟩
  unfold OpRel
  rw [h g w' hb hout hd]
  refine ⟨?_, Below.refl _ _⟩
  rw [ho]
  unfold updO upd
  simp
/-- An operation of whose value something is known, by itself. -/
theorem OpOK.one {Rs : List RelP} {i d : Nat} {o : Oper} {p : Value → World → Prop} (hi : l[i]? = some o) (ho : o.dst = some d) (hst : ∀ v w1 w2, p v w1 → Below w1.heap.size w1 w2 → p v w2)
    (h : ∀ g w', Below w.heap.size w w' → (∀ d, ((l.take n).filterMap (·.dst)).contains d = false → g d = a.tmps.getD d undef) → Deps n (atR Rs) g w' o → OpRel P o (evL g) w' fun v w'' => p v w'' ∧ Below w'.heap.size w' w'') :
    OpOK P l n Rs a w i o (fun g w => p (g d) w) := by
  refine ⟨fun g w1 w2 h hb => hst _ _ _ h hb, fun g g' w1 he h => ?_, fun g w' hb hout hd => ?_⟩
  · show p (g' d) w1
    rw [← he i o d (Anc.self i) hi ho]
    exact h
  · have := h g w' hb hout hd
    rw [ho]
    have e : ∀ v, updO g (some d) v d = v := fun v => by unfold updO upd; simp
    simpa only [e] using this
theorem evL_tmp (g : Nat → Value) (t : Nat) : evL g (.tmp t) = g t := rfl
theorem evL_const (g : Nat → Value) (v : Value) : evL g (.const v) = v := rfl
theorem evL_func (g : Nat → Value) (f : FuncId) : evL g (.func f) = .func (.func f) #[] #[] := rfl
end
end Wh
