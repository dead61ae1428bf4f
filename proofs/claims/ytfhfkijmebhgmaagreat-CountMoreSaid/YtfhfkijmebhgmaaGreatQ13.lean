/- Texts of the claim, joined: Box, MemS, BoxK, PlainM, PlainN, PlainL. -/
import Derived.Laws.Tables
import Derived.Test.YtfhfkijmebhgmaaGreatQ12
import Derived.Test.YtfhfkijmebhgmaaGreatQ02
import Derived.Test.YtfhfkijmebhgmaaGreatQ08
namespace Wh
open Go Go.RowKit Go.Shelf Go.Proofs

/-- What a step leaves: every old block but those of 'ks'. -/
structure Step (ks : Nat → Prop) (w w' : World) : Prop where
  os : w'.os = w.os
  tape : w'.tape = w.tape
  output : w'.output = w.output
  size : w.heap.size ≤ w'.heap.size
  block : ∀ k, k < w.heap.size → ¬ ks k → w'.heap[k]? = w.heap[k]?
namespace Step
variable {ks ks' : Nat → Prop} {a b c w w' : World}
theorem refl (ks : Nat → Prop) (w : World) : Step ks w w := ⟨rfl, rfl, rfl, Nat.le_refl _, fun _ _ _ => rfl⟩
theorem trans' (h : Step ks a b) (h' : Step ks' b c) (hk : ∀ k, k < a.heap.size → ks' k → ks k) : Step ks a c :=
  ⟨h'.os.trans h.os, h'.tape.trans h.tape, h'.output.trans h.output, Nat.le_trans h.size h'.size, fun k hl hn => (h'.block k (Nat.lt_of_lt_of_le hl h.size) (fun hh => hn (hk k hl hh))).trans (h.block k hl hn)⟩
theorem trans (h : Step ks a b) (h' : Step ks b c) : Step ks a c := h.trans' h' fun _ _ h => h
theorem mono (h : Step ks w w') (hk : ∀ k, ks k → ks' k) : Step ks' w w' := ⟨h.os, h.tape, h.output, h.size, fun k hl hn => h.block k hl fun hh => hn (hk k hh)⟩
theorem of_below (h : Below w.heap.size w w') : Step ks w w' := ⟨h.os, h.tape, h.output, h.size, fun k hl _ => h.block k hl⟩
theorem of_grown {row : Option Nat} (h : w.grownBy w' row) (hk : ∀ k, row = some k → ks k) : Step ks w w' :=
  ⟨h.os, h.tape, h.output, h.size, fun k hl hn => h.block k hl (fun he => hn (hk k he.symm))⟩
theorem below {B : Nat} (h : Step ks w w') (hk : ∀ k, ks k → B ≤ k) (hB : B ≤ w.heap.size) : Below B w w' :=
  ⟨h.os, h.tape, h.output, h.size, fun k hl => h.block k (Nat.lt_of_lt_of_le hl hB) fun hh => Nat.not_le_of_lt hl (hk k hh)⟩
theorem blk {g : Nat} {e : TypeId} {cur : List Value} (h : Step ks w w') (hb : Blk w g e cur) (hn : ¬ ks g) : Blk w' g e cur := (h.block g hb.lt hn).trans hb
theorem heap {g : Nat} {o : Obj} (h : Step ks w w') (hb : w.heap[g]? = some o) (hn : ¬ ks g) : w'.heap[g]? = some o := (h.block g (Array.getElem?_eq_some_iff.1 hb).1 hn).trans hb
end Step
theorem Own.step {α : Type} {enc : α → List Value} {size : Nat} {e : TypeId} {w w' : World} {base : Nat} {v : Value} {l : List α} {ks : Nat → Prop} (h : Own enc size e w base v l) (hs : Step ks w w') (hk : ∀ k, v.ownBlock = some k → ¬ ks k) : Own enc size e w' base v l := by
  refine ⟨h.1, ?_⟩
  rcases h.2 with hn | ⟨g, cap, cur, rfl, hbg, hg, rest⟩
  · exact .inl hn
  · exact .inr ⟨g, cap, cur, rfl, hbg, by rw [hs.block g (Array.getElem?_eq_some_iff.1 hg).1 (hk g rfl)]; exact hg, rest⟩

/-- No element's type of a state. -/
structure BoxT (t : TypeId) : Prop where
  h1 : 23 ≠ t
  h2 : 3 ≠ t
  h3 : 42 ≠ t
  h4 : 44 ≠ t
  h5 : 46 ≠ t
  h6 : 48 ≠ t
theorem boxT : BoxT 31 := ⟨by decide, by decide, by decide, by decide, by decide, by decide⟩

/-- A state of the call's own that leads the block b, whose type is t; 'rest': the block's other cells. -/
structure Bx (w : World) (base b : Nat) (t : TypeId) (rest : List Value) (V : SV) (s : State) : Prop where
  box : Blk w b t (V.cells ++ rest)
  own : OwnSt w base V s
  ty : BoxT t
namespace Bx
variable {w w' : World} {base b : Nat} {t : TypeId} {rest : List Value} {V : SV} {s : State} {ks : Nat → Prop}
theorem of (h : BoxAt w b V) (ho : OwnSt w base V s) : Bx w base b 31 [] V s := ⟨by rw [List.append_nil]; exact h, ho, boxT⟩
theorem lt (h : Bx w base b t rest V s) : b < w.heap.size := h.box.lt
theorem below (h : Bx w base b t rest V s) (hb : Below w.heap.size w w') : Bx w' base b t rest V s := ⟨h.box.below hb h.lt, h.own.below hb, h.ty⟩
theorem drew (h : Bx w base b t rest V s) : Bx w.drew base b t rest V s := ⟨h.box, h.own.drew, h.ty⟩
theorem from_ (h : Bx w base b t rest V s) {base' : Nat} (hb : base' ≤ base) : Bx w base' b t rest V s := ⟨h.box, h.own.from_ hb, h.ty⟩
theorem cells (h : Bx w base b t rest V s) : w.cell? ⟨b, 0, none⟩ = some V.on ∧ w.cell? ⟨b, 1, none⟩ = some V.orders ∧ w.cell? ⟨b, 2, none⟩ = some V.holds ∧ w.cell? ⟨b, 3, none⟩ = some V.moves ∧
    w.cell? ⟨b, 4, none⟩ = some V.inn ∧ w.cell? ⟨b, 5, none⟩ = some V.out ∧ w.cell? ⟨b, 6, none⟩ = some V.fixed :=
  ⟨h.box.cell rfl, h.box.cell rfl, h.box.cell rfl, h.box.cell rfl, h.box.cell rfl, h.box.cell rfl, h.box.cell rfl⟩
theorem frozen (h : Bx w base b t rest V s) (o : Nat) : w.frozen? ⟨b, o, none⟩ = false := h.box.frozen o
theorem setCells (h : Bx w base b t rest V s) (j : Nat) (u : Value) (V' : SV) (hV : V'.cells ++ rest = (V.cells ++ rest).set j u) :
    Blk (w.setCell ⟨b, j, none⟩ u) b t (V'.cells ++ rest) ∧ w.grownBy (w.setCell ⟨b, j, none⟩ u) (some b) ∧ OwnSt (w.setCell ⟨b, j, none⟩ u) base V s := by
  obtain ⟨h1, h2⟩ := set_row h.box j u
  exact ⟨by rw [hV]; exact h1, h2, h.own.keptBy h2 h.box h.ty.h1 h.ty.h2 h.ty.h3 h.ty.h4 h.ty.h5 h.ty.h6⟩
/-- A cell of the block is written, and the state is the other one then. -/
theorem set' {V' : SV} {s' : State} (hb : Blk w b t (V.cells ++ rest)) (ho : OwnSt w base V' s') (hT : BoxT t) (j : Nat) (u : Value) (hV : V'.cells ++ rest = (V.cells ++ rest).set j u) :
    Bx (w.setCell ⟨b, j, none⟩ u) base b t rest V' s' ∧ w.grownBy (w.setCell ⟨b, j, none⟩ u) (some b) := by
  obtain ⟨h1, h2⟩ := set_row hb j u
  exact ⟨⟨by rw [hV]; exact h1, ho.keptBy h2 hb hT.h1 hT.h2 hT.h3 hT.h4 hT.h5 hT.h6, hT⟩, h2⟩
/-- An order more: what append gave is stored. -/
theorem pushOrder {w1 w2 : World} (h : Bx w base b t rest V s) (hb : Below w.heap.size w w1) {u : Value} {x : Order} (hu : Own cLine 4 44 w1 base u x.lines) (hf : ∀ g, u.ownBlock = some g → w.heap.size ≤ g) (hg : w1.grownBy w2 V.orders.ownBlock)
    {v' : Value} (hv : Own cOrd 2 42 w2 base v' (ords s.orders V.lines ++ [(x.kind, u)])) :
    Blk w2 b t (V.cells ++ rest) ∧ OwnSt w2 base { V with orders := v', lines := V.lines ++ [u] } { s with orders := s.orders ++ [x] } := by
  have h1 := h.below hb
  exact ⟨h1.box.grown hg (fun he => by
    rcases h1.own.orders.notBox h1.box h1.ty.h3 with h | h
    · rw [h] at he; cases he
    · exact h he.symm), h.own.pushOrder hb hu hf hg hv⟩
/-- Another slice of holds. -/
theorem setHolds (h : Bx w base b t rest V s) {u : Value} {l : List Hold} (hu : Own cHold 4 46 w base u l) :
    Bx (w.setCell ⟨b, 2, none⟩ u) base b t rest { V with holds := u } { s with holds := l } ∧ w.grownBy (w.setCell ⟨b, 2, none⟩ u) (some b) := by
  obtain ⟨h1, h2, h3⟩ := h.setCells 2 u { V with holds := u } rfl
  exact ⟨⟨h1, ⟨h3.on, h3.rlen, h3.row, h3.orders, h3.llen, h3.line, hu.kept h2 (hu.notBox h.box h.ty.h5), h3.moves, h3.inn, h3.out, h3.fixed, h3.apart, h3.apartl⟩, h.ty⟩, h2⟩
/-- A store that leaves the box. -/
theorem off (h : Bx w base b t rest V s) {g : Nat} {e : TypeId} {cur : List Value} (hb : Blk w g e cur) (hne : e ≠ t) (hg : w.grownBy w' (some g)) : Blk w' b t (V.cells ++ rest) :=
  h.box.grown hg (by intro he; injection he with he; exact hb.ne h.box hne he.symm)
end Bx

theorem line_gl {w : World} {base : Nat} {V : SV} {s : State} (h : OwnSt w base V s) {o k : Nat} (ho : o < s.orders.length) (hk : k < (s.order o).lines.length) {gl n c : Nat} (hv : V.line o = .slice (some ⟨gl, 0, none⟩) n c) : ∃ cur, Blk w gl 44 cur := by
  obtain ⟨g, c', cur, e1, _, e3, _⟩ := h.lineAt ho hk
  rw [hv] at e1
  injection e1 with e1
  injection e1 with e1
  injection e1 with e1
  subst e1
  exact ⟨cur, e3⟩

section
variable {ops : Array Oper} {rest : List Oper} {o : Oper} {a : Act} {w : World} {Q : Exit → Act → World → Prop} {base b : Nat} {t : TypeId} {cs : List Value} {V : SV} {s : State}
theorem wp_st_holds (hgd : o.guard = none) (x y : Operand) (ho : o.op = .store 28 x y) (hn : o.dst = none) (A : Option Addr) (n c : Nat) (l : List Hold) (hB : Bx w base b t cs V s) (hx : a.eval x = .pointer (some ⟨b, 2, none⟩)) (hy : a.eval y = .slice A n c)
    (hu : Own cHold 4 46 w base (.slice A n c) l) (h : ∀ w', Bx w' base b t cs { V with holds := .slice A n c } { s with holds := l } → Step (· = b) w w' → wpList Tryz.prog ops Q rest a w') : wpList Tryz.prog ops Q (o :: rest) a w :=
  wpList_plain hgd fun K hK => by
    obtain ⟨h1, h2⟩ := hB.setHolds hu
    have h3 := h _ h1 (.of_grown h2 fun k hk => by injection hk with hk; exact hk.symm)
    have hc := hB.cells.2.2.1
    have hf := hB.frozen 2
    clear h hB hu h1 h2
    unfold Oper.wp
    simp only [execOp, ho, hx, hy]
    go_simp
    exact hK _ _ h3
theorem four_cells {w : World} {gl o j : Nat} {a b c d : Value} (hj : j < 4) (h0 : w.cell? ⟨gl, o, none⟩ = some a) (h1 : w.cell? ⟨gl, o + 1, none⟩ = some b) (h2 : w.cell? ⟨gl, o + 2, none⟩ = some c) (h3 : w.cell? ⟨gl, o + 3, none⟩ = some d) : ∃ u, w.cell? ⟨gl, o + j, none⟩ = some u := by
  rcases (show j = 0 ∨ j = 1 ∨ j = 2 ∨ j = 3 by omega) with rfl | rfl | rfl | rfl
  · exact ⟨_, h0⟩
  · exact ⟨_, h1⟩
  · exact ⟨_, h2⟩
  · exact ⟨_, h3⟩
/-- A slice stored into the box; the state is the other one then. -/
theorem wp_st_holds' (hgd : o.guard = none) (x y : Operand) (ho : o.op = .store 28 x y) (hn : o.dst = none) (A : Option Addr) (n c : Nat) {V' : SV} {s' : State} (hk : Blk w b t (V.cells ++ cs)) (hO : OwnSt w base V' s') (hT : BoxT t) (hV : V'.cells ++ cs = (V.cells ++ cs).set 2 (.slice A n c))
    (hx : a.eval x = .pointer (some ⟨b, 2, none⟩)) (hy : a.eval y = .slice A n c) (h : ∀ w', Bx w' base b t cs V' s' → Step (· = b) w w' → wpList Tryz.prog ops Q rest a w') : wpList Tryz.prog ops Q (o :: rest) a w :=
  wpList_plain hgd fun K hK => by
    obtain ⟨h1, h2⟩ := Bx.set' hk hO hT 2 (.slice A n c) hV
    have h3 := h _ h1 (.of_grown h2 fun k hk => by injection hk with hk; exact hk.symm)
    have hc : w.cell? ⟨b, 2, none⟩ = some V.holds := hk.cell rfl
    have hf := hk.frozen 2
    clear h hk hO h1 h2 hV
    unfold Oper.wp
    simp only [execOp, ho, hx, hy]
    go_simp
    exact hK _ _ h3
/-- A slice stored into the box; the state is the other one then. -/
theorem wp_st_moves' (hgd : o.guard = none) (x y : Operand) (ho : o.op = .store 29 x y) (hn : o.dst = none) (A : Option Addr) (n c : Nat) {V' : SV} {s' : State} (hk : Blk w b t (V.cells ++ cs)) (hO : OwnSt w base V' s') (hT : BoxT t) (hV : V'.cells ++ cs = (V.cells ++ cs).set 3 (.slice A n c))
    (hx : a.eval x = .pointer (some ⟨b, 3, none⟩)) (hy : a.eval y = .slice A n c) (h : ∀ w', Bx w' base b t cs V' s' → Step (· = b) w w' → wpList Tryz.prog ops Q rest a w') : wpList Tryz.prog ops Q (o :: rest) a w :=
  wpList_plain hgd fun K hK => by
    obtain ⟨h1, h2⟩ := Bx.set' hk hO hT 3 (.slice A n c) hV
    have h3 := h _ h1 (.of_grown h2 fun k hk => by injection hk with hk; exact hk.symm)
    have hc : w.cell? ⟨b, 3, none⟩ = some V.moves := hk.cell rfl
    have hf := hk.frozen 3
    clear h hk hO h1 h2 hV
    unfold Oper.wp
    simp only [execOp, ho, hx, hy]
    go_simp
    exact hK _ _ h3
set_option maxHeartbeats 1000000 in
/-- A number of a line. -/
theorem wp_st_line (hgd : o.guard = none) (x z : Operand) (ho : o.op = .store 3 x z) (hn : o.dst = none) {i k j gl n c : Nat} {y : Line} {q : Int} (hB : Bx w base b t cs V s) (hi : i < s.orders.length) (hk : k < (s.order i).lines.length)
    (hv : V.line i = .slice (some ⟨gl, 0, none⟩) n c) (hj : j < 4) (hy : cLine y = (cLine (s.line i k)).set j (.int .i64 q)) (hx : a.eval x = .pointer (some ⟨gl, k * 4 + j, none⟩)) (hz : a.eval z = .int .i64 q)
    (h : ∀ w', Bx w' base b t cs V (s.setLine i k y) → Step (· = gl) w w' → wpList Tryz.prog ops Q rest a w') : wpList Tryz.prog ops Q (o :: rest) a w :=
  wpList_plain hgd fun K hK => by
    obtain ⟨g', c', cur, e1, _, e3, f0, f1, f2, f3⟩ := hB.own.lineAt hi hk
    rw [hv] at e1
    injection e1 with e1
    injection e1 with e1
    injection e1 with e1
    subst e1
    obtain ⟨h1, h2⟩ := hB.own.setLine hi hk hv hj hy
    have h3 := h _ ⟨hB.off e3 hB.ty.h4 h2, h1, hB.ty⟩ (.of_grown h2 fun k hk => by injection hk with hk; exact hk.symm)
    have hf := e3.frozen (k * 4 + j)
    obtain ⟨u, hc⟩ := four_cells hj f0 f1 f2 f3
    clear h hB h1 h2 f0 f1 f2 f3 e3 hy
    unfold Oper.wp
    simp only [execOp, ho, hx, hz]
    go_simp
    exact hK _ _ h3
end
end Wh
namespace Wh
open Go Go.RowKit

section
variable {P : Program}
theorem run_storeVar_blk (w : World) (g o : Nat) (e ty : TypeId) (cur cs : List Value) (hg : Blk w g e cur) (hfit : o + cs.length ≤ cur.length) (hi : (P.info? ty).map (·.size) = some cs.length) (h1 : ∀ v ∈ cs, v.oneCell' = true) :
    (storeVar ty ⟨g, o, none⟩ (.agg cs.toArray)).run P w = .ok () (w.setRow g (spl cur o cs).toArray) := by
  have := run_storeCells_at P g o e cs 0 cur.toArray w hg (by simpa using hfit) h1
  cases hq : P.info? ty with
  | none => simp [hq] at hi
  | some i =>
    have hs : i.size = cs.length := by simpa [hq] using hi
    simp only [Nat.add_zero] at this
    simp [storeVar, Go.sizeOf, typeInfo, hq, Value.cells, hs, this, spl]
theorem flat_put {α : Type} (enc : α → List Value) (k : Nat) (hk : ∀ x, (enc x).length = k) {l : List α} {i : Nat} (hi : i < l.length) (y : α) {cur : List Value} (hc : l.length * k ≤ cur.length) (ht : cur.take (l.length * k) = l.flatMap enc) :
    (spl cur (i * k) (enc y)).take (l.length * k) = (l.set i y).flatMap enc := by
  have h1 : (i + 1) * k ≤ l.length * k := Nat.mul_le_mul_right _ (by omega)
  have h2 : i * k + k = (i + 1) * k := by rw [Nat.add_mul]; omega
  have e1 : l.set i y = l.take i ++ [y] ++ l.drop (i + 1) := by
    rw [List.set_eq_take_append_cons_drop, if_pos hi, List.append_assoc]
    rfl
  rw [e1, List.flatMap_append, List.flatMap_append, List.flatMap_singleton, ← flat_take enc k hk, ← flat_drop enc k hk, ← ht]
  have e2 : (cur.take (i * k) ++ enc y).length = (i + 1) * k := by rw [List.length_append, List.length_take, hk, Nat.min_eq_left (by omega), h2]
  unfold spl
  rw [hk, h2, List.take_append, List.take_of_length_le (by rw [e2]; exact h1), e2, List.take_take, Nat.min_eq_left (by omega), List.drop_take]
theorem Own.put {α : Type} {enc : α → List Value} {size : Nat} {e : TypeId} {w : World} {base g n c : Nat} {l : List α} (h : Own enc size e w base (.slice (some ⟨g, 0, none⟩) n c) l) (hk : ∀ x, (enc x).length = size) {i : Nat} (hi : i < l.length) (y : α)
    {ty : TypeId} (hty : (P.info? ty).map (·.size) = some size) (h1 : ∀ v ∈ enc y, v.oneCell' = true) :
    ∃ w', (storeVar ty ⟨g, i * size, none⟩ (.agg (enc y).toArray)).run P w = .ok () w' ∧ Own enc size e w' base (.slice (some ⟨g, 0, none⟩) n c) (l.set i y) ∧ w.grownBy w' (some g) := by
  obtain ⟨g', cap, cur, e1, hb, hg, h2, h3, h4, h5⟩ := h.row (by omega)
  injection e1 with e1 e2 e3
  injection e1 with e1
  injection e1 with e1
  subst e1 e2 e3
  have hle : l.length * size ≤ cur.length := by rw [h4]; exact Nat.mul_le_mul_right _ h2
  have hfit : i * size + (enc y).length ≤ cur.length := by
    rw [hk]
    have : (i + 1) * size ≤ l.length * size := Nat.mul_le_mul_right _ (by omega)
    rw [Nat.add_mul] at this
    omega
  refine ⟨_, run_storeVar_blk w g (i * size) e ty cur (enc y) hg hfit (by rw [hk]; exact hty) h1, ?_, grown_row w g _⟩
  have := Own.of_row (l := l.set i y) hk hb (hg.row (spl cur (i * size) (enc y))) (by rw [List.length_set]; exact h2) h3 (by rw [spl_length hfit]; exact h4) (by rw [List.length_set]; exact flat_put enc size hk hi y hle h5)
  rwa [List.length_set] at this
/-- 's[i] = x', a struct. -/
theorem wpList_put {α : Type} {enc : α → List Value} {size : Nat} {e : TypeId} {w : World} {base g n c : Nat} {l : List α} {ops : Array Oper} {rest : List Oper} {o : Oper} {a : Go.Act} {Q : Exit → Go.Act → World → Prop} (hgd : o.guard = none) (x z : Operand) (ty : TypeId) (ho : o.op = .store ty x z) (hn : o.dst = none)
    (h : Own enc size e w base (.slice (some ⟨g, 0, none⟩) n c) l) (hk : ∀ x, (enc x).length = size) {i : Nat} (hi : i < l.length) (y : α) (hty : (P.info? ty).map (·.size) = some size) (h1 : ∀ v ∈ enc y, v.oneCell' = true)
    (hx : a.eval x = .pointer (some ⟨g, i * size, none⟩)) (hy : a.eval z = .agg (enc y).toArray)
    (hK : ∀ w', Own enc size e w' base (.slice (some ⟨g, 0, none⟩) n c) (l.set i y) → w.grownBy w' (some g) → wpList P ops Q rest a w') : wpList P ops Q (o :: rest) a w :=
  wpList_plain hgd fun K hK' => by
    obtain ⟨w', hr, h2, h3⟩ := h.put hk hi y hty h1
    unfold Oper.wp execOp
    simp only [ho, hx, hy, Instr.storeAt, Instr.sureAddr, Sem.run_bind, Sem.run_pure, Result.andThen_ok, hr]
    have hk := hK' (a.put o.dst undef) w' (by rw [hn]; exact hK _ h2 h3)
    exact hk
/-- The row's head alone, what lies behind it cleared. -/
theorem Own.cut {α : Type} {enc : α → List Value} {size : Nat} {e : TypeId} {w : World} {base g n c : Nat} {l : List α} (h : Own enc size e w base (.slice (some ⟨g, 0, none⟩) n c) l) (hk : ∀ x, (enc x).length = size) {i : Nat} (hi : i < l.length)
    {t : TypeId} {z : Value} (ht : P.underlying t = some (.slice e)) (hv : ∀ w, (zeroValue e).run P w = .ok z w) (hz : z.cells.size = size) (h1 : ∀ v ∈ z.cells, v.oneCell' = true) :
    ∃ w', (∀ ty c', (Builtin.clear_ #[t] ty #[.slice (some ⟨g, i * size, none⟩) (n - i) c']).run P w = .ok (.tuple #[]) w') ∧ Own enc size e w' base (.slice (some ⟨g, 0, none⟩) i c) (l.take i) ∧ w.grownBy w' (some g) := by
  obtain ⟨g', cap, cur, e1, hb, hg, h2, h3, h4, h5⟩ := h.row (by omega)
  injection e1 with e1 e2 e3
  injection e1 with e1
  injection e1 with e1
  subst e1 e2 e3
  have hle : l.length * size ≤ cur.length := by rw [h4]; exact Nat.mul_le_mul_right _ h2
  have hsp : i * size + (l.length - i) * size = l.length * size := by rw [← Nat.add_mul]; congr 1; omega
  have hzl : (Builtin.zeroCells z.cells (l.length - i)).toList.length = (l.length - i) * size := by rw [Array.length_toList, zeroCells_length, hz]
  refine ⟨_, fun ty c' => run_clear_blk (P := P) w t e ty z ht hv h1 g (i * size) (l.length - i) c' cur hg (by omega) (by rw [hz]; omega), ?_, grown_row w g _⟩
  have hlen : (l.take i).length = i := by rw [List.length_take]; omega
  have := Own.of_row (l := l.take i) hk hb (hg.row (spl cur (i * size) (Builtin.zeroCells z.cells (l.length - i)).toList)) (by rw [hlen]; omega) h3 (by rw [spl_length (by rw [hzl]; omega)]; exact h4) (by
    rw [hlen, spl_lo (by omega), ← flat_take enc size hk, ← h5, List.take_take, Nat.min_eq_left (by omega)])
  rwa [hlen] at this
end
end Wh
namespace Wh
open Go Go.RowKit Go.Proofs

namespace OwnSt
variable {w w' : World} {base : Nat} {V : SV} {s : State}
/-- The moves' block was written. -/
theorem wroteMoves (h : OwnSt w base V s) (hg : w.grownBy w' V.moves.ownBlock) {v : Value} {l : List Move} (hv : Own cMove 4 48 w' base v l) : OwnSt w' base { V with moves := v } { s with moves := l } := h.newMoves hg hv
end OwnSt

section
variable {ops : Array Oper} {rest : List Oper} {o : Oper} {a : Act} {w : World} {Q : Exit → Act → World → Prop} {base b : Nat} {t : TypeId} {cs : List Value} {V : SV} {s : State}
/-- A number of a shelf. -/
theorem wp_st_on (hgd : o.guard = none) (x z : Operand) (ho : o.op = .store 3 x z) (hn : o.dst = none) {i g gr n c : Nat} {q : Int} (hB : Bx w base b t cs V s) (hi : i < s.on.length) (hg : g < (rowAt s.on i).length)
    (hv : V.row i = .slice (some ⟨gr, 0, none⟩) n c) (hx : a.eval x = .pointer (some ⟨gr, g, none⟩)) (hz : a.eval z = .int .i64 q)
    (h : ∀ w', Bx w' base b t cs V { s with on := setCell s.on i g q } → Step (· = gr) w w' → wpList Tryz.prog ops Q rest a w') : wpList Tryz.prog ops Q (o :: rest) a w :=
  wpList_plain hgd fun K hK => by
    obtain ⟨_, _, _, g', c', cur, _, _, _, _, e1, _, e3, f0⟩ := hB.own.onAt hi hg
    rw [hv] at e1
    injection e1 with e1
    injection e1 with e1
    injection e1 with e1
    subst e1
    obtain ⟨h1, h2⟩ := hB.own.setOn hi hg hv q
    have h3 := h _ ⟨hB.off e3 hB.ty.h2 h2, h1, hB.ty⟩ (.of_grown h2 fun k hk => by injection hk with hk; exact hk.symm)
    have hf := e3.frozen g
    clear h hB h1 h2 e3
    unfold Oper.wp
    simp only [execOp, ho, hx, hz]
    go_simp
    exact hK _ _ h3
theorem wp_st_fixed (hgd : o.guard = none) (x z : Operand) (ho : o.op = .store 3 x z) (hn : o.dst = none) {g gr n c : Nat} {q : Int} (hB : Bx w base b t cs V s) (hg : g < s.fixed.length)
    (hv : V.fixed = .slice (some ⟨gr, 0, none⟩) n c) (hx : a.eval x = .pointer (some ⟨gr, g, none⟩)) (hz : a.eval z = .int .i64 q)
    (h : ∀ w', Bx w' base b t cs V { s with fixed := s.fixed.set g q } → Step (· = gr) w w' → wpList Tryz.prog ops Q rest a w') : wpList Tryz.prog ops Q (o :: rest) a w :=
  wpList_plain hgd fun K hK => by
    obtain ⟨g', c', cur, e1, _, e3, f0⟩ := OwnSt.intAtOwn hB.own.fixed hg
    rw [hv] at e1
    injection e1 with e1
    injection e1 with e1
    injection e1 with e1
    subst e1
    obtain ⟨h1, h2⟩ := hB.own.setFixed hg hv q
    have h3 := h _ ⟨hB.off e3 hB.ty.h2 h2, h1, hB.ty⟩ (.of_grown h2 fun k hk => by injection hk with hk; exact hk.symm)
    have hf := e3.frozen g
    clear h hB h1 h2 e3
    unfold Oper.wp
    simp only [execOp, ho, hx, hz]
    go_simp
    exact hK _ _ h3
end
end Wh
namespace Wh

/-- t is s with moves more. -/
structure Filled (p : Plan) (s t : State) : Prop where
  right : Right p t
  got : ∀ o, o < t.orders.length → ¬ ((t.order o).kind = 1 ∧ allGot (t.order o) = true)
  rest : t = { s with moves := t.moves }
  ext : ∃ l, t.moves = s.moves ++ l ∧ ∀ x ∈ l, ((0 ≤ x.src ∧ x.src < p.bins.length) ∧ (0 ≤ x.dst ∧ x.dst < p.bins.length) ∧ (0 ≤ x.good ∧ x.good < p.sizes.length)) ∧ (p.bin x.src.toNat).front = false ∧ (p.bin x.dst.toNat).front = true ∧
    cell s.on x.dst.toNat x.good.toNat + coming t x.dst x.good ≤ (p.bin x.dst.toNat).high
  less : ∀ b : Nat, b < p.bins.length → free p t b ≤ free p s b ∧ (free p t b < free p s b → 0 ≤ free p t b)

section
variable {p : Plan} {s t : State} {b g f : Nat} {n : Int}
end

-- a move that is done
section
variable {p : Plan} {s : State} {k : Nat} {n : Int}
end
section
variable {p : Plan} {s : State} {k n : Int}
end
end Wh
namespace Wh

/-- Things that have a number, of which some may be cut. -/
structure Cutter (α : Type) where
  is : α → Bool
  num : α → Int
  put : α → Int → α
  num_put : ∀ x n, num (put x n) = n
  is_put : ∀ x n, is (put x n) = is x
  put_put : ∀ x n m, put (put x n) m = put x m
  put_num : ∀ x, put x (num x) = x

namespace Cutter
variable {α : Type} (C : Cutter α)
def part (x : α) : Int := if C.is x = true then C.num x else 0
def all (l : List α) : Int := (l.map C.part).sum
def less (v n : Int) : Int := min n (max v 0)
/-- From behind: as many as may be taken away; what is still over. -/
def cut : List α → Int → List α × Int
  | [], v => ([], v)
  | x :: r, v => if C.is x = true then (C.put x (C.num x - less (cut r v).2 (C.num x)) :: (cut r v).1, (cut r v).2 - less (cut r v).2 (C.num x)) else (x :: (cut r v).1, (cut r v).2)
def keep (x : α) : Bool := !decide (C.num x = 0)
def rest (l : List α) (v : Int) : List α := (C.cut l v).1.filter C.keep
def Pos (l : List α) : Prop := ∀ x ∈ l, 1 ≤ C.num x

variable {C}
theorem Pos.cons {x : α} {r : List α} (h : C.Pos (x :: r)) : 1 ≤ C.num x ∧ C.Pos r := ⟨h x (List.mem_cons_self ..), fun y hy => h y (List.mem_cons_of_mem _ hy)⟩
theorem all_cons (x : α) (r : List α) : C.all (x :: r) = C.part x + C.all r := by unfold all; rw [List.map_cons, List.sum_cons]
theorem all_nonneg {l : List α} (h : ∀ x ∈ l, 0 ≤ C.num x) : 0 ≤ C.all l := by
  induction l with
  | nil => exact Int.le_refl _
  | cons x r ih =>
    have h1 := h x (List.mem_cons_self ..)
    have h2 := ih fun y hy => h y (List.mem_cons_of_mem _ hy)
    rw [all_cons]
    unfold part
    split <;> omega
theorem cut_is {x : α} (hx : C.is x = true) (r : List α) (v : Int) : C.cut (x :: r) v = (C.put x (C.num x - less (C.cut r v).2 (C.num x)) :: (C.cut r v).1, (C.cut r v).2 - less (C.cut r v).2 (C.num x)) := by rw [cut, if_pos hx]
theorem cut_not {x : α} (hx : C.is x = false) (r : List α) (v : Int) : C.cut (x :: r) v = (x :: (C.cut r v).1, (C.cut r v).2) := by rw [cut, if_neg (by rw [hx]; simp)]
theorem cut_over {l : List α} (h : ∀ x ∈ l, 0 ≤ C.num x) (v : Int) : (C.cut l v).2 = v - min (max v 0) (C.all l) := by
  induction l with
  | nil => show v = v - min (max v 0) 0; omega
  | cons x r ih =>
    have h1 := h x (List.mem_cons_self ..)
    have hr := fun y hy => h y (List.mem_cons_of_mem _ hy)
    have h2 := ih hr
    have h3 := all_nonneg hr
    rw [all_cons]
    unfold part
    cases hx : C.is x
    · rw [cut_not hx]
      simp only [Bool.false_eq_true, if_false]
      omega
    · rw [cut_is hx]
      simp only [if_true]
      unfold less
      omega
theorem cut_length (l : List α) (v : Int) : (C.cut l v).1.length = l.length := by
  induction l with
  | nil => rfl
  | cons x r ih =>
    cases hx : C.is x
    · rw [cut_not hx]; simp [ih]
    · rw [cut_is hx]; simp [ih]
theorem cut_all {l : List α} (h : ∀ x ∈ l, 0 ≤ C.num x) (v : Int) : C.all (C.cut l v).1 = C.all l - min (max v 0) (C.all l) := by
  induction l with
  | nil => show (0 : Int) = 0 - min (max v 0) 0; omega
  | cons x r ih =>
    have h1 := h x (List.mem_cons_self ..)
    have hr := fun y hy => h y (List.mem_cons_of_mem _ hy)
    have h2 := ih hr
    have h3 := all_nonneg hr
    have h4 := cut_over hr v
    rw [all_cons]
    cases hx : C.is x
    · rw [cut_not hx]
      simp only
      rw [all_cons]
      unfold part
      rw [hx]
      simp only [Bool.false_eq_true, if_false]
      omega
    · rw [cut_is hx]
      simp only
      rw [all_cons]
      unfold part
      rw [C.is_put, hx, C.num_put]
      simp only [if_true]
      unfold less
      omega
/-- Each one is as it was, or has less. -/
theorem cut_mem {l : List α} (h : ∀ x ∈ l, 0 ≤ C.num x) (v : Int) : ∀ y ∈ (C.cut l v).1, ∃ x ∈ l, y = C.put x (C.num y) ∧ 0 ≤ C.num y ∧ C.num y ≤ C.num x ∧ (C.is x = false → y = x) := by
  induction l with
  | nil => intro y hy; simp [cut] at hy
  | cons x r ih =>
    have h1 := h x (List.mem_cons_self ..)
    have hr := fun y hy => h y (List.mem_cons_of_mem _ hy)
    intro y hy
    cases hx : C.is x
    · rw [cut_not hx] at hy
      rcases List.mem_cons.1 hy with rfl | hy
      · exact ⟨y, List.mem_cons_self .., (C.put_num y).symm, h1, Int.le_refl _, fun _ => rfl⟩
      · obtain ⟨z, hz, h2⟩ := ih hr y hy
        exact ⟨z, List.mem_cons_of_mem _ hz, h2⟩
    · rw [cut_is hx] at hy
      rcases List.mem_cons.1 hy with rfl | hy
      · refine ⟨x, List.mem_cons_self .., ?_, ?_, ?_, fun h => by rw [hx] at h; cases h⟩
        · rw [C.num_put]
        · rw [C.num_put]; unfold less; omega
        · rw [C.num_put]; unfold less; omega
      · obtain ⟨z, hz, h2⟩ := ih hr y hy
        exact ⟨z, List.mem_cons_of_mem _ hz, h2⟩
theorem cut_none {l : List α} (h : ∀ x ∈ l, 0 ≤ C.num x) {v : Int} (hv : v ≤ 0) : (C.cut l v).1 = l := by
  induction l with
  | nil => rfl
  | cons x r ih =>
    have h1 := h x (List.mem_cons_self ..)
    have hr := fun y hy => h y (List.mem_cons_of_mem _ hy)
    have h2 := cut_over hr v
    have h3 := all_nonneg hr
    cases hx : C.is x
    · rw [cut_not hx, ih hr]
    · rw [cut_is hx, ih hr]
      simp only
      have : less (C.cut r v).2 (C.num x) = 0 := by unfold less; omega
      rw [this, Int.sub_zero, C.put_num]
theorem cut_max {l : List α} (h : ∀ x ∈ l, 0 ≤ C.num x) (v : Int) : (C.cut l v).1 = (C.cut l (max v 0)).1 := by
  by_cases hv : v ≤ 0
  · rw [cut_none h hv, cut_none h (by omega)]
  · rw [show max v 0 = v by omega]
theorem rest_none {l : List α} (h : C.Pos l) {v : Int} (hv : v ≤ 0) : C.rest l v = l := by
  unfold rest
  rw [cut_none (fun x hx => by have := h x hx; omega) hv]
  refine List.filter_eq_self.2 fun x hx => ?_
  have := h x hx
  unfold keep
  simp
  omega
theorem rest_max {l : List α} (h : C.Pos l) (v : Int) : C.rest l v = C.rest l (max v 0) := by
  unfold rest
  rw [cut_max (fun x hx => by have := h x hx; omega)]
theorem rest_pos {l : List α} (h : C.Pos l) (v : Int) : C.Pos (C.rest l v) := fun y hy => by
  obtain ⟨h1, h2⟩ := List.mem_filter.1 hy
  obtain ⟨x, _, _, h3, _⟩ := cut_mem (fun x hx => by have := h x hx; omega) v y h1
  unfold keep at h2
  simp at h2
  omega
theorem all_filter (l : List α) : C.all (l.filter C.keep) = C.all l := by
  induction l with
  | nil => rfl
  | cons x r ih =>
    rw [List.filter_cons, all_cons]
    split
    · rw [all_cons, ih]
    · rename_i hk
      unfold keep at hk
      simp at hk
      rw [ih]
      unfold part
      rw [hk]
      split <;> omega
theorem rest_all {l : List α} (h : C.Pos l) (v : Int) : C.all (C.rest l v) = C.all l - min (max v 0) (C.all l) := by
  unfold rest
  rw [all_filter, cut_all (fun x hx => by have := h x hx; omega)]
theorem rest_mem {l : List α} (h : C.Pos l) (v : Int) : ∀ y ∈ C.rest l v, ∃ x ∈ l, y = C.put x (C.num y) ∧ 1 ≤ C.num y ∧ C.num y ≤ C.num x ∧ (C.is x = false → y = x) := fun y hy => by
  have h0 := rest_pos h v y hy
  obtain ⟨x, h1, h2, _, h4⟩ := cut_mem (fun x hx => by have := h x hx; omega) v y (List.mem_filter.1 hy).1
  exact ⟨x, h1, h2, h0, h4⟩
end Cutter
end Wh
namespace Wh

section
variable {p : Plan} {s : State} {o k b : Nat} {n : Int}
theorem keptAt_kept {l : List Hold} (hl : holdsOk l = true) (o ln : Int) (b : Nat) : keptAt l o ln b ≤ kept l o ln := by
  by_cases hb : b < 6
  · rw [kept_bins hl]
    have h0 : ∀ i, i < 6 → 0 ≤ keptAt l o ln i := fun i _ => kept_pos hl _ _ _
    have : ∀ m, b < m → m ≤ 6 → keptAt l o ln b ≤ sumTo (fun i => keptAt l o ln i) m := by
      intro m
      induction m with
      | zero => intro h; omega
      | succ m ih =>
        intro h h6
        have hs : ∀ q, q ≤ 6 → 0 ≤ sumTo (fun i => keptAt l o ln i) q := by
          intro q
          induction q with
          | zero => intro _; exact Int.le_refl _
          | succ q ih => intro hq; have := ih (by omega); have := h0 q (by omega); show 0 ≤ sumTo (fun i => keptAt l o ln i) q + keptAt l o ln q; omega
        show _ ≤ sumTo _ m + keptAt l o ln m
        by_cases e : b = m
        · subst e
          have := hs b (by omega)
          omega
        · have := ih (by omega) (by omega)
          have := h0 m (by omega)
          omega
    exact this 6 hb (by omega)
  · have h1 := kept_range hl o ln
    by_cases h0 : keptAt l o ln b = 0
    · rw [h0]; exact h1.1
    · have := (keptAt_key (holdsOk_iff.1 hl).1 (holdsOk_iff.1 hl).2 h0).1
      unfold keyOk at this
      omega
-- closing
end
section
variable {p : Plan} {s : State} {o k b n : Int}
end
end Wh
