/- Texts of the claim, joined: Box, RecvC. -/
import Derived.Test.YtnjgkhcnialplaaP38
import Derived.Test.YtnjgkhcnialplaaP42
import Derived.Test.YtnjgkhcnialplaaP09
import Derived.Test.YtnjgkhcnialplaaP17
import Derived.Test.YtnjgkhcnialplaaP21
namespace Wh
open Go Go.RowKit Go.Shelf Go.Proofs

/-- What a step leaves: every old block but those of 'ks'. -/
structure Step (ks : Nat → Prop) (w w' : World) : Prop where
  os : w'.os = w.os
  tape : w'.tape = w.tape
  output : w'.output = w.output
  size : w.heap.size ≤ w'.heap.size
  block : ∀ k, k < w.heap.size → ¬ ks k → w'.heap[k]? = w.heap[k]?
namespace Step
variable {ks ks' : Nat → Prop} {a b c w w' : World}
theorem refl (ks : Nat → Prop) (w : World) : Step ks w w := ⟨rfl, rfl, rfl, Nat.le_refl _, fun _ _ _ => rfl⟩
theorem trans' (h : Step ks a b) (h' : Step ks' b c) (hk : ∀ k, k < a.heap.size → ks' k → ks k) : Step ks a c :=
  ⟨h'.os.trans h.os, h'.tape.trans h.tape, h'.output.trans h.output, Nat.le_trans h.size h'.size, fun k hl hn => (h'.block k (Nat.lt_of_lt_of_le hl h.size) (fun hh => hn (hk k hl hh))).trans (h.block k hl hn)⟩
theorem trans (h : Step ks a b) (h' : Step ks b c) : Step ks a c := h.trans' h' fun _ _ h => h
theorem mono (h : Step ks w w') (hk : ∀ k, ks k → ks' k) : Step ks' w w' := ⟨h.os, h.tape, h.output, h.size, fun k hl hn => h.block k hl fun hh => hn (hk k hh)⟩
theorem of_below (h : Below w.heap.size w w') : Step ks w w' := ⟨h.os, h.tape, h.output, h.size, fun k hl _ => h.block k hl⟩
theorem of_grown {row : Option Nat} (h : w.grownBy w' row) (hk : ∀ k, row = some k → ks k) : Step ks w w' :=
  ⟨h.os, h.tape, h.output, h.size, fun k hl hn => h.block k hl (fun he => hn (hk k he.symm))⟩
theorem below {B : Nat} (h : Step ks w w') (hk : ∀ k, ks k → B ≤ k) (hB : B ≤ w.heap.size) : Below B w w' :=
  ⟨h.os, h.tape, h.output, h.size, fun k hl => h.block k (Nat.lt_of_lt_of_le hl hB) fun hh => Nat.not_le_of_lt hl (hk k hh)⟩
theorem blk {g : Nat} {e : TypeId} {cur : List Value} (h : Step ks w w') (hb : Blk w g e cur) (hn : ¬ ks g) : Blk w' g e cur := (h.block g hb.lt hn).trans hb
theorem heap {g : Nat} {o : Obj} (h : Step ks w w') (hb : w.heap[g]? = some o) (hn : ¬ ks g) : w'.heap[g]? = some o := (h.block g (Array.getElem?_eq_some_iff.1 hb).1 hn).trans hb
end Step
theorem Own.step {α : Type} {enc : α → List Value} {size : Nat} {e : TypeId} {w w' : World} {base : Nat} {v : Value} {l : List α} {ks : Nat → Prop} (h : Own enc size e w base v l) (hs : Step ks w w') (hk : ∀ k, v.ownBlock = some k → ¬ ks k) : Own enc size e w' base v l := by
  refine ⟨h.1, ?_⟩
  rcases h.2 with hn | ⟨g, cap, cur, rfl, hbg, hg, rest⟩
  · exact .inl hn
  · exact .inr ⟨g, cap, cur, rfl, hbg, by rw [hs.block g (Array.getElem?_eq_some_iff.1 hg).1 (hk g rfl)]; exact hg, rest⟩

/-- No element's type of a state. -/
structure BoxT (t : TypeId) : Prop where
  h1 : 23 ≠ t
  h2 : 3 ≠ t
  h3 : 73 ≠ t
  h4 : 75 ≠ t
  h5 : 87 ≠ t
  h6 : 92 ≠ t
theorem boxT : BoxT 31 := ⟨by decide, by decide, by decide, by decide, by decide, by decide⟩

/-- A state of the call's own that leads the block b, whose type is t; 'rest': the block's other cells. -/
structure Bx (w : World) (base b : Nat) (t : TypeId) (rest : List Value) (V : SV) (s : State) : Prop where
  box : Blk w b t (V.cells ++ rest)
  own : OwnSt w base V s
  ty : BoxT t
namespace Bx
variable {w w' : World} {base b : Nat} {t : TypeId} {rest : List Value} {V : SV} {s : State} {ks : Nat → Prop}
theorem of (h : BoxAt w b V) (ho : OwnSt w base V s) : Bx w base b 31 [] V s := ⟨by rw [List.append_nil]; exact h, ho, boxT⟩
theorem boxAt (h : Bx w base b 31 [] V s) : BoxAt w b V := by have := h.box; rwa [List.append_nil] at this
theorem lt (h : Bx w base b t rest V s) : b < w.heap.size := h.box.lt
theorem below (h : Bx w base b t rest V s) (hb : Below w.heap.size w w') : Bx w' base b t rest V s := ⟨h.box.below hb h.lt, h.own.below hb, h.ty⟩
theorem drew (h : Bx w base b t rest V s) : Bx w.drew base b t rest V s := ⟨h.box, h.own.drew, h.ty⟩
theorem from_ (h : Bx w base b t rest V s) {base' : Nat} (hb : base' ≤ base) : Bx w base' b t rest V s := ⟨h.box, h.own.from_ hb, h.ty⟩
theorem cells (h : Bx w base b t rest V s) : w.cell? ⟨b, 0, none⟩ = some V.on ∧ w.cell? ⟨b, 1, none⟩ = some V.orders ∧ w.cell? ⟨b, 2, none⟩ = some V.holds ∧ w.cell? ⟨b, 3, none⟩ = some V.moves ∧
    w.cell? ⟨b, 4, none⟩ = some V.inn ∧ w.cell? ⟨b, 5, none⟩ = some V.out ∧ w.cell? ⟨b, 6, none⟩ = some V.fixed :=
  ⟨h.box.cell rfl, h.box.cell rfl, h.box.cell rfl, h.box.cell rfl, h.box.cell rfl, h.box.cell rfl, h.box.cell rfl⟩
theorem frozen (h : Bx w base b t rest V s) (o : Nat) : w.frozen? ⟨b, o, none⟩ = false := h.box.frozen o
theorem setCells (h : Bx w base b t rest V s) (j : Nat) (u : Value) (V' : SV) (hV : V'.cells ++ rest = (V.cells ++ rest).set j u) :
    Blk (w.setCell ⟨b, j, none⟩ u) b t (V'.cells ++ rest) ∧ w.grownBy (w.setCell ⟨b, j, none⟩ u) (some b) ∧ OwnSt (w.setCell ⟨b, j, none⟩ u) base V s := by
  obtain ⟨h1, h2⟩ := set_row h.box j u
  exact ⟨by rw [hV]; exact h1, h2, h.own.keptBy h2 h.box h.ty.h1 h.ty.h2 h.ty.h3 h.ty.h4 h.ty.h5 h.ty.h6⟩
/-- A cell of the block is written, and the state is the other one then. -/
theorem set' {V' : SV} {s' : State} (hb : Blk w b t (V.cells ++ rest)) (ho : OwnSt w base V' s') (hT : BoxT t) (j : Nat) (u : Value) (hV : V'.cells ++ rest = (V.cells ++ rest).set j u) :
    Bx (w.setCell ⟨b, j, none⟩ u) base b t rest V' s' ∧ w.grownBy (w.setCell ⟨b, j, none⟩ u) (some b) := by
  obtain ⟨h1, h2⟩ := set_row hb j u
  exact ⟨⟨by rw [hV]; exact h1, ho.keptBy h2 hb hT.h1 hT.h2 hT.h3 hT.h4 hT.h5 hT.h6, hT⟩, h2⟩
/-- An order more: what append gave is stored. -/
theorem pushOrder {w1 w2 : World} (h : Bx w base b t rest V s) (hb : Below w.heap.size w w1) {u : Value} {x : Order} (hu : Own cLine 4 75 w1 base u x.lines) (hf : ∀ g, u.ownBlock = some g → w.heap.size ≤ g) (hg : w1.grownBy w2 V.orders.ownBlock)
    {v' : Value} (hv : Own cOrd 2 73 w2 base v' (ords s.orders V.lines ++ [(x.kind, u)])) :
    Blk w2 b t (V.cells ++ rest) ∧ OwnSt w2 base { V with orders := v', lines := V.lines ++ [u] } { s with orders := s.orders ++ [x] } := by
  have h1 := h.below hb
  exact ⟨h1.box.grown hg (fun he => by
    rcases h1.own.orders.notBox h1.box h1.ty.h3 with h | h
    · rw [h] at he; cases he
    · exact h he.symm), h.own.pushOrder hb hu hf hg hv⟩
/-- Another slice of holds. -/
theorem setHolds (h : Bx w base b t rest V s) {u : Value} {l : List Hold} (hu : Own cHold 4 87 w base u l) :
    Bx (w.setCell ⟨b, 2, none⟩ u) base b t rest { V with holds := u } { s with holds := l } ∧ w.grownBy (w.setCell ⟨b, 2, none⟩ u) (some b) := by
  obtain ⟨h1, h2, h3⟩ := h.setCells 2 u { V with holds := u } rfl
  exact ⟨⟨h1, ⟨h3.on, h3.rlen, h3.row, h3.orders, h3.llen, h3.line, hu.kept h2 (hu.notBox h.box h.ty.h5), h3.moves, h3.inn, h3.out, h3.fixed, h3.apart, h3.apartl⟩, h.ty⟩, h2⟩
/-- A store that leaves the box. -/
theorem off (h : Bx w base b t rest V s) {g : Nat} {e : TypeId} {cur : List Value} (hb : Blk w g e cur) (hne : e ≠ t) (hg : w.grownBy w' (some g)) : Blk w' b t (V.cells ++ rest) :=
  h.box.grown hg (by intro he; injection he with he; exact hb.ne h.box hne he.symm)
end Bx

theorem line_gl {w : World} {base : Nat} {V : SV} {s : State} (h : OwnSt w base V s) {o k : Nat} (ho : o < s.orders.length) (hk : k < (s.order o).lines.length) {gl n c : Nat} (hv : V.line o = .slice (some ⟨gl, 0, none⟩) n c) : ∃ cur, Blk w gl 75 cur := by
  obtain ⟨g, c', cur, e1, _, e3, _⟩ := h.lineAt ho hk
  rw [hv] at e1
  injection e1 with e1
  injection e1 with e1
  injection e1 with e1
  subst e1
  exact ⟨cur, e3⟩

section
variable {ops : Array Oper} {rest : List Oper} {o : Oper} {a : Act} {w : World} {Q : Exit → Act → World → Prop} {base b : Nat} {t : TypeId} {cs : List Value} {V : SV} {s : State}
theorem wp_st_holds (hgd : o.guard = none) (x y : Operand) (ho : o.op = .store 28 x y) (hn : o.dst = none) (A : Option Addr) (n c : Nat) (l : List Hold) (hB : Bx w base b t cs V s) (hx : a.eval x = .pointer (some ⟨b, 2, none⟩)) (hy : a.eval y = .slice A n c)
    (hu : Own cHold 4 87 w base (.slice A n c) l) (h : ∀ w', Bx w' base b t cs { V with holds := .slice A n c } { s with holds := l } → Step (· = b) w w' → wpList Try.prog ops Q rest a w') : wpList Try.prog ops Q (o :: rest) a w :=
  wpList_plain hgd fun K hK => by
    obtain ⟨h1, h2⟩ := hB.setHolds hu
    have h3 := h _ h1 (.of_grown h2 fun k hk => by injection hk with hk; exact hk.symm)
    have hc := hB.cells.2.2.1
    have hf := hB.frozen 2
    clear h hB hu h1 h2
    unfold Oper.wp
    simp only [execOp, ho, hx, hy]
    go_simp
    exact hK _ _ h3
theorem four_cells {w : World} {gl o j : Nat} {a b c d : Value} (hj : j < 4) (h0 : w.cell? ⟨gl, o, none⟩ = some a) (h1 : w.cell? ⟨gl, o + 1, none⟩ = some b) (h2 : w.cell? ⟨gl, o + 2, none⟩ = some c) (h3 : w.cell? ⟨gl, o + 3, none⟩ = some d) : ∃ u, w.cell? ⟨gl, o + j, none⟩ = some u := by
  rcases (show j = 0 ∨ j = 1 ∨ j = 2 ∨ j = 3 by omega) with rfl | rfl | rfl | rfl
  · exact ⟨_, h0⟩
  · exact ⟨_, h1⟩
  · exact ⟨_, h2⟩
  · exact ⟨_, h3⟩
/-- A slice stored into the box; the state is the other one then. -/
theorem wp_st_orders' (hgd : o.guard = none) (x y : Operand) (ho : o.op = .store 27 x y) (hn : o.dst = none) (A : Option Addr) (n c : Nat) {V' : SV} {s' : State} (hk : Blk w b t (V.cells ++ cs)) (hO : OwnSt w base V' s') (hT : BoxT t) (hV : V'.cells ++ cs = (V.cells ++ cs).set 1 (.slice A n c))
    (hx : a.eval x = .pointer (some ⟨b, 1, none⟩)) (hy : a.eval y = .slice A n c) (h : ∀ w', Bx w' base b t cs V' s' → Step (· = b) w w' → wpList Try.prog ops Q rest a w') : wpList Try.prog ops Q (o :: rest) a w :=
  wpList_plain hgd fun K hK => by
    obtain ⟨h1, h2⟩ := Bx.set' hk hO hT 1 (.slice A n c) hV
    have h3 := h _ h1 (.of_grown h2 fun k hk => by injection hk with hk; exact hk.symm)
    have hc : w.cell? ⟨b, 1, none⟩ = some V.orders := hk.cell rfl
    have hf := hk.frozen 1
    clear h hk hO h1 h2 hV
    unfold Oper.wp
    simp only [execOp, ho, hx, hy]
    go_simp
    exact hK _ _ h3
/-- A slice stored into the box; the state is the other one then. -/
theorem wp_st_holds' (hgd : o.guard = none) (x y : Operand) (ho : o.op = .store 28 x y) (hn : o.dst = none) (A : Option Addr) (n c : Nat) {V' : SV} {s' : State} (hk : Blk w b t (V.cells ++ cs)) (hO : OwnSt w base V' s') (hT : BoxT t) (hV : V'.cells ++ cs = (V.cells ++ cs).set 2 (.slice A n c))
    (hx : a.eval x = .pointer (some ⟨b, 2, none⟩)) (hy : a.eval y = .slice A n c) (h : ∀ w', Bx w' base b t cs V' s' → Step (· = b) w w' → wpList Try.prog ops Q rest a w') : wpList Try.prog ops Q (o :: rest) a w :=
  wpList_plain hgd fun K hK => by
    obtain ⟨h1, h2⟩ := Bx.set' hk hO hT 2 (.slice A n c) hV
    have h3 := h _ h1 (.of_grown h2 fun k hk => by injection hk with hk; exact hk.symm)
    have hc : w.cell? ⟨b, 2, none⟩ = some V.holds := hk.cell rfl
    have hf := hk.frozen 2
    clear h hk hO h1 h2 hV
    unfold Oper.wp
    simp only [execOp, ho, hx, hy]
    go_simp
    exact hK _ _ h3
/-- A slice stored into the box; the state is the other one then. -/
theorem wp_st_moves' (hgd : o.guard = none) (x y : Operand) (ho : o.op = .store 29 x y) (hn : o.dst = none) (A : Option Addr) (n c : Nat) {V' : SV} {s' : State} (hk : Blk w b t (V.cells ++ cs)) (hO : OwnSt w base V' s') (hT : BoxT t) (hV : V'.cells ++ cs = (V.cells ++ cs).set 3 (.slice A n c))
    (hx : a.eval x = .pointer (some ⟨b, 3, none⟩)) (hy : a.eval y = .slice A n c) (h : ∀ w', Bx w' base b t cs V' s' → Step (· = b) w w' → wpList Try.prog ops Q rest a w') : wpList Try.prog ops Q (o :: rest) a w :=
  wpList_plain hgd fun K hK => by
    obtain ⟨h1, h2⟩ := Bx.set' hk hO hT 3 (.slice A n c) hV
    have h3 := h _ h1 (.of_grown h2 fun k hk => by injection hk with hk; exact hk.symm)
    have hc : w.cell? ⟨b, 3, none⟩ = some V.moves := hk.cell rfl
    have hf := hk.frozen 3
    clear h hk hO h1 h2 hV
    unfold Oper.wp
    simp only [execOp, ho, hx, hy]
    go_simp
    exact hK _ _ h3
set_option maxHeartbeats 1000000 in
/-- A number of a line. -/
theorem wp_st_line (hgd : o.guard = none) (x z : Operand) (ho : o.op = .store 3 x z) (hn : o.dst = none) {i k j gl n c : Nat} {y : Line} {q : Int} (hB : Bx w base b t cs V s) (hi : i < s.orders.length) (hk : k < (s.order i).lines.length)
    (hv : V.line i = .slice (some ⟨gl, 0, none⟩) n c) (hj : j < 4) (hy : cLine y = (cLine (s.line i k)).set j (.int .i64 q)) (hx : a.eval x = .pointer (some ⟨gl, k * 4 + j, none⟩)) (hz : a.eval z = .int .i64 q)
    (h : ∀ w', Bx w' base b t cs V (s.setLine i k y) → Step (· = gl) w w' → wpList Try.prog ops Q rest a w') : wpList Try.prog ops Q (o :: rest) a w :=
  wpList_plain hgd fun K hK => by
    obtain ⟨g', c', cur, e1, _, e3, f0, f1, f2, f3⟩ := hB.own.lineAt hi hk
    rw [hv] at e1
    injection e1 with e1
    injection e1 with e1
    injection e1 with e1
    subst e1
    obtain ⟨h1, h2⟩ := hB.own.setLine hi hk hv hj hy
    have h3 := h _ ⟨hB.off e3 hB.ty.h4 h2, h1, hB.ty⟩ (.of_grown h2 fun k hk => by injection hk with hk; exact hk.symm)
    have hf := e3.frozen (k * 4 + j)
    obtain ⟨u, hc⟩ := four_cells hj f0 f1 f2 f3
    clear h hB h1 h2 f0 f1 f2 f3 e3 hy
    unfold Oper.wp
    simp only [execOp, ho, hx, hz]
    go_simp
    exact hK _ _ h3
end
end Wh
namespace Wh
open Go Go.RowKit Go.Shelf Go.Proofs
attribute [local go_sem] run_indexAt_letter evL_tmp evL_const evL_func

def badLine (p : Plan) (x : Line) : Bool := !(isGood p x.good && within x.want 1 200)
def notNew (x : Line) : Bool := !(decide (x.got = 0) && decide (x.back = 0))
theorem badLine_parts (p : Plan) (x : Line) : (isGood p x.good = false ∧ badLine p x = true) ∨ (isGood p x.good = true ∧ x.want < 1 ∧ badLine p x = true) ∨ (isGood p x.good = true ∧ 1 ≤ x.want ∧ 200 < x.want ∧ badLine p x = true) ∨
    (isGood p x.good = true ∧ 1 ≤ x.want ∧ x.want ≤ 200 ∧ badLine p x = false) := by
  unfold badLine
  have h1 := @within_iff x.want 1 200
  cases hw : within x.want 1 200 <;> cases hg : isGood p x.good <;> simp only [hw, Bool.false_eq_true, false_iff, true_iff] at h1 <;> simp <;> omega
theorem notNew_parts (x : Line) : ((x.got != 0) = true ∧ notNew x = true) ∨ ((x.got != 0) = false ∧ (x.back != 0) = true ∧ notNew x = true) ∨ ((x.got != 0) = false ∧ (x.back != 0) = false ∧ notNew x = false) := by
  unfold notNew
  by_cases h1 : x.got = 0 <;> by_cases h2 : x.back = 0 <;> simp [h1, h2]
section
variable {p : Plan} {s : State} {l : List Line}
theorem enter_bad (h : checkState p s ≠ 0) : enter p s l = (dState, checkState p s) := by unfold enter; rw [if_pos h]
theorem enter_many (h : checkState p s = 0) (h2 : 4 ≤ s.orders.length ∨ l.length < 1 ∨ 3 < l.length) : enter p s l = (dState, 2) := by
  unfold enter
  have hw := @within_iff l.length 1 3
  have h3 : 4 ≤ s.orders.length ∨ (!within l.length 1 3) = true := by
    cases hh : within l.length 1 3
    · exact .inr rfl
    · have := hw.1 hh
      omega
  rw [if_neg (fun hn => hn h), if_pos h3]
theorem enter_range (h : checkState p s = 0) (h2 : s.orders.length < 4) (h3 : 1 ≤ l.length ∧ l.length ≤ 3) (h4 : l.any (badLine p) = true) : enter p s l = (dState, 3) := by
  unfold enter
  have e : (!(l.all fun x => isGood p x.good && within x.want 1 200)) = true := by rw [← any_not]; exact h4
  have hw : within l.length 1 3 = true := within_iff.2 (by omega)
  rw [if_neg (fun hn => hn h), hw, if_neg (by simp; omega), if_pos e]
theorem enter_form (h : checkState p s = 0) (h2 : s.orders.length < 4) (h3 : 1 ≤ l.length ∧ l.length ≤ 3) (h4 : l.any (badLine p) = false) (h5 : l.any notNew = true) : enter p s l = (dState, 1) := by
  unfold enter
  have e : (!(l.all fun x => isGood p x.good && within x.want 1 200)) = false := by rw [← any_not]; exact h4
  have e2 : (!(l.all fun x => decide (x.got = 0) && decide (x.back = 0))) = true := by rw [← any_not]; exact h5
  have hw : within l.length 1 3 = true := within_iff.2 (by omega)
  rw [if_neg (fun hn => hn h), hw, if_neg (by simp; omega), e, e2]
  rfl
theorem enter_ok (h : checkState p s = 0) (h2 : s.orders.length < 4) (h3 : 1 ≤ l.length ∧ l.length ≤ 3) (h4 : l.any (badLine p) = false) (h5 : l.any notNew = false) : enter p s l = ({ s with orders := s.orders ++ [⟨0, l⟩] }, 0) := by
  unfold enter
  have e : (!(l.all fun x => isGood p x.good && within x.want 1 200)) = false := by rw [← any_not]; exact h4
  have e2 : (!(l.all fun x => decide (x.got = 0) && decide (x.back = 0))) = false := by rw [← any_not]; exact h5
  have hw : within l.length 1 3 = true := within_iff.2 (by omega)
  rw [if_neg (fun hn => hn h), hw, if_neg (by simp; omega), e, e2]
  rfl
end

set_option maxHeartbeats 2000000 in
theorem eBadLine (p : Plan) (x : Line) (W : World) (B : Nat) (hz : checkPlan p = 0) (Ab As : Option Addr) (cb cs : Nat) (h0 : W.cell? ⟨B, 0, none⟩ = some (.slice Ab p.bins.length cb)) (h1 : W.cell? ⟨B, 1, none⟩ = some (.slice As p.sizes.length cs)) (hB : B < W.heap.size)
    (hP : PlanV W W.heap.size (.agg #[.slice Ab p.bins.length cb, .slice As p.sizes.length cs]) p) :
    Calls Try.prog 73 #[vLine x, .pointer (some ⟨B, 0, none⟩)] W fun e W' => e = .returned (.bool (badLine p x)) ∧ Below W.heap.size W W' := by
  have hb1 : isBin p 0 = true := isBin_iff.2 (by have := right_counts hz; omega)
  have hb0 : Below W.heap.size W (W.alloc (.cells #[.int .i64 (x).good, .int .i64 (x).want, .int .i64 (x).got, .int .i64 (x).back] 75)) := (Below.refl _ _).alloc (Nat.le_refl _) _
  unfold vLine
  rcases badLine_parts p x with ⟨g1, hf⟩ | ⟨g1, g2, hf⟩ | ⟨g1, g2, g3, hf⟩ | ⟨g1, g2, g3, hf⟩
  all_goals
    have hth : (isBin p 0 && isGood p x.good) = (isGood p x.good) := by rw [hb1]; rfl
    have hth' := Lib.hid hth
    clear hth
    have hf' := Lib.hid hf
    clear hf
    go_enter Try.func73, Try.ntmps73
    go_wp2_with fail
    refine (shThere _ _ p 0 x.good (hP.grow hb0)).mono ?_
    rintro e W1 ⟨rfl, hc1⟩
    have hB := hb0.trans (hc1.mono hb0.size)
    obtain ⟨ha1, hf1⟩ := bcell hc1
    rw [hth'.out, g1]
    go_wp2_with fail
    go_ret
    exact ⟨ret_bool (by rw [hf'.out] <;> first | rfl | (simp <;> omega)), hB⟩
theorem entersEBad : Enters Try.prog 73 := enters_of Try.func73 (by kernel_rfl) rfl

set_option maxHeartbeats 2000000 in
theorem eNotNew (x : Line) (W : World) : Calls Try.prog 74 #[vLine x] W fun e W' => e = .returned (.bool (notNew x)) ∧ Below W.heap.size W W' := by
  have hb0 : Below W.heap.size W (W.alloc (.cells #[.int .i64 (x).good, .int .i64 (x).want, .int .i64 (x).got, .int .i64 (x).back] 75)) := (Below.refl _ _).alloc (Nat.le_refl _) _
  unfold vLine
  rcases notNew_parts x with ⟨g1, hf⟩ | ⟨g1, g2, hf⟩ | ⟨g1, g2, hf⟩
  all_goals
    have hf' := Lib.hid hf
    clear hf
    go_enter Try.func74, Try.ntmps74
    go_wp2_with fail
    go_ret
    exact ⟨ret_bool (by rw [hf'.out]), hb0⟩
theorem entersENew : Enters Try.prog 74 := enters_of Try.func74 (by kernel_rfl) rfl

set_option maxHeartbeats 8000000 in
set_option maxRecDepth 100000 in
theorem recvEnter (w : World) (v vs vl : Value) (p : Plan) (s : State) (l : List Line) (hp : PlanV w w.heap.size v p) (hv : StateV w w.heap.size vs s) (hl : Sl cLine w w.heap.size vl l) :
    Calls Try.prog 36 #[v, vs, vl] w (ActPost (enter p s l) w) := by
  have hL := Lib.hid hl
  obtain ⟨Al, cl, rfl, hll, hAl⟩ := hl
  clear hAl
  obtain ⟨Ab, cb, As, cs, rfl, hP', hBn, hSz, hlb, hls⟩ := openPl hp
  obtain ⟨A0, c0, A1, c1, A2, c2, A3, c3, A4, c4, A5, c5, A6, c6, rfl, hV, hN, hO, hH, hM, hI, hU, hX, hl0, hl1, hl2, hl3, hl4, hl5, hl6⟩ := openOne hv
  go_enter Try.func36, Try.ntmps36
  go_wp2_with fail
  obtain ⟨W0, hW0, hb0, hsz0, hsz1, hsE, hK, hR⟩ := boxesAct w p s Ab cb As cs A0 c0 A1 c1 A2 c2 A3 c3 A4 c4 A5 c5 A6 c6
  rw [hW0]
  clear hW0
  obtain ⟨⟨y0, y1⟩, x0, x1, x2, x3, x4, x5, x6, hbz0, hbz1⟩ := hK.out W0 (Below.refl W0.heap.size W0)
  go_wp2_with fail
  clear y0 y1 x0 x1 x2 x3 x4 x5 x6 hbz0 hbz1
  refine (sCheck _ _ _ p s (hP'.out _ hb0) (hV.out _ hb0)).mono ?_
  rintro e W1 ⟨rfl, h1⟩
  have hB1 := hb0.trans (h1.mono hb0.size)
  obtain ⟨⟨y0, y1⟩, x0, x1, x2, x3, x4, x5, x6, hbz0, hbz1⟩ := hK.out W1 (h1)
  by_cases hc : checkState p s = 0
  · have hc' := Lib.hid hc
    have hsn := Lib.hid (checkState_zero.1 hc).1
    rw [hc]
    clear hc
    have h4 := hsn.out.orders4
    by_cases ho4 : s.orders.length = 4
    · have hfin := Lib.hid (enter_many (l := l) hc'.out (.inl (by omega)))
      have ho4' : (s.orders.length : Int) = 4 := by omega
      clear ho4 h4
      have hbx9 := hR.out _ h1
      go_wp2_with (refine wpList_store_state rfl (.tmp 6) (.tmp 28) rfl rfl (w.heap.size + 1 + 1) nilSV nilSV hbx9 rfl rfl rfl (fun w9 hbox9 hg9 => ?_))
      obtain ⟨p0, p1, p2, p3, p4, p5, p6⟩ := BoxAt.cells hbox9
      have hfin9 : Below w.heap.size w w9 := Below.grown hB1 hg9 (Below.size hB1) (fun k hk => by injection hk with hk; omega)
      go_wp2_with fail
      exact bodyPost_ret (v := .tuple #[nilSV.val, .int .i64 2]) (by simp [results, Try.results36, go_sem, SV.val, p0, p1, p2, p3, p4, p5, p6]) rfl (actErr hfin.out hfin9)
    have hne4 : ((s.orders.length : Int) == 4) = false := by simp; omega
    by_cases hl1 : l.length < 1
    · have hfin := Lib.hid (enter_many (p := p) (s := s) hc'.out (.inr (.inl hl1)))
      clear ho4
      have hbx9 := hR.out _ h1
      go_wp2_with (refine wpList_store_state rfl (.tmp 6) (.tmp 28) rfl rfl (w.heap.size + 1 + 1) nilSV nilSV hbx9 rfl rfl rfl (fun w9 hbox9 hg9 => ?_))
      obtain ⟨p0, p1, p2, p3, p4, p5, p6⟩ := BoxAt.cells hbox9
      have hfin9 : Below w.heap.size w w9 := Below.grown hB1 hg9 (Below.size hB1) (fun k hk => by injection hk with hk; omega)
      go_wp2_with fail
      exact bodyPost_ret (v := .tuple #[nilSV.val, .int .i64 2]) (by simp [results, Try.results36, go_sem, SV.val, p0, p1, p2, p3, p4, p5, p6]) rfl (actErr hfin.out hfin9)
    by_cases hl3 : 3 < l.length
    · have hfin := Lib.hid (enter_many (p := p) (s := s) hc'.out (.inr (.inr hl3)))
      clear ho4
      have hbx9 := hR.out _ h1
      go_wp2_with (refine wpList_store_state rfl (.tmp 6) (.tmp 28) rfl rfl (w.heap.size + 1 + 1) nilSV nilSV hbx9 rfl rfl rfl (fun w9 hbox9 hg9 => ?_))
      obtain ⟨p0, p1, p2, p3, p4, p5, p6⟩ := BoxAt.cells hbox9
      have hfin9 : Below w.heap.size w w9 := Below.grown hB1 hg9 (Below.size hB1) (fun k hk => by injection hk with hk; omega)
      go_wp2_with fail
      exact bodyPost_ret (v := .tuple #[nilSV.val, .int .i64 2]) (by simp [results, Try.results36, go_sem, SV.val, p0, p1, p2, p3, p4, p5, p6]) rfl (actErr hfin.out hfin9)
    have ho : s.orders.length < 4 := by omega
    have hl13 : 1 ≤ l.length ∧ l.length ≤ 3 := by omega
    clear ho4
    go_wp2_with fail
    clear y0 y1 x0 x1 x2 x3 x4 x5 x6 hbz0 hbz1
    refine (containsFuncLine _ _ l 73 #[.pointer (some ⟨w.heap.size, 0, none⟩)] (badLine p) entersEBad (hL.out.grow hB1) (fun j _ W hW => by
      have hW2 := h1.trans (hW.mono h1.size)
      obtain ⟨⟨a0, a1⟩, _, _, _, _, _, _, _, _, a2⟩ := hK.out W hW2
      exact eBadLine p _ W w.heap.size hsn.out.plan Ab As cb cs a0 a1 a2 (hP'.out W (hb0.trans (hW2.mono hb0.size))))).mono ?_
    rintro e W2 ⟨rfl, h2⟩
    have h02 := h1.trans (h2.mono h1.size)
    have hB2 := hb0.trans (h02.mono hb0.size)
    obtain ⟨⟨y0, y1⟩, x0, x1, x2, x3, x4, x5, x6, hbz0, hbz1⟩ := hK.out W2 (h02)
    cases ha : l.any (badLine p)
    · have ha' := Lib.hid ha
      clear ha
      go_wp2_with fail
      clear y0 y1 x0 x1 x2 x3 x4 x5 x6 hbz0 hbz1
      refine (containsFuncLine _ _ l 74 #[] notNew entersENew (hL.out.grow hB2) (fun j _ W hW => eNotNew _ W)).mono ?_
      rintro e W3 ⟨rfl, h3⟩
      have h03 := h02.trans (h3.mono h02.size)
      have hB3 := hb0.trans (h03.mono hb0.size)
      obtain ⟨⟨y0, y1⟩, x0, x1, x2, x3, x4, x5, x6, hbz0, hbz1⟩ := hK.out W3 (h03)
      cases hn : l.any notNew
      · have hfin := Lib.hid (enter_ok hc'.out ho hl13 ha'.out hn)
        clear hn
        go_wp2_with fail
        clear y0 y1 x0 x1 x2 x3 x4 x5 x6 hbz0 hbz1
        refine (sOwn _ _ p s (hV.out _ hB3) hsn.out).mono ?_
        rintro e W5 ⟨_, rfl, ⟨V5, rfl, ho5⟩, h5⟩
        have hone6 := (ho5).one
        have hnb6 := newBox (W5)
        go_wp2_with (refine wpList_store_state rfl (.tmp 9) (.tmp 39) rfl rfl (World.heap (W5)).size nilSV V5 hnb6 rfl rfl hone6 (fun w6 hbox6 hg6 => ?_); refine Hid.out ?_)
        unfold Hid
        have hbb6 := newBelow hg6
        have hbl6 := hbox6.lt
        clear hone6 hnb6 hg6
        have hx6 := Lib.hid (Bx.of hbox6 (ho5.below hbb6))
        have h06 := h03.trans ((h5.trans (hbb6.mono h5.size)).mono h03.size)
        have hB6 := hb0.trans (h06.mono hb0.size)
        have hle3 : w.heap.size ≤ W3.heap.size := hB3.size
        have hle03 : W0.heap.size ≤ W3.heap.size := h03.size
        have hle5 : W3.heap.size ≤ W5.heap.size := h5.size
        have hle6 : W5.heap.size < w6.heap.size := hbl6
        clear hbox6 ho5 hbb6 h5 hbl6
        go_wp2_with fail
        refine wp_region_ops 6 [fun gq _ => gq 40 = .pointer (some ⟨W5.heap.size, 1, none⟩), fun gq _ => gq 41 = V5.orders, fun gq _ => gq 42 = .slice Al l.length cl, fun gq w' => (fun v w' => Own cLine 4 75 w' w6.heap.size v l) (gq 43) w', fun gq w' => (fun v w' => ∃ u, v = .agg #[.int .i64 0, u] ∧ Own cLine 4 75 w' w6.heap.size u l) (gq 44) w', fun gq w' => (fun v w' => ∃ bb u, v = .slice (some ⟨bb, 0, none⟩) 1 1 ∧ w'.cell? ⟨bb, 0, none⟩ = some (.int .i64 0) ∧ w'.cell? ⟨bb, 1, none⟩ = some u ∧ bb < w'.heap.size ∧ Own cLine 4 75 w' w6.heap.size u l) (gq 45) w'] (by kernel_rfl) (by kernel_rfl) rfl (by kernel_rfl) ?_ (fun f w2 hb2 hR => ?_)
        simp only [List.take_succ_cons, List.take_zero]
        refine OpsOK.cons (OpOK.val rfl rfl (fun gq w' hb ho hd => ?_)) ?_
        · have e9 := ho 9 rfl
          go_simp
        refine OpsOK.cons (OpOK.val rfl rfl (fun gq w' hb ho hd => ?_)) ?_
        · have e40 : gq 40 = .pointer (some ⟨W5.heap.size, 1, none⟩) := hd ⟨0, .data⟩ (by simp) rfl (by decide)
          have x1 := (hx6.out.below hb).cells.2.1
          go_simp
        refine OpsOK.cons (OpOK.val rfl rfl (fun gq w' hb ho hd => ?_)) ?_
        · have e2 := ho 2 rfl
          go_simp
        refine OpsOK.cons (OpOK.one (d := 43) (p := (fun v w' => Own cLine 4 75 w' w6.heap.size v l)) rfl rfl (fun v w1 w2 h hb => h.below hb) (fun gq w' hb ho hd => ?_)) ?_
        · have e42 : gq 42 = .slice Al l.length cl := hd ⟨2, .data⟩ (by simp) rfl (by decide)
          have hl' := hL.out.grow (hB6.trans (hb.mono hB6.size))
          unfold OpRel
          go_simp
          refine (cloneLine w' _ l hl' (by omega)).mono ?_
          rintro e w2 ⟨u, rfl, hu, hb2⟩
          exact ⟨u, rfl, hu.from_ hb.size, hb2⟩
        refine OpsOK.cons (OpOK.one (d := 44) (p := (fun v w' => ∃ u, v = .agg #[.int .i64 0, u] ∧ Own cLine 4 75 w' w6.heap.size u l)) rfl rfl (fun v w1 w2 h hb => let ⟨u, h1, h2⟩ := h; ⟨u, h1, h2.below hb⟩) (fun gq w' hb ho hd => ?_)) ?_
        · have e43 : Own cLine 4 75 w' w6.heap.size (gq 43) l := hd ⟨3, .data⟩ (by simp) rfl (by decide)
          obtain ⟨E, kc, s30⟩ := e43.isSlice
          rw [s30] at e43
          have e' := Lib.hid e43
          clear e43
          unfold OpRel
          go_simp
          exact ⟨e'.out, Below.refl _ _⟩
        refine OpsOK.cons (OpOK.one (d := 45) (p := (fun v w' => ∃ bb u, v = .slice (some ⟨bb, 0, none⟩) 1 1 ∧ w'.cell? ⟨bb, 0, none⟩ = some (.int .i64 0) ∧ w'.cell? ⟨bb, 1, none⟩ = some u ∧ bb < w'.heap.size ∧ Own cLine 4 75 w' w6.heap.size u l)) rfl rfl (fun v w1 w2 h hb => let ⟨bb, u, h1, h2, h2', h3, h4⟩ := h; ⟨bb, u, h1, (hb.cell (p := ⟨bb, 0, none⟩) h3).trans h2, (hb.cell (p := ⟨bb, 1, none⟩) h3).trans h2', Nat.lt_of_lt_of_le h3 hb.size, h4.below hb⟩) (fun gq w' hb ho hd => ?_)) ?_
        · have e44 : ∃ u, (gq 44) = .agg #[.int .i64 0, u] ∧ Own cLine 4 75 w' w6.heap.size u l := hd ⟨4, .data⟩ (by simp) rfl (by decide)
          obtain ⟨u, e44, hu⟩ := e44
          obtain ⟨E, kc, s30⟩ := hu.isSlice
          rw [s30] at e44 hu
          have e' := Lib.hid hu
          clear hu
          unfold OpRel
          go_simp
          exact ⟨e'.out.alloc _, (Below.refl _ _).alloc (Nat.le_refl _) _⟩
        exact OpsOK.nil
        obtain ⟨r40, r41, r42, r43, r44, r45, _⟩ := hR
        replace r43 : Own cLine 4 75 w2 w6.heap.size (f 43) l := r43
        replace r44 : ∃ u, (f 44) = .agg #[.int .i64 0, u] ∧ Own cLine 4 75 w2 w6.heap.size u l := r44
        replace r45 : ∃ bb u, (f 45) = .slice (some ⟨bb, 0, none⟩) 1 1 ∧ w2.cell? ⟨bb, 0, none⟩ = some (.int .i64 0) ∧ w2.cell? ⟨bb, 1, none⟩ = some u ∧ bb < w2.heap.size ∧ Own cLine 4 75 w2 w6.heap.size u l := r45
        simp only [fillA, fillT, List.take_succ_cons, List.take_zero, List.drop_succ_cons, List.drop_zero, List.filterMap_cons, List.filterMap_nil, List.foldl_cons, List.foldl_nil, List.setIfInBounds_toArray, List.set_cons_zero, List.set_cons_succ, r40, r41, r42]
        clear r40 r41 r42
        obtain ⟨bb, u, r4, d0, d1, l4, o4⟩ := r45
        simp only [r4]
        clear r4 r43 r44
        obtain ⟨E, kc, rfl⟩ := o4.isSlice
        have hx2 := hx6.out.below hb2
        have ho4 := ords_length hx2.own.llen
        refine wpList_push _ rfl (.tmp 41) (.tmp 45) 27 73 rfl W3.heap.size _ 2 32 Try.underlying27 infoOrder rfl (by decide) (by decide) V5.orders (ords s.orders V5.lines) (0, .slice E l.length kc) rfl hx2.own.orders ⟨bb, 0, none⟩ 1 rfl rfl (fun j x hj => by
          rw [Addr.add_lit, Nat.zero_add]
          match j, hj with
          | 0, hj => exact d0.trans hj
          | 1, hj => exact d1.trans hj
          | j + 2, hj => simp [cOrd] at hj) (oneOrd _ rfl) (by omega) (by have := hb2.size; omega) ?_
        intro v7 w7 hown7 hg7 hat7 hbel7
        obtain ⟨hk7, ho7⟩ := hx6.out.pushOrder hb2 (x := ⟨0, l⟩) (o4.from_ (by omega)) (fun g hg => (o4.size g hg).1) hg7 hown7
        obtain ⟨Av, cv, hv7⟩ := hown7.isSlice
        simp only [List.length_append, List.length_cons, List.length_nil, Nat.zero_add] at hv7
        have h07 := h06.trans ((hb2.mono h06.size).trans (hbel7.mono (by omega)))
        have hT7 := hx2.ty
        rw [hv7] at ho7
        rw [hv7]
        have ho7' := Lib.hid ho7
        have hk7' := Lib.hid hk7
        clear hown7 hg7 hat7 hv7 d0 d1 l4 o4 hx2 ho4 hk7 ho7
        go_wp2_with (refine wp_st_orders' rfl (.tmp 47) (.tmp 46) rfl rfl Av _ cv hk7'.out ho7'.out hT7 rfl rfl rfl (fun w8 hx8 hst8 => ?_); refine Hid.out ?_)
        unfold Hid
        have hle7 := h07.size
        have h08 := h07.trans (hst8.below (B := W0.heap.size) (fun k hk => by omega) hle7)
        have hB8 := hb0.trans (h08.mono hb0.size)
        obtain ⟨V8, hx8⟩ : ∃ V8, Bx w8 W3.heap.size W5.heap.size 31 [] V8 { s with orders := s.orders ++ [⟨0, l⟩] } := ⟨_, hx8⟩
        have hx8' := Lib.hid hx8
        clear ho7' hk7' hx8 hst8 hle7
        have hbx9 := hR.out _ h08
        obtain ⟨b0, b1, b2, b3, b4, b5, b6⟩ := BoxAt.cells hx8'.out.boxAt
        have hone9 := OwnSt.one hx8'.out.own
        go_wp2_with (refine wpList_store_state rfl (.tmp 6) (.tmp 48) rfl rfl (w.heap.size + 1 + 1) nilSV V8 hbx9 rfl rfl hone9 (fun w9 hbox9 hg9 => ?_))
        have hO9 := OwnSt.keptBy hx8'.out.own hg9 hbx9 (by decide) (by decide) (by decide) (by decide) (by decide) (by decide)
        obtain ⟨p0, p1, p2, p3, p4, p5, p6⟩ := BoxAt.cells hbox9
        have hfin9 : Below w.heap.size w w9 := Below.grown hB8 hg9 (Below.size hB8) (fun k hk => by injection hk with hk; omega)
        clear b0 b1 b2 b3 b4 b5 b6
        go_wp2_with fail
        exact bodyPost_ret (v := .tuple #[SV.val V8, .int .i64 0]) (by simp [results, Try.results36, go_sem, SV.val, p0, p1, p2, p3, p4, p5, p6]) rfl (actOk hfin.out (hO9.from_ hle3) hfin9)
      · have hfin := Lib.hid (enter_form hc'.out ho hl13 ha'.out hn)
        clear hn
        have hbx9 := hR.out _ h03
        go_wp2_with (refine wpList_store_state rfl (.tmp 6) (.tmp 37) rfl rfl (w.heap.size + 1 + 1) nilSV nilSV hbx9 rfl rfl rfl (fun w9 hbox9 hg9 => ?_))
        obtain ⟨p0, p1, p2, p3, p4, p5, p6⟩ := BoxAt.cells hbox9
        have hfin9 : Below w.heap.size w w9 := Below.grown hB3 hg9 (Below.size hB3) (fun k hk => by injection hk with hk; omega)
        go_wp2_with fail
        exact bodyPost_ret (v := .tuple #[nilSV.val, .int .i64 1]) (by simp [results, Try.results36, go_sem, SV.val, p0, p1, p2, p3, p4, p5, p6]) rfl (actErr hfin.out hfin9)
    · have hfin := Lib.hid (enter_range hc'.out ho hl13 ha)
      clear ha
      have hbx9 := hR.out _ h02
      go_wp2_with (refine wpList_store_state rfl (.tmp 6) (.tmp 33) rfl rfl (w.heap.size + 1 + 1) nilSV nilSV hbx9 rfl rfl rfl (fun w9 hbox9 hg9 => ?_))
      obtain ⟨p0, p1, p2, p3, p4, p5, p6⟩ := BoxAt.cells hbox9
      have hfin9 : Below w.heap.size w w9 := Below.grown hB2 hg9 (Below.size hB2) (fun k hk => by injection hk with hk; omega)
      go_wp2_with fail
      exact bodyPost_ret (v := .tuple #[nilSV.val, .int .i64 3]) (by simp [results, Try.results36, go_sem, SV.val, p0, p1, p2, p3, p4, p5, p6]) rfl (actErr hfin.out hfin9)
  · have hne : (checkState p s != 0) = true := by simpa using hc
    have hfin := Lib.hid (enter_bad (l := l) hc)
    clear hc
    have hbx9 := hR.out _ h1
    go_wp2_with (refine wpList_store_state rfl (.tmp 6) (.tmp 15) rfl rfl (w.heap.size + 1 + 1) nilSV nilSV hbx9 rfl rfl rfl (fun w9 hbox9 hg9 => ?_))
    obtain ⟨p0, p1, p2, p3, p4, p5, p6⟩ := BoxAt.cells hbox9
    have hfin9 : Below w.heap.size w w9 := Below.grown hB1 hg9 (Below.size hB1) (fun k hk => by injection hk with hk; omega)
    go_wp2_with fail
    exact bodyPost_ret (v := .tuple #[nilSV.val, .int .i64 (checkState p s)]) (by simp [results, Try.results36, go_sem, SV.val, p0, p1, p2, p3, p4, p5, p6]) rfl (actErr hfin.out hfin9)
end Wh
