/- Texts of the claim, joined: Box, MemS, BoxK, RegIn, PlainM, FillP. -/
import Derived.Laws.Tables
import Derived.Sort.QuietThIn
import Derived.OwnWalkIn
import Derived.RangeFuncCalls
import Derived.Test.YtbmklcloknpniaaQ11
import Derived.Test.YtbmklcloknpniaaQ04
import Derived.Test.YtbmklcloknpniaaQ03
import Derived.Test.YtbmklcloknpniaaQ08
namespace Wh
open Go Go.RowKit Go.Shelf Go.Proofs

/-- What a step leaves: every old block but those of 'ks'. -/
structure Step (ks : Nat → Prop) (w w' : World) : Prop where
  os : w'.os = w.os
  tape : w'.tape = w.tape
  output : w'.output = w.output
  size : w.heap.size ≤ w'.heap.size
  block : ∀ k, k < w.heap.size → ¬ ks k → w'.heap[k]? = w.heap[k]?
namespace Step
variable {ks ks' : Nat → Prop} {a b c w w' : World}
theorem refl (ks : Nat → Prop) (w : World) : Step ks w w := ⟨rfl, rfl, rfl, Nat.le_refl _, fun _ _ _ => rfl⟩
theorem trans' (h : Step ks a b) (h' : Step ks' b c) (hk : ∀ k, k < a.heap.size → ks' k → ks k) : Step ks a c :=
  ⟨h'.os.trans h.os, h'.tape.trans h.tape, h'.output.trans h.output, Nat.le_trans h.size h'.size, fun k hl hn => (h'.block k (Nat.lt_of_lt_of_le hl h.size) (fun hh => hn (hk k hl hh))).trans (h.block k hl hn)⟩
theorem trans (h : Step ks a b) (h' : Step ks b c) : Step ks a c := h.trans' h' fun _ _ h => h
theorem mono (h : Step ks w w') (hk : ∀ k, ks k → ks' k) : Step ks' w w' := ⟨h.os, h.tape, h.output, h.size, fun k hl hn => h.block k hl fun hh => hn (hk k hh)⟩
theorem of_grown {row : Option Nat} (h : w.grownBy w' row) (hk : ∀ k, row = some k → ks k) : Step ks w w' :=
  ⟨h.os, h.tape, h.output, h.size, fun k hl hn => h.block k hl (fun he => hn (hk k he.symm))⟩
theorem below {B : Nat} (h : Step ks w w') (hk : ∀ k, ks k → B ≤ k) (hB : B ≤ w.heap.size) : Below B w w' :=
  ⟨h.os, h.tape, h.output, h.size, fun k hl => h.block k (Nat.lt_of_lt_of_le hl hB) fun hh => Nat.not_le_of_lt hl (hk k hh)⟩
theorem blk {g : Nat} {e : TypeId} {cur : List Value} (h : Step ks w w') (hb : Blk w g e cur) (hn : ¬ ks g) : Blk w' g e cur := (h.block g hb.lt hn).trans hb
theorem heap {g : Nat} {o : Obj} (h : Step ks w w') (hb : w.heap[g]? = some o) (hn : ¬ ks g) : w'.heap[g]? = some o := (h.block g (Array.getElem?_eq_some_iff.1 hb).1 hn).trans hb
end Step
theorem Own.step {α : Type} {enc : α → List Value} {size : Nat} {e : TypeId} {w w' : World} {base : Nat} {v : Value} {l : List α} {ks : Nat → Prop} (h : Own enc size e w base v l) (hs : Step ks w w') (hk : ∀ k, v.ownBlock = some k → ¬ ks k) : Own enc size e w' base v l := by
  refine ⟨h.1, ?_⟩
  rcases h.2 with hn | ⟨g, cap, cur, rfl, hbg, hg, rest⟩
  · exact .inl hn
  · exact .inr ⟨g, cap, cur, rfl, hbg, by rw [hs.block g (Array.getElem?_eq_some_iff.1 hg).1 (hk g rfl)]; exact hg, rest⟩

/-- No element's type of a state. -/
structure BoxT (t : TypeId) : Prop where
  h1 : 23 ≠ t
  h2 : 3 ≠ t
  h3 : 58 ≠ t
  h4 : 70 ≠ t
  h5 : 65 ≠ t
  h6 : 42 ≠ t
theorem boxT : BoxT 31 := ⟨by decide, by decide, by decide, by decide, by decide, by decide⟩

/-- A state of the call's own that leads the block b, whose type is t; 'rest': the block's other cells. -/
structure Bx (w : World) (base b : Nat) (t : TypeId) (rest : List Value) (V : SV) (s : State) : Prop where
  box : Blk w b t (V.cells ++ rest)
  own : OwnSt w base V s
  ty : BoxT t
namespace Bx
variable {w w' : World} {base b : Nat} {t : TypeId} {rest : List Value} {V : SV} {s : State} {ks : Nat → Prop}
theorem of (h : BoxAt w b V) (ho : OwnSt w base V s) : Bx w base b 31 [] V s := ⟨by rw [List.append_nil]; exact h, ho, boxT⟩
theorem boxAt (h : Bx w base b 31 [] V s) : BoxAt w b V := by have := h.box; rwa [List.append_nil] at this
theorem lt (h : Bx w base b t rest V s) : b < w.heap.size := h.box.lt
theorem below (h : Bx w base b t rest V s) (hb : Below w.heap.size w w') : Bx w' base b t rest V s := ⟨h.box.below hb h.lt, h.own.below hb, h.ty⟩
theorem drew (h : Bx w base b t rest V s) : Bx w.drew base b t rest V s := ⟨h.box, h.own.drew, h.ty⟩
theorem from_ (h : Bx w base b t rest V s) {base' : Nat} (hb : base' ≤ base) : Bx w base' b t rest V s := ⟨h.box, h.own.from_ hb, h.ty⟩
theorem cells (h : Bx w base b t rest V s) : w.cell? ⟨b, 0, none⟩ = some V.on ∧ w.cell? ⟨b, 1, none⟩ = some V.orders ∧ w.cell? ⟨b, 2, none⟩ = some V.holds ∧ w.cell? ⟨b, 3, none⟩ = some V.moves ∧
    w.cell? ⟨b, 4, none⟩ = some V.inn ∧ w.cell? ⟨b, 5, none⟩ = some V.out ∧ w.cell? ⟨b, 6, none⟩ = some V.fixed :=
  ⟨h.box.cell rfl, h.box.cell rfl, h.box.cell rfl, h.box.cell rfl, h.box.cell rfl, h.box.cell rfl, h.box.cell rfl⟩
theorem frozen (h : Bx w base b t rest V s) (o : Nat) : w.frozen? ⟨b, o, none⟩ = false := h.box.frozen o
/-- A cell of the block is written, and the state is the other one then. -/
theorem set' {V' : SV} {s' : State} (hb : Blk w b t (V.cells ++ rest)) (ho : OwnSt w base V' s') (hT : BoxT t) (j : Nat) (u : Value) (hV : V'.cells ++ rest = (V.cells ++ rest).set j u) :
    Bx (w.setCell ⟨b, j, none⟩ u) base b t rest V' s' ∧ w.grownBy (w.setCell ⟨b, j, none⟩ u) (some b) := by
  obtain ⟨h1, h2⟩ := set_row hb j u
  exact ⟨⟨by rw [hV]; exact h1, ho.keptBy h2 hb hT.h1 hT.h2 hT.h3 hT.h4 hT.h5 hT.h6, hT⟩, h2⟩
/-- An order more: what append gave is stored. -/
theorem pushOrder {w1 w2 : World} (h : Bx w base b t rest V s) (hb : Below w.heap.size w w1) {u : Value} {x : Order} (hu : Own cLine 4 70 w1 base u x.lines) (hf : ∀ g, u.ownBlock = some g → w.heap.size ≤ g) (hg : w1.grownBy w2 V.orders.ownBlock)
    {v' : Value} (hv : Own cOrd 2 58 w2 base v' (ords s.orders V.lines ++ [(x.kind, u)])) :
    Blk w2 b t (V.cells ++ rest) ∧ OwnSt w2 base { V with orders := v', lines := V.lines ++ [u] } { s with orders := s.orders ++ [x] } := by
  have h1 := h.below hb
  exact ⟨h1.box.grown hg (fun he => by
    rcases h1.own.orders.notBox h1.box h1.ty.h3 with h | h
    · rw [h] at he; cases he
    · exact h he.symm), h.own.pushOrder hb hu hf hg hv⟩
/-- A store that leaves the box. -/
theorem off (h : Bx w base b t rest V s) {g : Nat} {e : TypeId} {cur : List Value} (hb : Blk w g e cur) (hne : e ≠ t) (hg : w.grownBy w' (some g)) : Blk w' b t (V.cells ++ rest) :=
  h.box.grown hg (by intro he; injection he with he; exact hb.ne h.box hne he.symm)
end Bx

section
variable {ops : Array Oper} {rest : List Oper} {o : Oper} {a : Act} {w : World} {Q : Exit → Act → World → Prop} {base b : Nat} {t : TypeId} {cs : List Value} {V : SV} {s : State}
/-- A slice stored into the box; the state is the other one then. -/
theorem wp_st_moves' (hgd : o.guard = none) (x y : Operand) (ho : o.op = .store 29 x y) (hn : o.dst = none) (A : Option Addr) (n c : Nat) {V' : SV} {s' : State} (hk : Blk w b t (V.cells ++ cs)) (hO : OwnSt w base V' s') (hT : BoxT t) (hV : V'.cells ++ cs = (V.cells ++ cs).set 3 (.slice A n c))
    (hx : a.eval x = .pointer (some ⟨b, 3, none⟩)) (hy : a.eval y = .slice A n c) (h : ∀ w', Bx w' base b t cs V' s' → Step (· = b) w w' → wpList Try.prog ops Q rest a w') : wpList Try.prog ops Q (o :: rest) a w :=
  wpList_plain hgd fun K hK => by
    obtain ⟨h1, h2⟩ := Bx.set' hk hO hT 3 (.slice A n c) hV
    have h3 := h _ h1 (.of_grown h2 fun k hk => by injection hk with hk; exact hk.symm)
    have hc : w.cell? ⟨b, 3, none⟩ = some V.moves := hk.cell rfl
    have hf := hk.frozen 3
    clear h hk hO h1 h2 hV
    unfold Oper.wp
    simp only [execOp, ho, hx, hy]
    go_simp
    exact hK _ _ h3
end
end Wh
namespace Wh
open Go Go.RowKit

section
variable {P : Program}
theorem run_storeVar_blk (w : World) (g o : Nat) (e ty : TypeId) (cur cs : List Value) (hg : Blk w g e cur) (hfit : o + cs.length ≤ cur.length) (hi : (P.info? ty).map (·.size) = some cs.length) (h1 : ∀ v ∈ cs, v.oneCell' = true) :
    (storeVar ty ⟨g, o, none⟩ (.agg cs.toArray)).run P w = .ok () (w.setRow g (spl cur o cs).toArray) := by
  have := run_storeCells_at P g o e cs 0 cur.toArray w hg (by simpa using hfit) h1
  cases hq : P.info? ty with
  | none => simp [hq] at hi
  | some i =>
    have hs : i.size = cs.length := by simpa [hq] using hi
    simp only [Nat.add_zero] at this
    simp [storeVar, Go.sizeOf, typeInfo, hq, Value.cells, hs, this, spl]
theorem flat_put {α : Type} (enc : α → List Value) (k : Nat) (hk : ∀ x, (enc x).length = k) {l : List α} {i : Nat} (hi : i < l.length) (y : α) {cur : List Value} (hc : l.length * k ≤ cur.length) (ht : cur.take (l.length * k) = l.flatMap enc) :
    (spl cur (i * k) (enc y)).take (l.length * k) = (l.set i y).flatMap enc := by
  have h1 : (i + 1) * k ≤ l.length * k := Nat.mul_le_mul_right _ (by omega)
  have h2 : i * k + k = (i + 1) * k := by rw [Nat.add_mul]; omega
  have e1 : l.set i y = l.take i ++ [y] ++ l.drop (i + 1) := by
    rw [List.set_eq_take_append_cons_drop, if_pos hi, List.append_assoc]
    rfl
  rw [e1, List.flatMap_append, List.flatMap_append, List.flatMap_singleton, ← flat_take enc k hk, ← flat_drop enc k hk, ← ht]
  have e2 : (cur.take (i * k) ++ enc y).length = (i + 1) * k := by rw [List.length_append, List.length_take, hk, Nat.min_eq_left (by omega), h2]
  unfold spl
  rw [hk, h2, List.take_append, List.take_of_length_le (by rw [e2]; exact h1), e2, List.take_take, Nat.min_eq_left (by omega), List.drop_take]
theorem Own.put {α : Type} {enc : α → List Value} {size : Nat} {e : TypeId} {w : World} {base g n c : Nat} {l : List α} (h : Own enc size e w base (.slice (some ⟨g, 0, none⟩) n c) l) (hk : ∀ x, (enc x).length = size) {i : Nat} (hi : i < l.length) (y : α)
    {ty : TypeId} (hty : (P.info? ty).map (·.size) = some size) (h1 : ∀ v ∈ enc y, v.oneCell' = true) :
    ∃ w', (storeVar ty ⟨g, i * size, none⟩ (.agg (enc y).toArray)).run P w = .ok () w' ∧ Own enc size e w' base (.slice (some ⟨g, 0, none⟩) n c) (l.set i y) ∧ w.grownBy w' (some g) := by
  obtain ⟨g', cap, cur, e1, hb, hg, h2, h3, h4, h5⟩ := h.row (by omega)
  injection e1 with e1 e2 e3
  injection e1 with e1
  injection e1 with e1
  subst e1 e2 e3
  have hle : l.length * size ≤ cur.length := by rw [h4]; exact Nat.mul_le_mul_right _ h2
  have hfit : i * size + (enc y).length ≤ cur.length := by
    rw [hk]
    have : (i + 1) * size ≤ l.length * size := Nat.mul_le_mul_right _ (by omega)
    rw [Nat.add_mul] at this
    omega
  refine ⟨_, run_storeVar_blk w g (i * size) e ty cur (enc y) hg hfit (by rw [hk]; exact hty) h1, ?_, grown_row w g _⟩
  have := Own.of_row (l := l.set i y) hk hb (hg.row (spl cur (i * size) (enc y))) (by rw [List.length_set]; exact h2) h3 (by rw [spl_length hfit]; exact h4) (by rw [List.length_set]; exact flat_put enc size hk hi y hle h5)
  rwa [List.length_set] at this
end
end Wh
namespace Wh
open Go Go.RowKit Go.Proofs

namespace OwnSt
variable {w w' : World} {base : Nat} {V : SV} {s : State}
/-- The moves' block was written. -/
theorem wroteMoves (h : OwnSt w base V s) (hg : w.grownBy w' V.moves.ownBlock) {v : Value} {l : List Move} (hv : Own cMove 4 42 w' base v l) : OwnSt w' base { V with moves := v } { s with moves := l } := h.newMoves hg hv
end OwnSt

section
variable {ops : Array Oper} {rest : List Oper} {o : Oper} {a : Act} {w : World} {Q : Exit → Act → World → Prop} {base b : Nat} {t : TypeId} {cs : List Value} {V : SV} {s : State}
/-- A number of a shelf. -/
theorem wp_st_on (hgd : o.guard = none) (x z : Operand) (ho : o.op = .store 3 x z) (hn : o.dst = none) {i g gr n c : Nat} {q : Int} (hB : Bx w base b t cs V s) (hi : i < s.on.length) (hg : g < (rowAt s.on i).length)
    (hv : V.row i = .slice (some ⟨gr, 0, none⟩) n c) (hx : a.eval x = .pointer (some ⟨gr, g, none⟩)) (hz : a.eval z = .int .i64 q)
    (h : ∀ w', Bx w' base b t cs V { s with on := setCell s.on i g q } → Step (· = gr) w w' → wpList Try.prog ops Q rest a w') : wpList Try.prog ops Q (o :: rest) a w :=
  wpList_plain hgd fun K hK => by
    obtain ⟨_, _, _, g', c', cur, _, _, _, _, e1, _, e3, f0⟩ := hB.own.onAt hi hg
    rw [hv] at e1
    injection e1 with e1
    injection e1 with e1
    injection e1 with e1
    subst e1
    obtain ⟨h1, h2⟩ := hB.own.setOn hi hg hv q
    have h3 := h _ ⟨hB.off e3 hB.ty.h2 h2, h1, hB.ty⟩ (.of_grown h2 fun k hk => by injection hk with hk; exact hk.symm)
    have hf := e3.frozen g
    clear h hB h1 h2 e3
    unfold Oper.wp
    simp only [execOp, ho, hx, hz]
    go_simp
    exact hK _ _ h3
end
end Wh
namespace Wh
open Go Go.RowKit Go.Shelf Go.Proofs

section
variable {P : Program} {ops : Array Oper} {md : Region.Mode} {C : World → Prop} {l₀ n : Nat}
def noDefer (ops : Array Oper) : Bool := ops.all fun o => match o.op with | .defer _ => false | _ => true
theorem noDefer_at {ops : Array Oper} (h : noDefer ops = true) {i : Nat} {o : Oper} (hi : ops[i]? = some o) (c : Call) : o.op ≠ .defer c := fun e => by
  unfold noDefer at h
  rw [Array.all_eq_true] at h
  obtain ⟨hl, rfl⟩ := Array.getElem?_eq_some_iff.1 hi
  have := h i hl
  rw [e] at this
  cases this
theorem wpIn_of_quietR {o : Oper} {a : Act} {K : Act → Prop} {K' : Act → World → Prop} {Q' : Exit → Act → World → Prop} {w : World} (hnd : ∀ c, o.op ≠ .defer c) (hw : C w) (h : ∀ a w', C w' → K a → K' a w')
    (hh : o.quiet P a C K) : o.wpIn (Fence.wide.inRound l₀) n P a w K' Q' := by
  obtain ⟨v, h1, h2⟩ := hh
  have h3 := h1 w hw
  unfold Oper.quietAt at h3
  unfold Oper.wpIn
  refine ⟨fun _ _ => trivial, ?_⟩
  rw [Oper.semAt_plain _ _ _ hnd]
  generalize (execOp a.eval o).run P w = r at *
  cases r with
  | ok x w' =>
    cases x <;> simp only [Oper.quietUpon] at h3 <;> simp only [Oper.uponIn]
    case value u =>
      obtain ⟨e1, e2⟩ := h3
      rw [e1, e2]
      exact h _ _ hw h2
    case skip =>
      obtain ⟨e1, e2⟩ := h3
      rw [e1, ← e2]
      exact h _ _ hw h2
    case enter f args =>
      obtain ⟨e1, hc⟩ := h3
      rw [e1]
      exact ⟨fun hd => (by cases hd), CallsIn.inRound l₀ (callsIn_wide.2 (hc.mono fun e w'' hh => by
        obtain ⟨he, hw''⟩ := hh
        subst he
        exact h _ _ hw'' h2))⟩
  | halt x w' => simp only [Oper.quietUpon] at h3
theorem wpOpIn_of_qOpR {i : Nat} {a : Act} {K : Act → Prop} {K' : Act → World → Prop} {Q' : Exit → Act → World → Prop} {w : World} (hnd : noDefer ops = true) (hC : C w) (h : ∀ a w', C w' → K a → K' a w')
    (hh : qOp P ops C i K a) : wpOpIn (Fence.wide.inRound l₀) n P ops Q' i K' a w := by
  unfold qOp at hh
  unfold wpOpIn
  split
  · rename_i ho; simp only [ho] at hh; exact h _ _ hC hh
  · rename_i o ho
    simp only [ho] at hh
    split
    · rename_i hw; simp only [hw, if_true] at hh; exact wpIn_of_quietR (noDefer_at hnd ho) hC h hh
    · rename_i hw; simp only [hw] at hh; exact ⟨fun _ _ => trivial, h _ _ hC hh⟩
theorem wpAnyIn_of_quietR {Q : Act → Prop} {Q' : Exit → Act → World → Prop} (hnd : noDefer ops = true) (hQ : ∀ a w, C w → Q a → Q' .normal a w) : ∀ (fuel : Nat) (listed : Array Bool) (a : Act) (w : World), C w →
    wpAnyQ P md ops C Q fuel listed a → wpAnyIn (Fence.wide.inRound l₀) n P md ops Q' fuel listed a w
  | 0, _, _, _, hw, h => ⟨h.1, hQ _ _ hw h.2⟩
  | fuel + 1, _, _, _, hw, h => ⟨fun h0 => hQ _ _ hw (h.1 h0), fun i hi => wpOpIn_of_qOpR hnd hw (fun a' w' hw' => wpAnyIn_of_quietR hnd hQ fuel _ a' w' hw') (h.2 i hi)⟩
theorem wpIn_region_quietR {id : Nat} {Q : Exit → Act → World → Prop} {a : Act} {w : World} (hnd : noDefer ops = true) (hm : P.follows .mixedOrders = true) (hB : Region.lexB .any ops = true) (hC : C { w with drawn := w.drawn + 1 })
    (h : wpQuiet P ops C (fun a' => ∀ w', C w' → Q .normal a' w') ops.toList a) : (Code.region id ops true).wpIn (Fence.wide.inRound l₀) n P Q a w := by
  simp only [Region.lexB, Bool.and_eq_true] at hB
  refine wpIn_region_any hm (wpAnyIn_of_quietR (Q := fun a' => ∀ w', C w' → Q .normal a' w') hnd (fun _ w' hw' h => h w' hw') _ _ _ _ hC ?_)
  have := wpAnyQ_lex (C := C) (md := .any) hB.1 ops.toList 0 (Array.replicate ops.size false) a (by simp) (by simpa using hB.2) h
  simpa using this
theorem wpIn_region_wld {id : Nat} {Q : Exit → Act → World → Prop} {a : Act} {w : World} {l : List Oper} (hnd : noDefer l.toArray = true) (hm : P.follows .mixedOrders = true) (hB : Region.lexB .any l.toArray = true)
    (h : wpQuiet P l.toArray (fun w' => ∃ p : GB, w' = wld w p.d p.os) (fun a' => ∀ w', (∃ p : GB, w' = wld w p.d p.os) → Q .normal a' w') l a) : (Code.region id l.toArray true).wpIn (Fence.wide.inRound l₀) n P Q a w :=
  wpIn_region_quietR (C := fun w' => ∃ p : GB, w' = wld w p.d p.os) hnd hm hB ⟨⟨w.drawn + 1, #[]⟩, by simp [wld]⟩ (by simpa using h)
end

/-- The moves' slice stored into the state's box, in a round. -/
theorem wpIn_st_moves {ops : Array Oper} {rest : List Oper} {o : Oper} {a : Act} {w : World} {Q : Exit → Act → World → Prop} {base b l₀ n0 : Nat} {t : TypeId} {cs : List Value} {V : SV}
    (hgd : o.guard = none) (x y : Operand) (ho : o.op = .store 29 x y) (hn : o.dst = none) (A : Option Addr) (n c : Nat) {V' : SV} {s' : State} (hk : Blk w b t (V.cells ++ cs)) (hO : OwnSt w base V' s') (hT : BoxT t) (hV : V'.cells ++ cs = (V.cells ++ cs).set 3 (.slice A n c))
    (hx : a.eval x = .pointer (some ⟨b, 3, none⟩)) (hy : a.eval y = .slice A n c) (h : ∀ w', Bx w' base b t cs V' s' → Step (· = b) w w' → wpListIn (Fence.wide.inRound l₀) n0 Try.prog ops Q rest a w') : wpListIn (Fence.wide.inRound l₀) n0 Try.prog ops Q (o :: rest) a w :=
  wpListIn_plain hgd fun K hK => by
    obtain ⟨h1, h2⟩ := Bx.set' hk hO hT 3 (.slice A n c) hV
    have h3 := h _ h1 (.of_grown h2 fun k hk => by injection hk with hk; exact hk.symm)
    have hc : w.cell? ⟨b, 3, none⟩ = some V.moves := hk.cell rfl
    have hf := hk.frozen 3
    clear h hk hO h1 h2 hV
    unfold Oper.wpIn
    refine ⟨fun _ _ => trivial, ?_⟩
    rw [Oper.semAt_plain _ _ _ (fun c => by rw [ho]; intro e; cases e)]
    simp only [execOp, ho, hx, hy]
    go_simp
    rw [hn] at *
    exact hK _ _ h3
end Wh
namespace Wh

theorem foldl_inv {α β : Type} {P : β → Prop} {f : β → α → β} : ∀ {l : List α} {t : β}, (∀ t x, x ∈ l → P t → P (f t x)) → P t → P (l.foldl f t)
  | [], _, _, h => h
  | x :: l, _, hs, h => foldl_inv (l := l) (fun t y hy => hs t y (List.mem_cons_of_mem _ hy)) (hs _ x (List.mem_cons_self ..) h)

/-- t is s with moves more. -/
structure Filled (p : Plan) (s t : State) : Prop where
  right : Right p t
  got : ∀ o, o < t.orders.length → ¬ ((t.order o).kind = 1 ∧ allGot (t.order o) = true)
  rest : t = { s with moves := t.moves }
  ext : ∃ l, t.moves = s.moves ++ l ∧ ∀ x ∈ l, ((0 ≤ x.src ∧ x.src < p.bins.length) ∧ (0 ≤ x.dst ∧ x.dst < p.bins.length) ∧ (0 ≤ x.good ∧ x.good < p.sizes.length)) ∧ (p.bin x.src.toNat).front = false ∧ (p.bin x.dst.toNat).front = true ∧
    cell s.on x.dst.toNat x.good.toNat + coming t x.dst x.good ≤ (p.bin x.dst.toNat).high
  less : ∀ b : Nat, b < p.bins.length → free p t b ≤ free p s b ∧ (free p t b < free p s b → 0 ≤ free p t b)

section
variable {p : Plan} {s t : State} {b g f : Nat} {n : Int}
theorem goingOf_push (l : List Move) (x : Move) (b g : Int) : goingOf (l ++ [x]) b g = goingOf l b g + fromN b g x := by
  unfold goingOf
  rw [List.map_append, List.sum_append]
  simp
theorem comingOf_push (l : List Move) (x : Move) (b g : Int) : comingOf (l ++ [x]) b g = comingOf l b g + toN b g x := by
  unfold comingOf
  rw [List.map_append, List.sum_append]
  simp
/-- One more move. -/
def addMove (t : State) (x : Move) : State := { t with moves := t.moves ++ [x] }
theorem addMove_bound (x : Move) (b g : Int) : bound (addMove t x) b g = bound t b g + fromN b g x := by
  unfold bound
  have e : heldIn (addMove t x) b g = heldIn t b g := rfl
  have e2 : goingOf (addMove t x).moves b g = goingOf t.moves b g + fromN b g x := goingOf_push _ _ _ _
  rw [e, e2]
  omega
theorem addMove_coming (x : Move) (b g : Int) : coming (addMove t x) b g = coming t b g + toN b g x := comingOf_push _ _ _ _
theorem addMove_free (b' : Nat) (hg : g < p.sizes.length) : free p (addMove t ⟨g, f, b, n⟩) b' = free p t b' - if b' = b then n * intAt p.sizes g else 0 := by
  unfold free
  by_cases h : b' = b
  · subst h
    rw [if_pos rfl]
    have := sumTo_one (f := fun g => (cell t.on (b' : Int).toNat g + coming t b' g) * intAt p.sizes g) (g := fun g' => (cell (addMove t ⟨g, f, b', n⟩).on (b' : Int).toNat g' + coming (addMove t ⟨g, f, b', n⟩) b' g') * intAt p.sizes g') (n := p.sizes.length) (i := g) (d := n * intAt p.sizes g) hg (fun k hk hne => by
      have e : coming (addMove t ⟨g, f, b', n⟩) b' k = coming t b' k := by
        rw [addMove_coming]
        unfold toN
        rw [if_neg (by simp only; omega), Int.add_zero]
      simp only [e]
      rfl) (by
      have e : coming (addMove t ⟨g, f, b', n⟩) b' g = coming t b' g + n := by
        rw [addMove_coming]
        unfold toN
        rw [if_pos ⟨rfl, rfl⟩]
      simp only [e]
      have e1 : (addMove t ⟨g, f, b', n⟩).on = t.on := rfl
      rw [e1, ← Int.add_mul]
      congr 1
      omega)
    rw [this]
    omega
  · rw [if_neg h, Int.sub_zero]
    congr 1
    refine sumTo_congr fun k hk => ?_
    have e : coming (addMove t ⟨g, f, b, n⟩) b' k = coming t b' k := by
      rw [addMove_coming]
      unfold toN
      rw [if_neg (by simp only; omega), Int.add_zero]
    rw [e]
    rfl
theorem fill_room {r z n : Int} (hz : 1 ≤ z) (hn : 1 ≤ n) (h : n ≤ r.tdiv z) : n * z ≤ r := by
  have h0 : 0 < r := by
    refine Classical.byContradiction fun hr => ?_
    have h1 : (-r).tdiv z = -(r.tdiv z) := Int.neg_tdiv ..
    have h2 : 0 ≤ (-r).tdiv z := Int.tdiv_nonneg (by omega) (by omega)
    omega
  have h1 : z * r.tdiv z + r.tmod z = r := Int.mul_tdiv_add_tmod r z
  have h2 : 0 ≤ r.tmod z := Int.tmod_nonneg _ (by omega)
  have h3 : n * z ≤ r.tdiv z * z := Int.mul_le_mul_of_nonneg_right h (by omega)
  have h4 : r.tdiv z * z = z * r.tdiv z := Int.mul_comm _ _
  omega
theorem filled_move (h : Filled p s t) (hb : b < p.bins.length) (hg : g < p.sizes.length) (hf : f < p.bins.length) (hbf : (p.bin b).front = true) (hff : (p.bin f).front = false) (h8 : t.moves.length < 8) (hn : 0 < n)
    (h1 : n ≤ (p.bin b).high - cell t.on b g - coming t b g) (h2 : n ≤ avail t f g) (h3 : n * intAt p.sizes g ≤ free p t b) : Filled p s (addMove t ⟨g, f, b, n⟩) := by
  have hr := h.right
  have hs := hr.sane
  have hfb : f ≠ b := fun e => by rw [e, hbf] at hff; cases hff
  have hav := hr.avail_range hf hg
  have hcl := hs.cell hf hg
  have hon : t.on = s.on := by rw [h.rest]
  refine ⟨Right.of (Sane.of hs.shelf hs.orders4 ?_ (fun o ho => ⟨hs.lines3 ho, hs.kind ho⟩) (fun o k ho hk => lineOk_iff.2 (hs.line ho hk)) hs.holds (fun x hx => List.all_eq_true.1 (formed_iff.1 hs.form).2.2.1 x hx) (fun x hx => ?_)
    (formed_iff.1 hs.form).2.2.2.2.1 (formed_iff.1 hs.form).2.2.2.2.2.1 (formed_iff.1 hs.form).2.2.2.2.2.2) (fun g' hg' => hr.sum hg') (fun b' g' hb' hg' => ?_) (fun o k ho hk => hr.line o k ho hk), h.got, ?_, ?_, fun b' hb' => ?_⟩
  · show (t.moves ++ [_]).length ≤ 8
    simp
    omega
  · rcases List.mem_append.1 hx with hx | hx
    · exact List.all_eq_true.1 (formed_iff.1 hs.form).2.2.2.1 x hx
    · obtain rfl := List.mem_singleton.1 hx
      exact moveOk_iff.2 ⟨by simp only; omega, by simp only; omega, by simp only; omega, by simp only; omega, by simp only; omega, by simp only; omega⟩
  · have hq := hr.bnd hb' hg'
    rw [addMove_bound]
    have e1 : (addMove t ⟨g, f, b, n⟩).on = t.on := rfl
    rw [e1]
    unfold fromN
    simp only
    split
    · rename_i hc
      obtain ⟨c1, c2⟩ := hc
      obtain rfl : f = b' := by omega
      obtain rfl : g = g' := by omega
      unfold avail at h2
      simp only [Int.toNat_natCast] at h2
      omega
    · omega
  · have := h.rest
    unfold addMove
    simp only
    rw [this]
  · obtain ⟨l, hl, hx⟩ := h.ext
    refine ⟨l ++ [⟨g, f, b, n⟩], ?_, fun x hxm => ?_⟩
    · show t.moves ++ [_] = _
      rw [hl, List.append_assoc]
    · rw [addMove_coming]
      unfold toN
      simp only
      rcases List.mem_append.1 hxm with hxm | hxm
      · obtain ⟨x1, x2, x3, x4⟩ := hx x hxm
        refine ⟨x1, x2, x3, ?_⟩
        split
        · rename_i hc
          obtain ⟨c1, c2⟩ := hc
          rw [← c1, ← c2]
          simp only [Int.toNat_natCast]
          rw [← hon]
          omega
        · omega
      · obtain rfl := List.mem_singleton.1 hxm
        refine ⟨⟨by simp only; omega, by simp only; omega, by simp only; omega⟩, by simpa using hff, by simpa using hbf, ?_⟩
        rw [if_pos ⟨rfl, rfl⟩]
        simp only [Int.toNat_natCast]
        rw [← hon]
        omega
  · obtain ⟨l1, l2⟩ := h.less b' hb'
    rw [addMove_free b' hg]
    have hsz := right_size hs.plan hg
    have hpos : 0 ≤ n * intAt p.sizes g := Int.mul_nonneg (by omega) (by omega)
    by_cases e : b' = b
    · subst e
      rw [if_pos rfl]
      omega
    · rw [if_neg e]
      omega
theorem filled_one (h : Filled p s t) (hb : b < p.bins.length) (hg : g < p.sizes.length) (hf : f < p.bins.length) (hbf : (p.bin b).front = true) (hff : (p.bin f).front = false) : Filled p s (fill1 p t b g f) := by
  unfold fill1
  split
  · exact h
  · split
    · rename_i h8 hn
      have hsz := right_size h.right.sane.plan hg
      have hN : fillN p t b g f ≤ (p.bin b).high - cell t.on b g - coming t b g ∧ fillN p t b g f ≤ avail t f g ∧ fillN p t b g f ≤ (free p t b).tdiv (intAt p.sizes g) := by
        unfold fillN
        omega
      exact filled_move h hb hg hf hbf hff (by omega) hn hN.1 hN.2.1 (fill_room hsz.1 (by omega) hN.2.2)
    · exact h
theorem filled_good (h : Filled p s t) (hb : b < p.bins.length) (hg : g < p.sizes.length) (hbf : (p.bin b).front = true) : Filled p s (fillGood p b t g) := by
  unfold fillGood
  split
  · exact foldl_inv (P := Filled p s) (fun _ _ hf h => filled_one h hb hg (mem_kinds.1 hf).1 hbf (mem_kinds.1 hf).2) h
  · exact h
theorem filled_bin (h : Filled p s t) (hb : b < p.bins.length) (hbf : (p.bin b).front = true) : Filled p s ((List.range p.sizes.length).foldl (fillGood p b) t) :=
  foldl_inv (P := Filled p s) (fun _ _ hg h => filled_good h hb (List.mem_range.1 hg) hbf) h
theorem filled_self (h : checkState p s = 0) : Filled p s s := by
  obtain ⟨h1, h2⟩ := check_iff.1 h
  exact ⟨h1, h2, rfl, ⟨[], by simp, fun x hx => by simp at hx⟩, fun b hb => ⟨Int.le_refl _, fun hh => absurd hh (by omega)⟩⟩
theorem fillS_filled (h : checkState p s = 0) : Filled p s (fillS p s) :=
  foldl_inv (P := Filled p s) (fun _ _ hb h => filled_bin h (mem_kinds.1 hb).1 (mem_kinds.1 hb).2) (filled_self h)
theorem filled_check (h : Filled p s t) : checkState p t = 0 := check_iff.2 ⟨h.right, h.got⟩
theorem filled_full {t : State} (h : 8 ≤ t.moves.length) (p : Plan) (b g f : Nat) : fill1 p t b g f = t := by unfold fill1; rw [if_pos h]
theorem fillGood_full (h : 8 ≤ t.moves.length) (p : Plan) (b g : Nat) : fillGood p b t g = t := by
  unfold fillGood
  split
  · exact foldl_inv (P := fun u => u = t) (fun u f _ hu => by rw [hu]; exact filled_full h p b g f) rfl
  · rfl
theorem fillBin_full (h : 8 ≤ t.moves.length) (p : Plan) (b : Nat) (l : List Nat) : l.foldl (fillGood p b) t = t :=
  foldl_inv (P := fun u => u = t) (fun u g _ hu => by rw [hu]; exact fillGood_full h p b g) rfl
theorem fillBins_full (h : 8 ≤ t.moves.length) (p : Plan) (l : List Nat) : l.foldl (fun t b => (List.range p.sizes.length).foldl (fillGood p b) t) t = t :=
  foldl_inv (P := fun u => u = t) (fun u b _ hu => by rw [hu]; exact fillBin_full h p b _) rfl
end

-- a move that is done
section
variable {p : Plan} {s : State} {k : Nat} {n : Int}
theorem sum_erase {α : Type} (f : α → Int) : ∀ {l : List α} {k : Nat} (hk : k < l.length), ((l.eraseIdx k).map f).sum = (l.map f).sum - f l[k]
  | x :: l, 0, _ => by simp; omega
  | x :: l, k + 1, hk => by
    have := sum_erase f (l := l) (k := k) (by simpa using hk)
    simp only [List.eraseIdx_cons_succ, List.map_cons, List.sum_cons, List.getElem_cons_succ]
    omega
structure Moves (p : Plan) (s : State) (k : Nat) (n : Int) : Prop where
  hk : k < s.moves.length
  n0 : 0 ≤ n
  n1 : n ≤ (moveAt s.moves k).n
  full : cell s.on (moveAt s.moves k).dst.toNat (moveAt s.moves k).good.toNat + n ≤ 200
theorem goingOf_mem (hs : Sane p s) (hk : k < s.moves.length) : (moveAt s.moves k).n ≤ goingOf s.moves (moveAt s.moves k).src (moveAt s.moves k).good := by
  have h1 := sum_erase (fromN (moveAt s.moves k).src (moveAt s.moves k).good) hk
  have h2 : 0 ≤ ((s.moves.eraseIdx k).map (fromN (moveAt s.moves k).src (moveAt s.moves k).good)).sum := (list_sum_range (m := 200) (fun x hx => by
    obtain ⟨y, hy, rfl⟩ := List.mem_map.1 hx
    obtain ⟨i, hi, rfl⟩ := List.getElem_of_mem (List.mem_of_mem_eraseIdx hy)
    have := hs.moveAt hi
    rw [Wh.moveAt_eq hi] at this
    unfold fromN
    split <;> omega)).1
  have h3 : fromN (moveAt s.moves k).src (moveAt s.moves k).good s.moves[k] = (moveAt s.moves k).n := by
    rw [moveAt_eq hk]
    unfold fromN
    rw [if_pos ⟨rfl, rfl⟩]
  unfold goingOf
  omega
theorem moved_cell (hc : checkState p s = 0) (f : Moves p s k n) {b g : Nat} (hb : b < p.bins.length) (hg : g < p.sizes.length) : cell (movedS s k n).on b g = cell s.on b g + if (g : Int) = (moveAt s.moves k).good ∧ (b : Int) = (moveAt s.moves k).dst then n else if (g : Int) = (moveAt s.moves k).good ∧ (b : Int) = (moveAt s.moves k).src then -n else 0 := by
  have hs := (right_of_check hc).sane
  obtain ⟨m1, m2, m3, m4, m5, m6⟩ := hs.moveAt f.hk
  have h1 : (moveAt s.moves k).src.toNat < s.on.length := by rw [hs.onLen]; omega
  have h2 : (moveAt s.moves k).good.toNat < (rowAt s.on (moveAt s.moves k).src.toNat).length := by rw [hs.rowLen (by omega)]; omega
  have h3 : (moveAt s.moves k).dst.toNat < (setCell s.on (moveAt s.moves k).src.toNat (moveAt s.moves k).good.toNat (cell s.on (moveAt s.moves k).src.toNat (moveAt s.moves k).good.toNat - n)).length := by rw [length_setCell, hs.onLen]; omega
  have h4 : (moveAt s.moves k).good.toNat < (rowAt (setCell s.on (moveAt s.moves k).src.toNat (moveAt s.moves k).good.toNat (cell s.on (moveAt s.moves k).src.toNat (moveAt s.moves k).good.toNat - n)) (moveAt s.moves k).dst.toNat).length := by
    rw [rowlen_setCell, hs.rowLen (by omega)]; omega
  have e : cell (movedS s k n).on b g = _ := cell_setCell h3 h4
  rw [e, cell_setCell h1 h2, cell_setCell h1 h2]
  by_cases c1 : (g : Int) = (moveAt s.moves k).good ∧ (b : Int) = (moveAt s.moves k).dst
  · rw [if_pos (by omega), if_neg (by omega), if_pos c1]
    obtain ⟨rfl, rfl⟩ : b = (moveAt s.moves k).dst.toNat ∧ g = (moveAt s.moves k).good.toNat := by omega
    rfl
  · rw [if_neg (by omega), if_neg c1]
    by_cases c2 : (g : Int) = (moveAt s.moves k).good ∧ (b : Int) = (moveAt s.moves k).src
    · rw [if_pos (by omega), if_pos c2]
      obtain ⟨rfl, rfl⟩ : b = (moveAt s.moves k).src.toNat ∧ g = (moveAt s.moves k).good.toNat := by omega
      omega
    · rw [if_neg (by omega), if_neg c2, Int.add_zero]
theorem moved_bound (f : Moves p s k n) (b g : Int) : bound (movedS s k n) b g = bound s b g - if (moveAt s.moves k).src = b ∧ (moveAt s.moves k).good = g then (moveAt s.moves k).n else 0 := by
  unfold bound
  have e1 : heldIn (movedS s k n) b g = heldIn s b g := rfl
  have e2 : goingOf (movedS s k n).moves b g = _ := sum_erase (fromN b g) f.hk
  rw [e1, e2]
  have e3 : fromN b g (s.moves[k]'f.hk) = if (moveAt s.moves k).src = b ∧ (moveAt s.moves k).good = g then (moveAt s.moves k).n else 0 := by
    rw [moveAt_eq f.hk]
    rfl
  rw [e3]
  unfold goingOf
  omega
theorem moved_sum (hc : checkState p s = 0) (f : Moves p s k n) {g : Nat} (_ : g < p.sizes.length) : sumOf (movedS s k n).on g = sumOf s.on g := by
  have hs := (right_of_check hc).sane
  obtain ⟨m1, m2, m3, m4, m5, m6⟩ := hs.moveAt f.hk
  have h1 : (moveAt s.moves k).src.toNat < s.on.length := by rw [hs.onLen]; omega
  have h2 : (moveAt s.moves k).good.toNat < (rowAt s.on (moveAt s.moves k).src.toNat).length := by rw [hs.rowLen (by omega)]; omega
  have h3 : (moveAt s.moves k).dst.toNat < (setCell s.on (moveAt s.moves k).src.toNat (moveAt s.moves k).good.toNat (cell s.on (moveAt s.moves k).src.toNat (moveAt s.moves k).good.toNat - n)).length := by rw [length_setCell, hs.onLen]; omega
  have h4 : (moveAt s.moves k).good.toNat < (rowAt (setCell s.on (moveAt s.moves k).src.toNat (moveAt s.moves k).good.toNat (cell s.on (moveAt s.moves k).src.toNat (moveAt s.moves k).good.toNat - n)) (moveAt s.moves k).dst.toNat).length := by
    rw [rowlen_setCell, hs.rowLen (by omega)]; omega
  have e : sumOf (movedS s k n).on g = _ := sumOf_setCell h3 h4 g
  rw [e, sumOf_setCell h1 h2, cell_setCell h1 h2, if_neg (show ¬ ((moveAt s.moves k).dst.toNat = (moveAt s.moves k).src.toNat ∧ _) by omega)]
  split <;> omega
theorem moved_check (hc : checkState p s = 0) (f : Moves p s k n) : checkState p (movedS s k n) = 0 := by
  obtain ⟨hr, hgot⟩ := check_iff.1 hc
  have hs := hr.sane
  obtain ⟨m1, m2, m3, m4, m5, m6⟩ := hs.moveAt f.hk
  have hge := goingOf_mem hs f.hk
  have n0 := f.n0
  have n1 := f.n1
  have hlen : (movedS s k n).on.length = p.bins.length := by
    show (setCell (setCell _ _ _ _) _ _ _).length = _
    rw [length_setCell, length_setCell, hs.onLen]
  have hrow : ∀ b, b < p.bins.length → (rowAt (movedS s k n).on b).length = p.sizes.length := fun b hb => by
    show (rowAt (setCell (setCell _ _ _ _) _ _ _) b).length = _
    rw [rowlen_setCell, rowlen_setCell, hs.rowLen hb]
  obtain ⟨gs, hgs⟩ : ∃ gs : Nat, (moveAt s.moves k).good = gs := ⟨(moveAt s.moves k).good.toNat, by omega⟩
  obtain ⟨bs, hbs⟩ : ∃ bs : Nat, (moveAt s.moves k).src = bs := ⟨(moveAt s.moves k).src.toNat, by omega⟩
  obtain ⟨ds, hds⟩ : ∃ ds : Nat, (moveAt s.moves k).dst = ds := ⟨(moveAt s.moves k).dst.toNat, by omega⟩
  have hbn := hr.bnd (b := bs) (g := gs) (by omega) (by omega)
  have hhl := heldTo_range hs bs gs s.holds.length
  rw [heldTo_all] at hhl
  have hfull := f.full
  rw [hgs, hds] at hfull
  simp only [Int.toNat_natCast] at hfull
  refine check_iff.2 ⟨Right.of (Sane.of ?_ hs.orders4 ?_ (fun o ho => ⟨hs.lines3 ho, hs.kind ho⟩) (fun o k ho hk => lineOk_iff.2 (hs.line ho hk)) hs.holds (fun x hx => List.all_eq_true.1 (formed_iff.1 hs.form).2.2.1 x hx) (fun x hx => ?_)
    (formed_iff.1 hs.form).2.2.2.2.1 (formed_iff.1 hs.form).2.2.2.2.2.1 (formed_iff.1 hs.form).2.2.2.2.2.2) (fun g' hg' => ?_) (fun b' g' hb' hg' => ?_) (fun o k ho hk => hr.line o k ho hk), hgot⟩
  · refine checkShelf_zero.2 ⟨hs.plan, shelfOk_iff.2 ⟨hlen, fun b hb => ?_⟩⟩
    rw [hlen] at hb
    refine ⟨hrow b hb, fun g hg => ?_⟩
    rw [moved_cell hc f hb hg]
    have hcl := hs.cell hb hg
    rw [hgs, hbs, hds]
    split
    · rename_i c
      obtain ⟨rfl, rfl⟩ : g = gs ∧ b = ds := by omega
      omega
    · split
      · rename_i c
        obtain ⟨rfl, rfl⟩ : g = gs ∧ b = bs := by omega
        unfold bound at hbn
        rw [hgs, hbs] at hge
        omega
      · omega
  · show (s.moves.eraseIdx k).length ≤ 8
    rw [List.length_eraseIdx]
    have := hs.moves8
    split <;> omega
  · exact List.all_eq_true.1 (formed_iff.1 hs.form).2.2.2.1 x (List.mem_of_mem_eraseIdx hx)
  · rw [moved_sum hc f hg']
    exact hr.sum hg'
  · have hq := hr.bnd hb' hg'
    rw [moved_bound f, moved_cell hc f hb' hg']
    rw [hgs, hbs, hds]
    have hsd : bs ≠ ds := by omega
    split
    · rename_i c
      obtain ⟨c1, c2⟩ := c
      rw [if_neg (by omega), if_pos (by omega)]
      omega
    · rename_i c
      split <;> omega
theorem moved_len (f : Moves p s k n) : (movedS s k n).moves.length = s.moves.length - 1 := by
  show (s.moves.eraseIdx k).length = _
  rw [List.length_eraseIdx, if_pos f.hk]
theorem moved_right {k n : Int} (h : (moved p s k n).2 = 0) : checkState p s = 0 ∧ ∃ i : Nat, k = i ∧ Moves p s i n ∧ (moved p s k n).1 = movedS s i n := by
  unfold moved at h ⊢
  by_cases h1 : checkState p s = 0
  · rw [if_neg (fun hn => hn h1)] at h ⊢
    cases h2 : within k 0 (s.moves.length - 1)
    · rw [h2, if_pos (by rfl)] at h
      simp at h
    rw [h2, if_neg (by simp)] at h
    rw [if_neg (by simp)]
    cases h3 : within n 0 (moveAt s.moves k.toNat).n
    · rw [h3, if_pos (by rfl)] at h
      simp at h
    rw [h3, if_neg (by simp)] at h
    rw [if_neg (by simp)]
    have h2' := within_iff.1 h2
    have h3' := within_iff.1 h3
    by_cases h4 : 200 < cell s.on (moveAt s.moves k.toNat).dst.toNat (moveAt s.moves k.toNat).good.toNat + n
    · rw [if_pos h4] at h
      simp at h
    rw [if_neg h4]
    exact ⟨h1, k.toNat, by omega, ⟨by omega, h3'.1, h3'.2, by omega⟩, rfl⟩
  · rw [if_pos h1] at h
    exact absurd h h1
end
section
variable {p : Plan} {s : State} {k n : Int}
theorem fill_bad (h : checkState p s ≠ 0) : fill p s = (dState, checkState p s) := by unfold fill; rw [if_pos h]
theorem fill_ok (h : checkState p s = 0) : fill p s = (fillS p s, 0) := by unfold fill; rw [if_neg (fun hn => hn h)]
theorem moved_bad (h : checkState p s ≠ 0) : moved p s k n = (dState, checkState p s) := by unfold moved; rw [if_pos h]
theorem moved_none (h : checkState p s = 0) (h2 : k < 0 ∨ (s.moves.length : Int) ≤ k) : moved p s k n = (dState, 4) := by
  unfold moved
  rw [if_neg (fun hn => hn h), within_false.2 (by omega)]
  rfl
theorem moved_range {i : Nat} (h : checkState p s = 0) (hi : i < s.moves.length) (h3 : n < 0 ∨ (moveAt s.moves i).n < n) : moved p s i n = (dState, 3) := by
  unfold moved
  rw [if_neg (fun hn => hn h), within_iff.2 (by omega), if_neg (by simp), Int.toNat_natCast, within_false.2 h3]
  rfl
theorem moved_many {i : Nat} (h : checkState p s = 0) (hi : i < s.moves.length) (h3 : 0 ≤ n ∧ n ≤ (moveAt s.moves i).n) (h4 : 200 < cell s.on (moveAt s.moves i).dst.toNat (moveAt s.moves i).good.toNat + n) : moved p s i n = (dState, 2) := by
  unfold moved
  rw [if_neg (fun hn => hn h), within_iff.2 (by omega), if_neg (by simp), Int.toNat_natCast, within_iff.2 h3, if_neg (by simp), if_pos h4]
theorem moved_ok {i : Nat} (h : checkState p s = 0) (f : Moves p s i n) : moved p s i n = (movedS s i n, 0) := by
  have hk := f.hk
  have h4 := f.full
  unfold moved
  rw [if_neg (fun hn => hn h), within_iff.2 (by omega), if_neg (by simp), Int.toNat_natCast, within_iff.2 ⟨f.n0, f.n1⟩, if_neg (by simp), if_neg (by omega)]
end
end Wh
namespace Wh

section
variable {p : Plan} {s : State}
theorem fill1_full {t : State} {b g f : Nat} (h : 8 ≤ t.moves.length) : fill1 p t b g f = t := by unfold fill1; rw [if_pos h]
theorem fill1_some {t : State} {b g f : Nat} (h : ¬ 8 ≤ t.moves.length) (h2 : 0 < fillN p t b g f) : fill1 p t b g f = addMove t ⟨g, f, b, fillN p t b g f⟩ := by unfold fill1; rw [if_neg h, if_pos h2]; rfl
theorem fill1_none {t : State} {b g f : Nat} (h : ¬ 8 ≤ t.moves.length) (h2 : ¬ 0 < fillN p t b g f) : fill1 p t b g f = t := by unfold fill1; rw [if_neg h, if_neg h2]
end
end Wh
