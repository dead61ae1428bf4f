/- Texts of the claim, joined: Mem. -/
import Derived.WalkKit
import Derived.WalkSpells
import Derived.WalkLawsBesides
import Derived.Lib.Hide
import Derived.Shelf.Abstract
import Derived.Maps.AppendAt
import Derived.Deep.QuietTactic
import Derived.BigQuiet
import Derived.Deep.RegionWith
import Derived.Deep.AppendLies
import Derived.Test.YtnjgkhcnialplaaP01
namespace Wh
open Go Go.RowKit

/-- A slice's address that leads to cells (no part of a cell). -/
def okA (A : Option Addr) : Prop := ∃ b off, A = some ⟨b, off, none⟩
def ablk : Option Addr → Nat
  | some a => a.block
  | none => 0
def aoff : Option Addr → Nat
  | some a => a.off
  | none => 0
theorem ablk_some (a : Addr) : ablk (some a) = a.block := rfl
theorem aoff_some (a : Addr) : aoff (some a) = a.off := rfl
theorem okA_some (b off : Nat) : okA (some ⟨b, off, none⟩) := ⟨b, off, rfl⟩
theorem okA.eq {A : Option Addr} (h : okA A) : A = some ⟨ablk A, aoff A, none⟩ := by obtain ⟨b, off, rfl⟩ := h; rfl

section
variable {P : Program} (w : World)
/-- An index into a slice whose address is a letter. -/
theorem run_indexAt_letter (t : TypeId) (A : Option Addr) (len cap : Nat) (k : IntKind) (i : Int) (h : P.underlying t = some (.slice (P.elem t))) (hA : okA A) :
    (Instr.indexAt t (.slice A len cap) (.int k i)).run P w =
      if 0 ≤ i ∧ i < len then ((Go.sizeOf (P.elem t)).run P w).andThen fun s w => .ok (.pointer (some ⟨ablk A, aoff A + i.toNat * s, none⟩)) w
      else (boundsPanic k i len .index).run P w := by
  obtain ⟨b, off, rfl⟩ := hA
  rw [run_indexAt_slice w t _ len cap k i h]
  simp only [Addr.add_lit, ablk, aoff]
end

/-- The cells 'xs' lie from A on, in a block below B. (Of no cell nothing is said.) -/
def At (w : World) (B : Nat) (A : Option Addr) (xs : List Value) : Prop :=
  xs ≠ [] → okA A ∧ ablk A < B ∧ ∀ j v, xs[j]? = some v → w.cell? ⟨ablk A, aoff A + j, none⟩ = some v

section
variable {w w' : World} {B B' : Nat} {A : Option Addr} {xs : List Value}
theorem At.nil : At w B A [] := fun h => absurd rfl h
theorem At.up (h : At w B A xs) (hb : Below B w w') (hB : B ≤ B') : At w' B' A xs := fun hn =>
  let ⟨h1, h2, h3⟩ := h hn
  ⟨h1, by omega, fun j v hj => (hb.cell (p := ⟨ablk A, aoff A + j, none⟩) h2).trans (h3 j v hj)⟩
theorem At.ok (h : At w B A xs) (hn : 0 < xs.length) : okA A := (h (by rintro rfl; simp at hn)).1
theorem At.lt (h : At w B A xs) (hn : 0 < xs.length) : ablk A < B := (h (by rintro rfl; simp at hn)).2.1
theorem At.cell (h : At w B A xs) {j : Nat} {v : Value} (hj : xs[j]? = some v) : w.cell? ⟨ablk A, aoff A + j, none⟩ = some v :=
  (h (by rintro rfl; simp at hj)).2.2 j v hj
end

theorem bcell {W w1 : World} (hb : Below W.heap.size W w1) : (∀ b o, b < W.heap.size → w1.cell? ⟨b, o, none⟩ = W.cell? ⟨b, o, none⟩) ∧ (∀ b o, b < W.heap.size → w1.frozen? ⟨b, o, none⟩ = W.frozen? ⟨b, o, none⟩) :=
  ⟨fun b o h => hb.cell (p := ⟨b, o, none⟩) h, fun b o h => hb.frozen (p := ⟨b, o, none⟩) h⟩

theorem below_drewN {B : Nat} {a w : World} (h : Below B a w) (n : Nat) : Below B a (w.drewN n) := ⟨h.os, h.tape, h.output, h.size, h.block⟩
theorem quiet_left {P : Program} {f : FuncId} {args : Array Value} {w : World} {n : Nat} {v : Value}
    (h : Calls P f args (w.drewN n) fun e w' => e = .returned v ∧ w.drewN n = w') : Calls P f args (w.drewN n) fun e w' => e = .returned v ∧ ∃ m, w' = w.drewN m :=
  h.mono fun _ _ ⟨he, hm⟩ => ⟨he, n, hm.symm⟩
theorem quiet_add_left {P : Program} {f : FuncId} {args : Array Value} {w : World} {a n : Nat} {v : Value}
    (h : Calls P f args (w.drewN (a + n)) fun e w' => e = .returned v ∧ w.drewN (a + n) = w') :
    Calls P f args (w.drewN (a + n)) fun e w'' => e = .returned v ∧ ∃ m, w'' = w.drewN (a + m) :=
  h.mono fun _ _ ⟨he, hm⟩ => ⟨he, n, hm.symm⟩
theorem ret_int {k : IntKind} {a b : Int} (h : a = b) : Ending.returned (.int k a) = .returned (.int k b) := by rw [h]
theorem ret_bool {a b : Bool} (h : a = b) : Ending.returned (.bool a) = .returned (.bool b) := by rw [h]
theorem ret2 {a b c d : Value} (h : a = b) (h' : c = d) : Ending.returned (.tuple #[a, c]) = .returned (.tuple #[b, d]) := by rw [h, h']

/-- A family of cells for each element. -/
theorem flat_get {α : Type} (enc : α → List Value) (k : Nat) (hk : ∀ x, (enc x).length = k) :
    ∀ (l : List α) (i j : Nat) (x : α), l[i]? = some x → j < k → (l.flatMap enc)[i * k + j]? = (enc x)[j]?
  | [], _, _, _, h, _ => by simp at h
  | y :: l, 0, j, x, h, hj => by
    simp at h
    subst h
    simp [List.getElem?_append_left (show j < (enc y).length by rw [hk]; exact hj)]
  | y :: l, i + 1, j, x, h, hj => by
    simp only [List.getElem?_cons_succ] at h
    have ih := flat_get enc k hk l i j x h hj
    rw [List.flatMap_cons, List.getElem?_append_right (by rw [hk]; rw [Nat.add_mul]; omega), hk, ← ih]
    congr 1
    rw [Nat.add_mul]
    omega
theorem flat_length {α : Type} (enc : α → List Value) (k : Nat) (hk : ∀ x, (enc x).length = k) (l : List α) : (l.flatMap enc).length = l.length * k := by
  induction l with
  | nil => simp
  | cons y l ih => rw [List.flatMap_cons, List.length_append, hk, ih, List.length_cons, Nat.add_mul]; omega

def int (n : Int) : Value := .int .i64 n
def cInt (n : Int) : List Value := [.int .i64 n]
def cBin (b : Bin) : List Value := [.bool b.front, .int .i64 b.room, .int .i64 b.low, .int .i64 b.high]
def cLine (x : Line) : List Value := [.int .i64 x.good, .int .i64 x.want, .int .i64 x.got, .int .i64 x.back]
def cHold (x : Hold) : List Value := [.int .i64 x.order, .int .i64 x.line, .int .i64 x.bin, .int .i64 x.n]
def cMove (x : Move) : List Value := [.int .i64 x.good, .int .i64 x.src, .int .i64 x.dst, .int .i64 x.n]
def vBin (b : Bin) : Value := .agg #[.bool b.front, .int .i64 b.room, .int .i64 b.low, .int .i64 b.high]
def vLine (x : Line) : Value := .agg #[.int .i64 x.good, .int .i64 x.want, .int .i64 x.got, .int .i64 x.back]
def vHold (x : Hold) : Value := .agg #[.int .i64 x.order, .int .i64 x.line, .int .i64 x.bin, .int .i64 x.n]
def vMove (x : Move) : Value := .agg #[.int .i64 x.good, .int .i64 x.src, .int .i64 x.dst, .int .i64 x.n]
def cTotal (x : Total) : List Value := [.int .i64 x.on, .int .i64 x.held, .int .i64 x.back, .int .i64 x.got]

/-- A slice that reads as the list l, each element its cells. -/
def Sl {α : Type} (enc : α → List Value) (w : World) (B : Nat) (v : Value) (l : List α) : Prop :=
  ∃ A c, v = .slice A l.length c ∧ l.length ≤ 140737488355232 ∧ At w B A (l.flatMap enc)

section
variable {α : Type} {enc : α → List Value} {w w' : World} {B B' : Nat} {v : Value} {l : List α}
theorem Sl.up (h : Sl enc w B v l) (hb : Below B w w') (hB : B ≤ B') : Sl enc w' B' v l :=
  let ⟨A, c, h1, h2, h3⟩ := h
  ⟨A, c, h1, h2, h3.up hb hB⟩
theorem Sl.at_ {A : Option Addr} {n c : Nat} (h : Sl enc w B (.slice A n c) l) : At w B A (l.flatMap enc) := by
  obtain ⟨A', c', h1, _, h3⟩ := h
  injection h1 with e
  rw [e]
  exact h3
theorem Sl.drew (h : Sl enc w B v l) : Sl enc w.drew B v l := h
theorem Sl.nil : Sl enc w B (.slice none 0 0) ([] : List α) := ⟨none, 0, rfl, by simp, At.nil⟩
end

/-- Rows: a slice of slices. -/
def SlSl {α : Type} (enc : α → List Value) (w : World) (B : Nat) (v : Value) (l : List (List α)) : Prop :=
  ∃ A c vs, v = .slice A l.length c ∧ l.length ≤ 140737488355232 ∧ vs.length = l.length ∧ At w B A vs ∧ ∀ (i : Nat) (x : List α), l[i]? = some x → ∃ u, vs[i]? = some u ∧ Sl enc w B u x
def SlOrders (w : World) (B : Nat) (v : Value) (l : List Order) : Prop :=
  ∃ A c vs, v = .slice A l.length c ∧ l.length ≤ 140737488355232 ∧ vs.length = l.length ∧
    At w B A ((l.zip vs).flatMap fun x => [.int .i64 x.1.kind, x.2]) ∧ ∀ (i : Nat) (x : Order), l[i]? = some x → ∃ u, vs[i]? = some u ∧ Sl cLine w B u x.lines

theorem SlSl.up {α : Type} {enc : α → List Value} {w w' : World} {B B' : Nat} {v : Value} {l : List (List α)} (h : SlSl enc w B v l) (hb : Below B w w') (hB : B ≤ B') : SlSl enc w' B' v l :=
  let ⟨A, c, vs, h1, h2, h3, h4, h5⟩ := h
  ⟨A, c, vs, h1, h2, h3, h4.up hb hB, fun i x hi => let ⟨u, hu, hs⟩ := h5 i x hi; ⟨u, hu, hs.up hb hB⟩⟩
theorem SlOrders.up {w w' : World} {B B' : Nat} {v : Value} {l : List Order} (h : SlOrders w B v l) (hb : Below B w w') (hB : B ≤ B') : SlOrders w' B' v l :=
  let ⟨A, c, vs, h1, h2, h3, h4, h5⟩ := h
  ⟨A, c, vs, h1, h2, h3, h4.up hb hB, fun i x hi => let ⟨u, hu, hs⟩ := h5 i x hi; ⟨u, hu, hs.up hb hB⟩⟩

def PlanV (w : World) (B : Nat) (v : Value) (p : Plan) : Prop :=
  ∃ vb vs, v = .agg #[vb, vs] ∧ Sl cBin w B vb p.bins ∧ Sl cInt w B vs p.sizes
def StateV (w : World) (B : Nat) (v : Value) (s : State) : Prop :=
  ∃ v0 v1 v2 v3 v4 v5 v6, v = .agg #[v0, v1, v2, v3, v4, v5, v6] ∧ SlSl cInt w B v0 s.on ∧ SlOrders w B v1 s.orders ∧ Sl cHold w B v2 s.holds ∧ Sl cMove w B v3 s.moves ∧
    Sl cInt w B v4 s.inn ∧ Sl cInt w B v5 s.out ∧ Sl cInt w B v6 s.fixed
theorem PlanV.up {w w' : World} {B B' : Nat} {v : Value} {p : Plan} (h : PlanV w B v p) (hb : Below B w w') (hB : B ≤ B') : PlanV w' B' v p :=
  let ⟨vb, vs, h1, h2, h3⟩ := h
  ⟨vb, vs, h1, h2.up hb hB, h3.up hb hB⟩
theorem StateV.up {w w' : World} {B B' : Nat} {v : Value} {s : State} (h : StateV w B v s) (hb : Below B w w') (hB : B ≤ B') : StateV w' B' v s :=
  let ⟨v0, v1, v2, v3, v4, v5, v6, h, h0, h1, h2, h3, h4, h5, h6⟩ := h
  ⟨v0, v1, v2, v3, v4, v5, v6, h, h0.up hb hB, h1.up hb hB, h2.up hb hB, h3.up hb hB, h4.up hb hB, h5.up hb hB, h6.up hb hB⟩

-- one element's cells
section
variable {w : World} {B : Nat} {A : Option Addr}
theorem At.flat {α : Type} {enc : α → List Value} {k : Nat} (hk : ∀ x, (enc x).length = k) {l : List α} (h : At w B A (l.flatMap enc)) {i : Nat} {x : α} (hi : l[i]? = some x) {j : Nat} (hj : j < k) {v : Value} (hv : (enc x)[j]? = some v) :
    w.cell? ⟨ablk A, aoff A + i * k + j, none⟩ = some v := by
  have h1 := flat_get enc k hk l i j x hi hj
  rw [hv] at h1
  rw [Nat.add_assoc]
  exact h.cell h1
theorem At.okOf {α : Type} {enc : α → List Value} {k : Nat} (hk : ∀ x, (enc x).length = k + 1) {l : List α} (h : At w B A (l.flatMap enc)) {i : Nat} (hi : i < l.length) : okA A ∧ ablk A < B := by
  have h1 : 0 < (l.flatMap enc).length := by rw [flat_length enc (k + 1) hk]; exact Nat.mul_pos (by omega) (by omega)
  exact ⟨h.ok h1, h.lt h1⟩
theorem At.int {l : List Int} (h : At w B A (l.flatMap cInt)) {i : Nat} (hi : i < l.length) :
    okA A ∧ ablk A < B ∧ w.cell? ⟨ablk A, aoff A + i, none⟩ = some (.int .i64 (intAt l i)) := by
  obtain ⟨h1, h2⟩ := h.okOf (k := 0) (fun _ => rfl) hi
  have e : l[i]? = some (intAt l i) := by simp [intAt, hi]
  have h3 := h.flat (k := 1) (fun _ => rfl) e (j := 0) (by omega) rfl
  simp only [Nat.mul_one, Nat.add_zero] at h3
  exact ⟨h1, h2, h3⟩
theorem At.bin {l : List Bin} (h : At w B A (l.flatMap cBin)) {i : Nat} (hi : i < l.length) :
    okA A ∧ ablk A < B ∧ w.cell? ⟨ablk A, aoff A + i * 4, none⟩ = some (.bool (binAt l i).front) ∧ w.cell? ⟨ablk A, aoff A + i * 4 + 1, none⟩ = some (.int .i64 (binAt l i).room) ∧
    w.cell? ⟨ablk A, aoff A + i * 4 + 2, none⟩ = some (.int .i64 (binAt l i).low) ∧ w.cell? ⟨ablk A, aoff A + i * 4 + 3, none⟩ = some (.int .i64 (binAt l i).high) := by
  obtain ⟨h1, h2⟩ := h.okOf (k := 3) (fun _ => rfl) hi
  have e : l[i]? = some (binAt l i) := by simp [binAt, hi]
  have f := fun j hj v hv => h.flat (k := 4) (fun _ => rfl) e (j := j) hj (v := v) hv
  exact ⟨h1, h2, f 0 (by omega) _ rfl, f 1 (by omega) _ rfl, f 2 (by omega) _ rfl, f 3 (by omega) _ rfl⟩
theorem At.hold {l : List Hold} (h : At w B A (l.flatMap cHold)) {i : Nat} (hi : i < l.length) :
    okA A ∧ ablk A < B ∧ w.cell? ⟨ablk A, aoff A + i * 4, none⟩ = some (.int .i64 (hold l i).order) ∧ w.cell? ⟨ablk A, aoff A + i * 4 + 1, none⟩ = some (.int .i64 (hold l i).line) ∧
    w.cell? ⟨ablk A, aoff A + i * 4 + 2, none⟩ = some (.int .i64 (hold l i).bin) ∧ w.cell? ⟨ablk A, aoff A + i * 4 + 3, none⟩ = some (.int .i64 (hold l i).n) := by
  obtain ⟨h1, h2⟩ := h.okOf (k := 3) (fun _ => rfl) hi
  have e : l[i]? = some (Wh.hold l i) := by simp [Wh.hold, hi]
  have f := fun j hj v hv => h.flat (k := 4) (fun _ => rfl) e (j := j) hj (v := v) hv
  exact ⟨h1, h2, f 0 (by omega) _ rfl, f 1 (by omega) _ rfl, f 2 (by omega) _ rfl, f 3 (by omega) _ rfl⟩
theorem At.line {l : List Line} (h : At w B A (l.flatMap cLine)) {i : Nat} (hi : i < l.length) :
    okA A ∧ ablk A < B ∧ w.cell? ⟨ablk A, aoff A + i * 4, none⟩ = some (.int .i64 (lineAt l i).good) ∧ w.cell? ⟨ablk A, aoff A + i * 4 + 1, none⟩ = some (.int .i64 (lineAt l i).want) ∧
    w.cell? ⟨ablk A, aoff A + i * 4 + 2, none⟩ = some (.int .i64 (lineAt l i).got) ∧ w.cell? ⟨ablk A, aoff A + i * 4 + 3, none⟩ = some (.int .i64 (lineAt l i).back) := by
  obtain ⟨h1, h2⟩ := h.okOf (k := 3) (fun _ => rfl) hi
  have e : l[i]? = some (lineAt l i) := by simp [lineAt, hi]
  have f := fun j hj v hv => h.flat (k := 4) (fun _ => rfl) e (j := j) hj (v := v) hv
  exact ⟨h1, h2, f 0 (by omega) _ rfl, f 1 (by omega) _ rfl, f 2 (by omega) _ rfl, f 3 (by omega) _ rfl⟩
theorem At.move {l : List Move} (h : At w B A (l.flatMap cMove)) {i : Nat} (hi : i < l.length) :
    okA A ∧ ablk A < B ∧ w.cell? ⟨ablk A, aoff A + i * 4, none⟩ = some (.int .i64 (moveAt l i).good) ∧ w.cell? ⟨ablk A, aoff A + i * 4 + 1, none⟩ = some (.int .i64 (moveAt l i).src) ∧
    w.cell? ⟨ablk A, aoff A + i * 4 + 2, none⟩ = some (.int .i64 (moveAt l i).dst) ∧ w.cell? ⟨ablk A, aoff A + i * 4 + 3, none⟩ = some (.int .i64 (moveAt l i).n) := by
  obtain ⟨h1, h2⟩ := h.okOf (k := 3) (fun _ => rfl) hi
  have e : l[i]? = some (moveAt l i) := by simp [moveAt, hi]
  have f := fun j hj v hv => h.flat (k := 4) (fun _ => rfl) e (j := j) hj (v := v) hv
  exact ⟨h1, h2, f 0 (by omega) _ rfl, f 1 (by omega) _ rfl, f 2 (by omega) _ rfl, f 3 (by omega) _ rfl⟩
end

theorem Sl.isSlice {α : Type} {enc : α → List Value} {w : World} {B : Nat} {v : Value} {l : List α} (h : Sl enc w B v l) : ∃ A c, v = .slice A l.length c :=
  let ⟨A, c, h1, _, _⟩ := h
  ⟨A, c, h1⟩
theorem SlSl.row {w : World} {B : Nat} {A : Option Addr} {n c : Nat} {l : List (List Int)} (h : SlSl cInt w B (.slice A n c) l) {i : Nat} (hi : i < l.length) :
    ∃ A' c', okA A ∧ ablk A < B ∧ w.cell? ⟨ablk A, aoff A + i, none⟩ = some (.slice A' (rowAt l i).length c') ∧ Sl cInt w B (.slice A' (rowAt l i).length c') (rowAt l i) := by
  obtain ⟨A0, c0, vs, hv, _, hvl, hA, hr⟩ := h
  injection hv with h1 h2 h3
  subst h1
  obtain ⟨u, hu, hs⟩ := hr i l[i] (by simp [hi])
  have e : rowAt l i = l[i] := by simp [rowAt, hi]
  have h0 : 0 < vs.length := by omega
  obtain ⟨A', c', rfl⟩ := hs.isSlice
  rw [e]
  exact ⟨A', c', hA.ok h0, hA.lt h0, hA.cell hu, hs⟩
theorem SlOrders.order {w : World} {B : Nat} {A : Option Addr} {n c : Nat} {l : List Order} (h : SlOrders w B (.slice A n c) l) {i : Nat} (hi : i < l.length) :
    ∃ A' c', okA A ∧ ablk A < B ∧ w.cell? ⟨ablk A, aoff A + i * 2, none⟩ = some (.int .i64 (orderAt l i).kind) ∧
      w.cell? ⟨ablk A, aoff A + i * 2 + 1, none⟩ = some (.slice A' (orderAt l i).lines.length c') ∧ Sl cLine w B (.slice A' (orderAt l i).lines.length c') (orderAt l i).lines := by
  obtain ⟨A0, c0, vs, hv, _, hvl, hA, hr⟩ := h
  injection hv with h1 h2 h3
  subst h1
  obtain ⟨u, hu, hs⟩ := hr i l[i] (by simp [hi])
  have e : orderAt l i = l[i] := by simp [orderAt, hi]
  obtain ⟨A', c', rfl⟩ := hs.isSlice
  rw [e]
  have hz : (l.zip vs)[i]? = some (l[i], .slice A' l[i].lines.length c') := by
    rw [List.getElem?_zip_eq_some]
    exact ⟨by simp [hi], hu⟩
  have hzl : i < (l.zip vs).length := by rw [List.length_zip]; omega
  have f := fun j hj v hv => hA.flat (k := 2) (fun _ => rfl) hz (j := j) hj (v := v) hv
  obtain ⟨h1, h2⟩ := hA.okOf (k := 1) (fun _ => rfl) hzl
  exact ⟨A', c', h1, h2, f 0 (by omega) _ rfl, f 1 (by omega) _ rfl, hs⟩

/-! ### What the call itself makes -/
/-- It returns a value that reads so; below the heap's end nothing has turned. -/
def Gives (R : Value → World → Prop) (w : World) (e : Ending) (w' : World) : Prop := ∃ v, e = .returned v ∧ R v w' ∧ Below w.heap.size w w'
/-- A row of the call's own, from block 'base' on, that holds the list l. -/
def Own {α : Type} (enc : α → List Value) (size : Nat) (e : TypeId) (w : World) (base : Nat) (v : Value) (l : List α) : Prop := w.ownsRow base e size v l.length (l.flatMap enc)
def Elem (P : Program) (e : TypeId) (z : Value) (size bytes : Nat) : Prop := ∃ i, P.info? e = some i ∧ i.zero = some z ∧ i.size = size ∧ i.bytes = bytes
theorem elem_of {P : Program} {e : TypeId} {z : Value} {size bytes : Nat} (h : (P.info? e).map (fun i => (i.zero, i.size, i.bytes)) = some (some z, size, bytes)) : Elem P e z size bytes := by
  cases hi : P.info? e with
  | none => rw [hi] at h; simp at h
  | some i =>
    rw [hi] at h
    simp only [Option.map_some, Option.some.injEq, Prod.mk.injEq] at h
    exact ⟨i, hi, h.1, h.2.1, h.2.2⟩
section
variable {α : Type} {enc : α → List Value} {size : Nat} {e : TypeId} {w w' : World} {base : Nat} {v : Value} {l : List α}
theorem Own.nil : Own enc size e w base (.slice none 0 0) [] := World.ownsRow_nil w base e size
theorem Own.alloc (h : Own enc size e w base v l) (o : Obj) : Own enc size e (w.alloc o) base v l := World.ownsRow.alloc h o
theorem Own.from_ {base' : Nat} (h : Own enc size e w base v l) (hb : base' ≤ base) : Own enc size e w base' v l := by
  refine ⟨h.1, ?_⟩
  rcases h.2 with hn | ⟨g, cap, cur, h1, h2, r⟩
  · exact .inl hn
  · exact .inr ⟨g, cap, cur, h1, by omega, r⟩
theorem Own.isSlice (h : Own enc size e w base v l) : ∃ A c, v = .slice A l.length c := by
  rcases h.2 with ⟨h1, h2⟩ | ⟨g, cap, cur, h1, _⟩
  · exact ⟨none, 0, by rw [h1, h2]⟩
  · exact ⟨_, _, h1⟩
theorem Own.below (h : Own enc size e w base v l) (hb : Below w.heap.size w w') : Own enc size e w' base v l := by
  refine ⟨h.1, ?_⟩
  rcases h.2 with hn | ⟨g, cap, cur, rfl, hbg, hg, rest⟩
  · exact .inl hn
  · exact .inr ⟨g, cap, cur, rfl, hbg, by rw [hb.block g (Array.getElem?_eq_some_iff.1 hg).1]; exact hg, rest⟩
theorem Own.sl (h : Own enc size e w base v l) (hn : l.length ≤ 140737488355232) : Sl enc w w.heap.size v l := by
  rcases h.2 with ⟨h1, h2⟩ | ⟨g, cap, cur, rfl, hb, hg, hnc, hcm, hcs, htake⟩
  · obtain rfl : l = [] := List.eq_nil_of_length_eq_zero h2
    subst h1
    exact Sl.nil
  · refine ⟨some ⟨g, 0, none⟩, cap, rfl, hn, fun _ => ⟨okA_some _ _, (Array.getElem?_eq_some_iff.1 hg).1, fun j u hj => ?_⟩⟩
    have hh : w.ownsRow base e size (.slice (some ⟨g, 0, none⟩) l.length cap) l.length (l.flatMap enc) := h
    have := hh.cells (g := g) rfl j u hj
    simpa [Addr.add_lit, ablk, aoff] using this
end

theorem one_int (n : Int) : ∀ u ∈ cInt n, u.oneCell' = true := by simp [cInt, Value.oneCell']
theorem Own.size {α : Type} {enc : α → List Value} {size : Nat} {e : TypeId} {w : World} {base : Nat} {v : Value} {l : List α} (h : Own enc size e w base v l) : ∀ k, v.ownBlock = some k → base ≤ k ∧ k < w.heap.size := World.ownsRow.lt h
section
variable {P : Program} (w : World)
/-- One element more: 'v = append(v, x)'. -/
theorem wpList_push {α : Type} {enc : α → List Value} {ops : Array Oper} {rest : List Oper} {o : Oper} {a : Act} {Q : Exit → Act → World → Prop} (hgd : o.guard = none) (s x : Operand) (t e : TypeId)
    (ho : o.op = .call { callee := .builtin .append, args := #[s, x], argTypes := #[t, t] }) (base : Nat) (z : Value) (size bytes : Nat) (ht : P.underlying t = some (.slice e)) (hi : Elem P e z size bytes)
    (hzs : z.cells.size = size) (hsz : 0 < size) (hby : bytes ≤ 64) (v : Value) (l : List α) (y : α) (hs : a.eval s = v) (hown : Own enc size e w base v l)
    (ad : Addr) (c : Nat) (hx : a.eval x = .slice (some ad) 1 c) (hl : (enc y).length = size) (hnews : ∀ j u, (enc y)[j]? = some u → w.cell? (ad.add j) = some u) (h1 : ∀ u ∈ enc y, u.oneCell' = true)
    (hn : l.length ≤ 1000000) (hbase : base ≤ w.heap.size)
    (h : ∀ v' w', Own enc size e w' base v' (l ++ [y]) → w.grownBy w' v.ownBlock → (v'.ownBlock = v.ownBlock ∨ v'.ownBlock = some w.heap.size) → Below base w w' → wpList P ops Q rest (a.put o.dst v') w') :
    wpList P ops Q (o :: rest) a w := by
  obtain ⟨i, hi, hz, hsize, hbytes⟩ := hi
  have hb : (l.length + 1) * bytes ≤ 140737488355328 := Nat.le_trans (Nat.mul_le_mul (show l.length + 1 ≤ 1000001 by omega) hby) (by decide)
  refine wpList_append_own_at w hgd s x t ho base e i z size bytes ht hi hz hsize hbytes hzs hsz v l.length _ hs hown ad 1 c (enc y) hx (by rw [hl, Nat.one_mul]) hnews h1 (by unfold maxLen; omega) hb hbase ?_
  intro v' w' h2 h3 _ h5
  refine h v' w' ?_ h3 h5 ((Below.refl _ _).grown h3 hbase fun k hk => (World.ownsRow.lt hown k hk).1)
  unfold Own
  rw [List.length_append, List.flatMap_append]
  simpa using h2
end

theorem Sl.grow {α : Type} {enc : α → List Value} {w w' : World} {v : Value} {l : List α} (h : Sl enc w w.heap.size v l) (hb : Below w.heap.size w w') : Sl enc w' w'.heap.size v l := h.up hb hb.size
theorem SlSl.grow {α : Type} {enc : α → List Value} {w w' : World} {v : Value} {l : List (List α)} (h : SlSl enc w w.heap.size v l) (hb : Below w.heap.size w w') : SlSl enc w' w'.heap.size v l := h.up hb hb.size
theorem PlanV.grow {w w' : World} {v : Value} {p : Plan} (h : PlanV w w.heap.size v p) (hb : Below w.heap.size w w') : PlanV w' w'.heap.size v p := h.up hb hb.size
theorem StateV.grow {w w' : World} {v : Value} {s : State} (h : StateV w w.heap.size v s) (hb : Below w.heap.size w w') : StateV w' w'.heap.size v s := h.up hb hb.size

end Wh
