/- Texts of the claim, joined: Model, Mem, PlainA, Own, MemK, PlainB, PlainD, PlainF, WalkA, WalkB, LibIdx, OwnS. -/
import Derived.WalkKit
import Derived.WalkSpells
import Derived.WalkLawsBesides
import Derived.Lib.Hide
import Derived.Shelf.Abstract
import Derived.Maps.AppendAt
import Derived.Deep.QuietTactic
import Derived.BigQuiet
import Derived.Deep.RegionWith
import Derived.Deep.AppendLies
import Derived.Laws.CopyRow
import Derived.Lib.AppendZerosOnto
import Derived.Lib.Overlaps
import Derived.Laws.Externs
import Derived.Test.YtnjgkhcnialplaaChecked
namespace Wh
structure Bin where
  front : Bool
  room : Int
  low : Int
  high : Int

structure Plan where
  bins : List Bin
  sizes : List Int

structure Line where
  good : Int
  want : Int
  got : Int
  back : Int

structure Order where
  kind : Int
  lines : List Line

structure Hold where
  order : Int
  line : Int
  bin : Int
  n : Int

structure Move where
  good : Int
  src : Int
  dst : Int
  n : Int

structure State where
  on : List (List Int)
  orders : List Order
  holds : List Hold
  moves : List Move
  inn : List Int
  out : List Int
  fixed : List Int

structure Total where
  on : Int
  held : Int
  back : Int
  got : Int

structure Deed where
  kind : Int
  a : Int
  b : Int
  c : Int
  n : Int
  lines : List Line

instance : DecidableEq Line := fun x y =>
  if h : x.good = y.good ∧ x.want = y.want ∧ x.got = y.got ∧ x.back = y.back then
    isTrue (by cases x; cases y; simp at h; simp [h])
  else isFalse (by rintro rfl; simp at h)
instance : DecidableEq Hold := fun x y =>
  if h : x.order = y.order ∧ x.line = y.line ∧ x.bin = y.bin ∧ x.n = y.n then
    isTrue (by cases x; cases y; simp at h; simp [h])
  else isFalse (by rintro rfl; simp at h)
instance : DecidableEq Move := fun x y =>
  if h : x.good = y.good ∧ x.src = y.src ∧ x.dst = y.dst ∧ x.n = y.n then
    isTrue (by cases x; cases y; simp at h; simp [h])
  else isFalse (by rintro rfl; simp at h)
instance : DecidableEq Order := fun x y =>
  if h : x.kind = y.kind ∧ x.lines = y.lines then
    isTrue (by cases x; cases y; simp at h; simp [h])
  else isFalse (by rintro rfl; simp at h)
instance : DecidableEq State := fun x y =>
  if h : x.on = y.on ∧ x.orders = y.orders ∧ x.holds = y.holds ∧ x.moves = y.moves ∧ x.inn = y.inn ∧ x.out = y.out ∧ x.fixed = y.fixed then
    isTrue (by cases x; cases y; simp at h; simp [h])
  else isFalse (by rintro rfl; simp at h)
instance : DecidableEq Total := fun x y =>
  if h : x.on = y.on ∧ x.held = y.held ∧ x.back = y.back ∧ x.got = y.got then
    isTrue (by cases x; cases y; simp at h; simp [h])
  else isFalse (by rintro rfl; simp at h)

def dBin : Bin := ⟨false, 0, 0, 0⟩
def dLine : Line := ⟨0, 0, 0, 0⟩
def dOrder : Order := ⟨0, []⟩
def dHold : Hold := ⟨0, 0, 0, 0⟩
def dMove : Move := ⟨0, 0, 0, 0⟩
def dState : State := ⟨[], [], [], [], [], [], []⟩

def intAt (l : List Int) (i : Nat) : Int := l.getD i 0
def rowAt (l : List (List Int)) (i : Nat) : List Int := l.getD i []
def binAt (l : List Bin) (i : Nat) : Bin := l.getD i dBin
def lineAt (l : List Line) (i : Nat) : Line := l.getD i dLine
def orderAt (l : List Order) (i : Nat) : Order := l.getD i dOrder
def moveAt (l : List Move) (i : Nat) : Move := l.getD i dMove

def within (n lo hi : Int) : Bool := decide (lo ≤ n) && decide (n ≤ hi)

-- chapter 1
def binOk (b : Bin) : Bool := within b.room 0 1000 && within b.high 0 200 && within b.low 0 b.high
def sizeOk (s : Int) : Bool := within s 1 9
def checkPlan (p : Plan) : Int :=
  if !(within p.bins.length 1 6 && within p.sizes.length 1 3) then 2
  else if !(p.bins.all binOk && p.sizes.all sizeOk) then 3 else 0
def Plan.bin (p : Plan) (b : Nat) : Bin := binAt p.bins b
def kinds (p : Plan) (f : Bool) : List Nat := (List.range p.bins.length).filter fun b => (p.bin b).front == f
def way (p : Plan) : List Nat := kinds p true ++ kinds p false

-- chapter 2
def isBin (p : Plan) (b : Int) : Bool := within b 0 (p.bins.length - 1)
def isGood (p : Plan) (g : Int) : Bool := within g 0 (p.sizes.length - 1)
def rowOk (p : Plan) (row : List Int) : Bool := decide (row.length = p.sizes.length) && row.all (within · 0 200)
def shelfOk (p : Plan) (on : List (List Int)) : Bool := decide (on.length = p.bins.length) && on.all (rowOk p)
def checkShelf (p : Plan) (on : List (List Int)) : Int :=
  if checkPlan p ≠ 0 then checkPlan p else if shelfOk p on then 0 else 1
def shelfError (p : Plan) (on : List (List Int)) (b g : Int) : Int :=
  if checkShelf p on ≠ 0 then checkShelf p on else if isBin p b && isGood p g then 0 else 3
def cell (on : List (List Int)) (b g : Nat) : Int := intAt (rowAt on b) g
def setCell (on : List (List Int)) (b g : Nat) (n : Int) : List (List Int) := on.set b ((rowAt on b).set g n)
def sumTo (f : Nat → Int) : Nat → Int
  | 0 => 0
  | k + 1 => sumTo f k + f k
def usedOf (p : Plan) (on : List (List Int)) (b : Nat) : Int := sumTo (fun g => cell on b g * intAt p.sizes g) p.sizes.length
def sumOf (on : List (List Int)) (g : Nat) : Int := sumTo (fun b => cell on b g) on.length
def sumE (p : Plan) (on : List (List Int)) (g : Int) : Int := if shelfError p on 0 g = 0 then sumOf on g.toNat else 0
def put (p : Plan) (on : List (List Int)) (b g n : Int) : List (List Int) × Int :=
  if shelfError p on b g ≠ 0 then ([], shelfError p on b g)
  else if !(within n (-(cell on b.toNat g.toNat)) (200 - cell on b.toNat g.toNat)) then ([], 3)
  else (setCell on b.toNat g.toNat (cell on b.toNat g.toNat + n), 0)

-- chapter 3
def holdFine (h : Hold) : Bool := within h.order 0 3 && within h.line 0 2 && within h.bin 0 5 && within h.n 1 200
def place (h : Hold) : Int := (h.order * 3 + h.line) * 6 + h.bin
def hold (l : List Hold) (k : Nat) : Hold := l.getD k dHold
def holdsOk (l : List Hold) : Bool :=
  (List.range l.length).all fun k => holdFine (hold l k) && (decide (k = 0) || decide (place (hold l (k - 1)) < place (hold l k)))
def checkHolds (l : List Hold) : Int := if holdsOk l then 0 else 1
def sameLine (o ln : Int) (h : Hold) : Bool := decide (h.order = o) && decide (h.line = ln)
def sameKey (o ln b : Int) (h : Hold) : Bool := decide (h.order = o) && decide (h.line = ln) && decide (h.bin = b)
def keptAt (l : List Hold) (o ln b : Int) : Int := match l.find? (sameKey o ln b) with | some h => h.n | none => 0
/-- That hold has n then; none, if it is 0. -/
def withHold (l : List Hold) (h : Hold) : List Hold :=
  l.filter (fun x => decide (place x < place h)) ++ (if h.n = 0 then [] else [h]) ++ l.filter (fun x => decide (place h < place x))
def add (l : List Hold) (h : Hold) : List Hold × Int :=
  if !(holdsOk l) then ([], 1) else if !(holdFine h) then ([], 1)
  else if 200 < keptAt l h.order h.line h.bin + h.n then ([], 3)
  else (withHold l { h with n := keptAt l h.order h.line h.bin + h.n }, 0)
def drop (l : List Hold) (o ln b : Int) : List Hold × Int × Int :=
  if !(holdsOk l) then ([], 0, 1) else if keptAt l o ln b = 0 then ([], 0, 4)
  else (withHold l ⟨o, ln, b, 0⟩, keptAt l o ln b, 0)
def kept (l : List Hold) (o ln : Int) : Int := ((l.filter (sameLine o ln)).map (·.n)).sum
def keptE (l : List Hold) (o ln : Int) : Int × Int := if !(holdsOk l) then (0, 1) else (kept l o ln, 0)

-- chapter 4
def State.order (s : State) (o : Nat) : Order := orderAt s.orders o
def State.line (s : State) (o k : Nat) : Line := lineAt (s.order o).lines k
def begin (p : Plan) : State :=
  let z := List.replicate p.sizes.length 0
  ⟨List.replicate p.bins.length z, [], [], [], z, z, z⟩
def heldN (s : State) (b g : Int) (h : Hold) : Int := if h.bin = b ∧ (s.line h.order.toNat h.line.toNat).good = g then h.n else 0
def fromN (b g : Int) (x : Move) : Int := if x.src = b ∧ x.good = g then x.n else 0
def toN (b g : Int) (x : Move) : Int := if x.dst = b ∧ x.good = g then x.n else 0
def heldIn (s : State) (b g : Int) : Int := (s.holds.map (heldN s b g)).sum
def goingOf (l : List Move) (b g : Int) : Int := (l.map (fromN b g)).sum
def bound (s : State) (b g : Int) : Int := heldIn s b g + goingOf s.moves b g
def comingOf (l : List Move) (b g : Int) : Int := (l.map (toN b g)).sum
def coming (s : State) (b g : Int) : Int := comingOf s.moves b g
def lineOk (p : Plan) (x : Line) : Bool := isGood p x.good && within x.want 1 200 && within x.got 0 x.want && within x.back 0 x.want
def orderOk (p : Plan) (o : Order) : Bool := within o.kind 0 2 && o.lines.all (lineOk p)
def holdIn (p : Plan) (s : State) (h : Hold) : Bool :=
  decide (h.order < s.orders.length) && decide (h.line < (s.order h.order.toNat).lines.length) && decide (h.bin < p.bins.length)
def moveOk (p : Plan) (x : Move) : Bool := isGood p x.good && isBin p x.src && isBin p x.dst && decide (x.src ≠ x.dst) && within x.n 1 200
def sumsOk (p : Plan) (l : List Int) (lo : Int) : Bool := decide (l.length = p.sizes.length) && l.all (within · lo 1048576)
def manyOk (s : State) : Bool := decide (s.orders.length ≤ 4) && decide (s.moves.length ≤ 8) && s.orders.all (fun o => within o.lines.length 1 3)
def formed (p : Plan) (s : State) : Bool :=
  s.orders.all (orderOk p) && holdsOk s.holds && s.holds.all (holdIn p s) && s.moves.all (moveOk p) && sumsOk p s.inn 0 && sumsOk p s.out 0 && sumsOk p s.fixed (-1048576)
def goodSummed (p : Plan) (s : State) (g : Nat) : Bool :=
  decide (sumOf s.on g = intAt s.inn g - intAt s.out g + intAt s.fixed g) && (List.range p.bins.length).all fun b => decide (bound s b g ≤ cell s.on b g)
def allGot (o : Order) : Bool := o.lines.all fun x => decide (x.got = x.want)
def lineSummed (s : State) (o : Nat) (k : Nat) : Bool :=
  let x := s.line o k
  let n := kept s.holds o k
  decide (x.got + x.back + n = if (s.order o).kind = 0 then 0 else x.want) && !(decide ((s.order o).kind = 2) && decide (0 < n))
def orderSummed (s : State) (o : Nat) : Bool :=
  !(decide ((s.order o).kind = 1) && allGot (s.order o)) && (List.range (s.order o).lines.length).all (lineSummed s o)
def summed (p : Plan) (s : State) : Bool :=
  (List.range p.sizes.length).all (goodSummed p s) && (List.range s.orders.length).all (orderSummed s)
def checkState (p : Plan) (s : State) : Int :=
  if checkShelf p s.on ≠ 0 then checkShelf p s.on
  else if !(manyOk s) then 2 else if !(formed p s) then 1 else if !(summed p s) then 7 else 0
def avail (s : State) (b g : Int) : Int := cell s.on b.toNat g.toNat - bound s b g
def free (p : Plan) (s : State) (b : Int) : Int :=
  (p.bin b.toNat).room - sumTo (fun g => (cell s.on b.toNat g + coming s b g) * intAt p.sizes g) p.sizes.length
def availE (p : Plan) (s : State) (b g : Int) : Int × Int :=
  if checkState p s ≠ 0 then (0, checkState p s) else if !(isBin p b && isGood p g) then (0, 3) else (avail s b g, 0)
def freeE (p : Plan) (s : State) (b : Int) : Int × Int :=
  if checkState p s ≠ 0 then (0, checkState p s) else if !(isBin p b) then (0, 3) else (free p s b, 0)

-- chapter 5
def State.setLine (s : State) (o k : Nat) (x : Line) : State :=
  { s with orders := s.orders.set o { s.order o with lines := (s.order o).lines.set k x } }
def hold1 (s : State) (o k : Nat) (b : Int) (m : Int) : State :=
  ({ s with holds := withHold s.holds ⟨o, k, b, keptAt s.holds o k b + m⟩ } : State).setLine o k { s.line o k with back := (s.line o k).back - m }
def takeGo (o k : Nat) (but : Int) : List Nat → State → Int → State × Int
  | [], s, n => (s, n)
  | b :: r, s, n =>
    let m := min n (avail s b (s.line o k).good)
    if (b : Int) = but ∨ m < 1 then takeGo o k but r s n else takeGo o k but r (hold1 s o k b m) (n - m)
def takeS (p : Plan) (s : State) (o k : Nat) (n but : Int) : State × Int := takeGo o k but (way p) s n
def take (p : Plan) (s : State) (o k n but : Int) : State × Int × Int :=
  if checkState p s ≠ 0 then (dState, 0, checkState p s)
  else if !(within o 0 (s.orders.length - 1)) then (dState, 0, 3)
  else if !(within k 0 ((s.order o.toNat).lines.length - 1)) || !(within n 0 200) || !(decide (but = -1) || isBin p but) then (dState, 0, 3)
  else if (s.order o.toNat).kind ≠ 1 then (dState, 0, 6)
  else if (s.line o.toNat k.toNat).back < n then (dState, 0, 3)
  else ((takeS p s o.toNat k.toNat n but).1, (takeS p s o.toNat k.toNat n but).2, 0)

-- chapter 6
def enter (p : Plan) (s : State) (l : List Line) : State × Int :=
  if checkState p s ≠ 0 then (dState, checkState p s)
  else if 4 ≤ s.orders.length ∨ !(within l.length 1 3) then (dState, 2)
  else if !(l.all fun x => isGood p x.good && within x.want 1 200) then (dState, 3)
  else if !(l.all fun x => decide (x.got = 0) && decide (x.back = 0)) then (dState, 1)
  else ({ s with orders := s.orders ++ [⟨0, l⟩] }, 0)

-- chapter 7
-- chapter 8
-- chapter 9
-- chapter 11
end Wh
namespace Wh
open Go Go.RowKit
/-- A slice's address that leads to cells (no part of a cell). -/
def okA (A : Option Addr) : Prop := ∃ b off, A = some ⟨b, off, none⟩
def ablk : Option Addr → Nat
  | some a => a.block
  | none => 0
def aoff : Option Addr → Nat
  | some a => a.off
  | none => 0
theorem okA_some (b off : Nat) : okA (some ⟨b, off, none⟩) := ⟨b, off, rfl⟩
section
variable {P : Program} (w : World)
/-- An index into a slice whose address is a letter. -/
theorem run_indexAt_letter (t : TypeId) (A : Option Addr) (len cap : Nat) (k : IntKind) (i : Int) (h : P.underlying t = some (.slice (P.elem t))) (hA : okA A) :
    (Instr.indexAt t (.slice A len cap) (.int k i)).run P w =
      if 0 ≤ i ∧ i < len then ((Go.sizeOf (P.elem t)).run P w).andThen fun s w => .ok (.pointer (some ⟨ablk A, aoff A + i.toNat * s, none⟩)) w
      else (boundsPanic k i len .index).run P w := by
  obtain ⟨b, off, rfl⟩ := hA
  rw [run_indexAt_slice w t _ len cap k i h]
  simp only [Addr.add_lit, ablk, aoff]
end
/-- The cells 'xs' lie from A on, in a block below B. (Of no cell nothing is said.) -/
def At (w : World) (B : Nat) (A : Option Addr) (xs : List Value) : Prop :=
  xs ≠ [] → okA A ∧ ablk A < B ∧ ∀ j v, xs[j]? = some v → w.cell? ⟨ablk A, aoff A + j, none⟩ = some v

section
variable {w w' : World} {B B' : Nat} {A : Option Addr} {xs : List Value}
theorem At.nil : At w B A [] := fun h => absurd rfl h
theorem At.up (h : At w B A xs) (hb : Below B w w') (hB : B ≤ B') : At w' B' A xs := fun hn =>
  let ⟨h1, h2, h3⟩ := h hn
  ⟨h1, by omega, fun j v hj => (hb.cell (p := ⟨ablk A, aoff A + j, none⟩) h2).trans (h3 j v hj)⟩
theorem At.ok (h : At w B A xs) (hn : 0 < xs.length) : okA A := (h (by rintro rfl; simp at hn)).1
theorem At.lt (h : At w B A xs) (hn : 0 < xs.length) : ablk A < B := (h (by rintro rfl; simp at hn)).2.1
theorem At.cell (h : At w B A xs) {j : Nat} {v : Value} (hj : xs[j]? = some v) : w.cell? ⟨ablk A, aoff A + j, none⟩ = some v :=
  (h (by rintro rfl; simp at hj)).2.2 j v hj
end
theorem bcell {W w1 : World} (hb : Below W.heap.size W w1) : (∀ b o, b < W.heap.size → w1.cell? ⟨b, o, none⟩ = W.cell? ⟨b, o, none⟩) ∧ (∀ b o, b < W.heap.size → w1.frozen? ⟨b, o, none⟩ = W.frozen? ⟨b, o, none⟩) :=
  ⟨fun b o h => hb.cell (p := ⟨b, o, none⟩) h, fun b o h => hb.frozen (p := ⟨b, o, none⟩) h⟩

theorem below_drewN {B : Nat} {a w : World} (h : Below B a w) (n : Nat) : Below B a (w.drewN n) := ⟨h.os, h.tape, h.output, h.size, h.block⟩
theorem ret_int {k : IntKind} {a b : Int} (h : a = b) : Ending.returned (.int k a) = .returned (.int k b) := by rw [h]
theorem ret_bool {a b : Bool} (h : a = b) : Ending.returned (.bool a) = .returned (.bool b) := by rw [h]
theorem ret2 {a b c d : Value} (h : a = b) (h' : c = d) : Ending.returned (.tuple #[a, c]) = .returned (.tuple #[b, d]) := by rw [h, h']

/-- A family of cells for each element. -/
theorem flat_get {α : Type} (enc : α → List Value) (k : Nat) (hk : ∀ x, (enc x).length = k) :
    ∀ (l : List α) (i j : Nat) (x : α), l[i]? = some x → j < k → (l.flatMap enc)[i * k + j]? = (enc x)[j]?
  | [], _, _, _, h, _ => by simp at h
  | y :: l, 0, j, x, h, hj => by
    simp at h
    subst h
    simp [List.getElem?_append_left (show j < (enc y).length by rw [hk]; exact hj)]
  | y :: l, i + 1, j, x, h, hj => by
    simp only [List.getElem?_cons_succ] at h
    have ih := flat_get enc k hk l i j x h hj
    rw [List.flatMap_cons, List.getElem?_append_right (by rw [hk]; rw [Nat.add_mul]; omega), hk, ← ih]
    congr 1
    rw [Nat.add_mul]
    omega
theorem flat_length {α : Type} (enc : α → List Value) (k : Nat) (hk : ∀ x, (enc x).length = k) (l : List α) : (l.flatMap enc).length = l.length * k := by
  induction l with
  | nil => simp
  | cons y l ih => rw [List.flatMap_cons, List.length_append, hk, ih, List.length_cons, Nat.add_mul]; omega

def int (n : Int) : Value := .int .i64 n
def cInt (n : Int) : List Value := [.int .i64 n]
def cBin (b : Bin) : List Value := [.bool b.front, .int .i64 b.room, .int .i64 b.low, .int .i64 b.high]
def cLine (x : Line) : List Value := [.int .i64 x.good, .int .i64 x.want, .int .i64 x.got, .int .i64 x.back]
def cHold (x : Hold) : List Value := [.int .i64 x.order, .int .i64 x.line, .int .i64 x.bin, .int .i64 x.n]
def cMove (x : Move) : List Value := [.int .i64 x.good, .int .i64 x.src, .int .i64 x.dst, .int .i64 x.n]
def vBin (b : Bin) : Value := .agg #[.bool b.front, .int .i64 b.room, .int .i64 b.low, .int .i64 b.high]
def vLine (x : Line) : Value := .agg #[.int .i64 x.good, .int .i64 x.want, .int .i64 x.got, .int .i64 x.back]
def vHold (x : Hold) : Value := .agg #[.int .i64 x.order, .int .i64 x.line, .int .i64 x.bin, .int .i64 x.n]
def vMove (x : Move) : Value := .agg #[.int .i64 x.good, .int .i64 x.src, .int .i64 x.dst, .int .i64 x.n]
/-- A slice that reads as the list l, each element its cells. -/
def Sl {α : Type} (enc : α → List Value) (w : World) (B : Nat) (v : Value) (l : List α) : Prop :=
  ∃ A c, v = .slice A l.length c ∧ l.length ≤ 140737488355232 ∧ At w B A (l.flatMap enc)

section
variable {α : Type} {enc : α → List Value} {w w' : World} {B B' : Nat} {v : Value} {l : List α}
theorem Sl.up (h : Sl enc w B v l) (hb : Below B w w') (hB : B ≤ B') : Sl enc w' B' v l :=
  let ⟨A, c, h1, h2, h3⟩ := h
  ⟨A, c, h1, h2, h3.up hb hB⟩
theorem Sl.at_ {A : Option Addr} {n c : Nat} (h : Sl enc w B (.slice A n c) l) : At w B A (l.flatMap enc) := by
  obtain ⟨A', c', h1, _, h3⟩ := h
  injection h1 with e
  rw [e]
  exact h3
theorem Sl.drew (h : Sl enc w B v l) : Sl enc w.drew B v l := h
theorem Sl.nil : Sl enc w B (.slice none 0 0) ([] : List α) := ⟨none, 0, rfl, by simp, At.nil⟩
end
/-- Rows: a slice of slices. -/
def SlSl {α : Type} (enc : α → List Value) (w : World) (B : Nat) (v : Value) (l : List (List α)) : Prop :=
  ∃ A c vs, v = .slice A l.length c ∧ l.length ≤ 140737488355232 ∧ vs.length = l.length ∧ At w B A vs ∧ ∀ (i : Nat) (x : List α), l[i]? = some x → ∃ u, vs[i]? = some u ∧ Sl enc w B u x
def SlOrders (w : World) (B : Nat) (v : Value) (l : List Order) : Prop :=
  ∃ A c vs, v = .slice A l.length c ∧ l.length ≤ 140737488355232 ∧ vs.length = l.length ∧
    At w B A ((l.zip vs).flatMap fun x => [.int .i64 x.1.kind, x.2]) ∧ ∀ (i : Nat) (x : Order), l[i]? = some x → ∃ u, vs[i]? = some u ∧ Sl cLine w B u x.lines

theorem SlSl.up {α : Type} {enc : α → List Value} {w w' : World} {B B' : Nat} {v : Value} {l : List (List α)} (h : SlSl enc w B v l) (hb : Below B w w') (hB : B ≤ B') : SlSl enc w' B' v l :=
  let ⟨A, c, vs, h1, h2, h3, h4, h5⟩ := h
  ⟨A, c, vs, h1, h2, h3, h4.up hb hB, fun i x hi => let ⟨u, hu, hs⟩ := h5 i x hi; ⟨u, hu, hs.up hb hB⟩⟩
theorem SlOrders.up {w w' : World} {B B' : Nat} {v : Value} {l : List Order} (h : SlOrders w B v l) (hb : Below B w w') (hB : B ≤ B') : SlOrders w' B' v l :=
  let ⟨A, c, vs, h1, h2, h3, h4, h5⟩ := h
  ⟨A, c, vs, h1, h2, h3, h4.up hb hB, fun i x hi => let ⟨u, hu, hs⟩ := h5 i x hi; ⟨u, hu, hs.up hb hB⟩⟩

def PlanV (w : World) (B : Nat) (v : Value) (p : Plan) : Prop :=
  ∃ vb vs, v = .agg #[vb, vs] ∧ Sl cBin w B vb p.bins ∧ Sl cInt w B vs p.sizes
def StateV (w : World) (B : Nat) (v : Value) (s : State) : Prop :=
  ∃ v0 v1 v2 v3 v4 v5 v6, v = .agg #[v0, v1, v2, v3, v4, v5, v6] ∧ SlSl cInt w B v0 s.on ∧ SlOrders w B v1 s.orders ∧ Sl cHold w B v2 s.holds ∧ Sl cMove w B v3 s.moves ∧
    Sl cInt w B v4 s.inn ∧ Sl cInt w B v5 s.out ∧ Sl cInt w B v6 s.fixed
theorem PlanV.up {w w' : World} {B B' : Nat} {v : Value} {p : Plan} (h : PlanV w B v p) (hb : Below B w w') (hB : B ≤ B') : PlanV w' B' v p :=
  let ⟨vb, vs, h1, h2, h3⟩ := h
  ⟨vb, vs, h1, h2.up hb hB, h3.up hb hB⟩
theorem StateV.up {w w' : World} {B B' : Nat} {v : Value} {s : State} (h : StateV w B v s) (hb : Below B w w') (hB : B ≤ B') : StateV w' B' v s :=
  let ⟨v0, v1, v2, v3, v4, v5, v6, h, h0, h1, h2, h3, h4, h5, h6⟩ := h
  ⟨v0, v1, v2, v3, v4, v5, v6, h, h0.up hb hB, h1.up hb hB, h2.up hb hB, h3.up hb hB, h4.up hb hB, h5.up hb hB, h6.up hb hB⟩

-- one element's cells
section
variable {w : World} {B : Nat} {A : Option Addr}
theorem At.flat {α : Type} {enc : α → List Value} {k : Nat} (hk : ∀ x, (enc x).length = k) {l : List α} (h : At w B A (l.flatMap enc)) {i : Nat} {x : α} (hi : l[i]? = some x) {j : Nat} (hj : j < k) {v : Value} (hv : (enc x)[j]? = some v) :
    w.cell? ⟨ablk A, aoff A + i * k + j, none⟩ = some v := by
  have h1 := flat_get enc k hk l i j x hi hj
  rw [hv] at h1
  rw [Nat.add_assoc]
  exact h.cell h1
theorem At.okOf {α : Type} {enc : α → List Value} {k : Nat} (hk : ∀ x, (enc x).length = k + 1) {l : List α} (h : At w B A (l.flatMap enc)) {i : Nat} (hi : i < l.length) : okA A ∧ ablk A < B := by
  have h1 : 0 < (l.flatMap enc).length := by rw [flat_length enc (k + 1) hk]; exact Nat.mul_pos (by omega) (by omega)
  exact ⟨h.ok h1, h.lt h1⟩
theorem At.int {l : List Int} (h : At w B A (l.flatMap cInt)) {i : Nat} (hi : i < l.length) :
    okA A ∧ ablk A < B ∧ w.cell? ⟨ablk A, aoff A + i, none⟩ = some (.int .i64 (intAt l i)) := by
  obtain ⟨h1, h2⟩ := h.okOf (k := 0) (fun _ => rfl) hi
  have e : l[i]? = some (intAt l i) := by simp [intAt, hi]
  have h3 := h.flat (k := 1) (fun _ => rfl) e (j := 0) (by omega) rfl
  simp only [Nat.mul_one, Nat.add_zero] at h3
  exact ⟨h1, h2, h3⟩
theorem At.bin {l : List Bin} (h : At w B A (l.flatMap cBin)) {i : Nat} (hi : i < l.length) :
    okA A ∧ ablk A < B ∧ w.cell? ⟨ablk A, aoff A + i * 4, none⟩ = some (.bool (binAt l i).front) ∧ w.cell? ⟨ablk A, aoff A + i * 4 + 1, none⟩ = some (.int .i64 (binAt l i).room) ∧
    w.cell? ⟨ablk A, aoff A + i * 4 + 2, none⟩ = some (.int .i64 (binAt l i).low) ∧ w.cell? ⟨ablk A, aoff A + i * 4 + 3, none⟩ = some (.int .i64 (binAt l i).high) := by
  obtain ⟨h1, h2⟩ := h.okOf (k := 3) (fun _ => rfl) hi
  have e : l[i]? = some (binAt l i) := by simp [binAt, hi]
  have f := fun j hj v hv => h.flat (k := 4) (fun _ => rfl) e (j := j) hj (v := v) hv
  exact ⟨h1, h2, f 0 (by omega) _ rfl, f 1 (by omega) _ rfl, f 2 (by omega) _ rfl, f 3 (by omega) _ rfl⟩
theorem At.hold {l : List Hold} (h : At w B A (l.flatMap cHold)) {i : Nat} (hi : i < l.length) :
    okA A ∧ ablk A < B ∧ w.cell? ⟨ablk A, aoff A + i * 4, none⟩ = some (.int .i64 (hold l i).order) ∧ w.cell? ⟨ablk A, aoff A + i * 4 + 1, none⟩ = some (.int .i64 (hold l i).line) ∧
    w.cell? ⟨ablk A, aoff A + i * 4 + 2, none⟩ = some (.int .i64 (hold l i).bin) ∧ w.cell? ⟨ablk A, aoff A + i * 4 + 3, none⟩ = some (.int .i64 (hold l i).n) := by
  obtain ⟨h1, h2⟩ := h.okOf (k := 3) (fun _ => rfl) hi
  have e : l[i]? = some (Wh.hold l i) := by simp [Wh.hold, hi]
  have f := fun j hj v hv => h.flat (k := 4) (fun _ => rfl) e (j := j) hj (v := v) hv
  exact ⟨h1, h2, f 0 (by omega) _ rfl, f 1 (by omega) _ rfl, f 2 (by omega) _ rfl, f 3 (by omega) _ rfl⟩
theorem At.line {l : List Line} (h : At w B A (l.flatMap cLine)) {i : Nat} (hi : i < l.length) :
    okA A ∧ ablk A < B ∧ w.cell? ⟨ablk A, aoff A + i * 4, none⟩ = some (.int .i64 (lineAt l i).good) ∧ w.cell? ⟨ablk A, aoff A + i * 4 + 1, none⟩ = some (.int .i64 (lineAt l i).want) ∧
    w.cell? ⟨ablk A, aoff A + i * 4 + 2, none⟩ = some (.int .i64 (lineAt l i).got) ∧ w.cell? ⟨ablk A, aoff A + i * 4 + 3, none⟩ = some (.int .i64 (lineAt l i).back) := by
  obtain ⟨h1, h2⟩ := h.okOf (k := 3) (fun _ => rfl) hi
  have e : l[i]? = some (lineAt l i) := by simp [lineAt, hi]
  have f := fun j hj v hv => h.flat (k := 4) (fun _ => rfl) e (j := j) hj (v := v) hv
  exact ⟨h1, h2, f 0 (by omega) _ rfl, f 1 (by omega) _ rfl, f 2 (by omega) _ rfl, f 3 (by omega) _ rfl⟩
theorem At.move {l : List Move} (h : At w B A (l.flatMap cMove)) {i : Nat} (hi : i < l.length) :
    okA A ∧ ablk A < B ∧ w.cell? ⟨ablk A, aoff A + i * 4, none⟩ = some (.int .i64 (moveAt l i).good) ∧ w.cell? ⟨ablk A, aoff A + i * 4 + 1, none⟩ = some (.int .i64 (moveAt l i).src) ∧
    w.cell? ⟨ablk A, aoff A + i * 4 + 2, none⟩ = some (.int .i64 (moveAt l i).dst) ∧ w.cell? ⟨ablk A, aoff A + i * 4 + 3, none⟩ = some (.int .i64 (moveAt l i).n) := by
  obtain ⟨h1, h2⟩ := h.okOf (k := 3) (fun _ => rfl) hi
  have e : l[i]? = some (moveAt l i) := by simp [moveAt, hi]
  have f := fun j hj v hv => h.flat (k := 4) (fun _ => rfl) e (j := j) hj (v := v) hv
  exact ⟨h1, h2, f 0 (by omega) _ rfl, f 1 (by omega) _ rfl, f 2 (by omega) _ rfl, f 3 (by omega) _ rfl⟩
end
theorem Sl.isSlice {α : Type} {enc : α → List Value} {w : World} {B : Nat} {v : Value} {l : List α} (h : Sl enc w B v l) : ∃ A c, v = .slice A l.length c :=
  let ⟨A, c, h1, _, _⟩ := h
  ⟨A, c, h1⟩
theorem SlSl.row {w : World} {B : Nat} {A : Option Addr} {n c : Nat} {l : List (List Int)} (h : SlSl cInt w B (.slice A n c) l) {i : Nat} (hi : i < l.length) :
    ∃ A' c', okA A ∧ ablk A < B ∧ w.cell? ⟨ablk A, aoff A + i, none⟩ = some (.slice A' (rowAt l i).length c') ∧ Sl cInt w B (.slice A' (rowAt l i).length c') (rowAt l i) := by
  obtain ⟨A0, c0, vs, hv, _, hvl, hA, hr⟩ := h
  injection hv with h1 h2 h3
  subst h1
  obtain ⟨u, hu, hs⟩ := hr i l[i] (by simp [hi])
  have e : rowAt l i = l[i] := by simp [rowAt, hi]
  have h0 : 0 < vs.length := by omega
  obtain ⟨A', c', rfl⟩ := hs.isSlice
  rw [e]
  exact ⟨A', c', hA.ok h0, hA.lt h0, hA.cell hu, hs⟩
theorem SlOrders.order {w : World} {B : Nat} {A : Option Addr} {n c : Nat} {l : List Order} (h : SlOrders w B (.slice A n c) l) {i : Nat} (hi : i < l.length) :
    ∃ A' c', okA A ∧ ablk A < B ∧ w.cell? ⟨ablk A, aoff A + i * 2, none⟩ = some (.int .i64 (orderAt l i).kind) ∧
      w.cell? ⟨ablk A, aoff A + i * 2 + 1, none⟩ = some (.slice A' (orderAt l i).lines.length c') ∧ Sl cLine w B (.slice A' (orderAt l i).lines.length c') (orderAt l i).lines := by
  obtain ⟨A0, c0, vs, hv, _, hvl, hA, hr⟩ := h
  injection hv with h1 h2 h3
  subst h1
  obtain ⟨u, hu, hs⟩ := hr i l[i] (by simp [hi])
  have e : orderAt l i = l[i] := by simp [orderAt, hi]
  obtain ⟨A', c', rfl⟩ := hs.isSlice
  rw [e]
  have hz : (l.zip vs)[i]? = some (l[i], .slice A' l[i].lines.length c') := by
    rw [List.getElem?_zip_eq_some]
    exact ⟨by simp [hi], hu⟩
  have hzl : i < (l.zip vs).length := by rw [List.length_zip]; omega
  have f := fun j hj v hv => hA.flat (k := 2) (fun _ => rfl) hz (j := j) hj (v := v) hv
  obtain ⟨h1, h2⟩ := hA.okOf (k := 1) (fun _ => rfl) hzl
  exact ⟨A', c', h1, h2, f 0 (by omega) _ rfl, f 1 (by omega) _ rfl, hs⟩

/-- It returns a value that reads so; below the heap's end nothing has turned. -/
def Gives (R : Value → World → Prop) (w : World) (e : Ending) (w' : World) : Prop := ∃ v, e = .returned v ∧ R v w' ∧ Below w.heap.size w w'
/-- A row of the call's own, from block 'base' on, that holds the list l. -/
def Own {α : Type} (enc : α → List Value) (size : Nat) (e : TypeId) (w : World) (base : Nat) (v : Value) (l : List α) : Prop := w.ownsRow base e size v l.length (l.flatMap enc)
def Elem (P : Program) (e : TypeId) (z : Value) (size bytes : Nat) : Prop := ∃ i, P.info? e = some i ∧ i.zero = some z ∧ i.size = size ∧ i.bytes = bytes
theorem elem_of {P : Program} {e : TypeId} {z : Value} {size bytes : Nat} (h : (P.info? e).map (fun i => (i.zero, i.size, i.bytes)) = some (some z, size, bytes)) : Elem P e z size bytes := by
  cases hi : P.info? e with
  | none => rw [hi] at h; simp at h
  | some i =>
    rw [hi] at h
    simp only [Option.map_some, Option.some.injEq, Prod.mk.injEq] at h
    exact ⟨i, hi, h.1, h.2.1, h.2.2⟩
section
variable {α : Type} {enc : α → List Value} {size : Nat} {e : TypeId} {w w' : World} {base : Nat} {v : Value} {l : List α}
theorem Own.nil : Own enc size e w base (.slice none 0 0) [] := World.ownsRow_nil w base e size
theorem Own.alloc (h : Own enc size e w base v l) (o : Obj) : Own enc size e (w.alloc o) base v l := World.ownsRow.alloc h o
theorem Own.from_ {base' : Nat} (h : Own enc size e w base v l) (hb : base' ≤ base) : Own enc size e w base' v l := by
  refine ⟨h.1, ?_⟩
  rcases h.2 with hn | ⟨g, cap, cur, h1, h2, r⟩
  · exact .inl hn
  · exact .inr ⟨g, cap, cur, h1, by omega, r⟩
theorem Own.isSlice (h : Own enc size e w base v l) : ∃ A c, v = .slice A l.length c := by
  rcases h.2 with ⟨h1, h2⟩ | ⟨g, cap, cur, h1, _⟩
  · exact ⟨none, 0, by rw [h1, h2]⟩
  · exact ⟨_, _, h1⟩
theorem Own.below (h : Own enc size e w base v l) (hb : Below w.heap.size w w') : Own enc size e w' base v l := by
  refine ⟨h.1, ?_⟩
  rcases h.2 with hn | ⟨g, cap, cur, rfl, hbg, hg, rest⟩
  · exact .inl hn
  · exact .inr ⟨g, cap, cur, rfl, hbg, by rw [hb.block g (Array.getElem?_eq_some_iff.1 hg).1]; exact hg, rest⟩
theorem Own.sl (h : Own enc size e w base v l) (hn : l.length ≤ 140737488355232) : Sl enc w w.heap.size v l := by
  rcases h.2 with ⟨h1, h2⟩ | ⟨g, cap, cur, rfl, hb, hg, hnc, hcm, hcs, htake⟩
  · obtain rfl : l = [] := List.eq_nil_of_length_eq_zero h2
    subst h1
    exact Sl.nil
  · refine ⟨some ⟨g, 0, none⟩, cap, rfl, hn, fun _ => ⟨okA_some _ _, (Array.getElem?_eq_some_iff.1 hg).1, fun j u hj => ?_⟩⟩
    have hh : w.ownsRow base e size (.slice (some ⟨g, 0, none⟩) l.length cap) l.length (l.flatMap enc) := h
    have := hh.cells (g := g) rfl j u hj
    simpa [Addr.add_lit, ablk, aoff] using this
end
theorem Own.size {α : Type} {enc : α → List Value} {size : Nat} {e : TypeId} {w : World} {base : Nat} {v : Value} {l : List α} (h : Own enc size e w base v l) : ∀ k, v.ownBlock = some k → base ≤ k ∧ k < w.heap.size := World.ownsRow.lt h
section
variable {P : Program} (w : World)
/-- One element more: 'v = append(v, x)'. -/
theorem wpList_push {α : Type} {enc : α → List Value} {ops : Array Oper} {rest : List Oper} {o : Oper} {a : Act} {Q : Exit → Act → World → Prop} (hgd : o.guard = none) (s x : Operand) (t e : TypeId)
    (ho : o.op = .call { callee := .builtin .append, args := #[s, x], argTypes := #[t, t] }) (base : Nat) (z : Value) (size bytes : Nat) (ht : P.underlying t = some (.slice e)) (hi : Elem P e z size bytes)
    (hzs : z.cells.size = size) (hsz : 0 < size) (hby : bytes ≤ 64) (v : Value) (l : List α) (y : α) (hs : a.eval s = v) (hown : Own enc size e w base v l)
    (ad : Addr) (c : Nat) (hx : a.eval x = .slice (some ad) 1 c) (hl : (enc y).length = size) (hnews : ∀ j u, (enc y)[j]? = some u → w.cell? (ad.add j) = some u) (h1 : ∀ u ∈ enc y, u.oneCell' = true)
    (hn : l.length ≤ 1000000) (hbase : base ≤ w.heap.size)
    (h : ∀ v' w', Own enc size e w' base v' (l ++ [y]) → w.grownBy w' v.ownBlock → (v'.ownBlock = v.ownBlock ∨ v'.ownBlock = some w.heap.size) → Below base w w' → wpList P ops Q rest (a.put o.dst v') w') :
    wpList P ops Q (o :: rest) a w := by
  obtain ⟨i, hi, hz, hsize, hbytes⟩ := hi
  have hb : (l.length + 1) * bytes ≤ 140737488355328 := Nat.le_trans (Nat.mul_le_mul (show l.length + 1 ≤ 1000001 by omega) hby) (by decide)
  refine wpList_append_own_at w hgd s x t ho base e i z size bytes ht hi hz hsize hbytes hzs hsz v l.length _ hs hown ad 1 c (enc y) hx (by rw [hl, Nat.one_mul]) hnews h1 (by unfold maxLen; omega) hb hbase ?_
  intro v' w' h2 h3 _ h5
  refine h v' w' ?_ h3 h5 ((Below.refl _ _).grown h3 hbase fun k hk => (World.ownsRow.lt hown k hk).1)
  unfold Own
  rw [List.length_append, List.flatMap_append]
  simpa using h2
end
theorem Sl.grow {α : Type} {enc : α → List Value} {w w' : World} {v : Value} {l : List α} (h : Sl enc w w.heap.size v l) (hb : Below w.heap.size w w') : Sl enc w' w'.heap.size v l := h.up hb hb.size
theorem SlSl.grow {α : Type} {enc : α → List Value} {w w' : World} {v : Value} {l : List (List α)} (h : SlSl enc w w.heap.size v l) (hb : Below w.heap.size w w') : SlSl enc w' w'.heap.size v l := h.up hb hb.size
theorem PlanV.grow {w w' : World} {v : Value} {p : Plan} (h : PlanV w w.heap.size v p) (hb : Below w.heap.size w w') : PlanV w' w'.heap.size v p := h.up hb hb.size
theorem StateV.grow {w w' : World} {v : Value} {s : State} (h : StateV w w.heap.size v s) (hb : Below w.heap.size w w') : StateV w' w'.heap.size v s := h.up hb hb.size

end Wh
namespace Wh
/-- The plan of the examples. -/
def yardP : Plan := ⟨[⟨false, 100, 0, 0⟩, ⟨true, 30, 4, 8⟩, ⟨false, 60, 0, 0⟩], [2, 3]⟩
-- the first at which something holds
def idxOf {α : Type} (p : α → Bool) (l : List α) : Int := if l.any p then (l.findIdx p : Int) else -1
theorem idxOf_at {α : Type} {p : α → Bool} {l : List α} {k : Nat} (hk : k < l.length) (h : p l[k] = true) (hn : ∀ j (hj : j < k), p (l[j]'(by omega)) = false) : (k : Int) = idxOf p l := by
  unfold idxOf
  rw [if_pos (List.any_eq_true.2 ⟨l[k], List.getElem_mem hk, h⟩), (List.findIdx_eq hk).2 ⟨h, hn⟩]
theorem idxOf_none {α : Type} {p : α → Bool} {l : List α} (hn : ∀ j (hj : j < l.length), p l[j] = false) : (-1 : Int) = idxOf p l := by
  unfold idxOf
  rw [if_neg]
  rw [List.any_eq_true]
  rintro ⟨x, hx, h⟩
  obtain ⟨j, hj, rfl⟩ := List.getElem_of_mem hx
  rw [hn j hj] at h
  exact absurd h (by decide)
theorem idxOf_any {α : Type} (p : α → Bool) (l : List α) : decide (0 ≤ idxOf p l) = l.any p := by
  unfold idxOf
  cases h : l.any p
  · simp
  · simp

-- the least and the greatest of the first numbers
def minTo (f : Nat → Int) : Nat → Int
  | 0 => f 0
  | k + 1 => min (minTo f k) (f (k + 1))
def maxTo (f : Nat → Int) : Nat → Int
  | 0 => f 0
  | k + 1 => max (maxTo f k) (f (k + 1))
theorem le_minTo {f : Nat → Int} {lo : Int} : ∀ {k : Nat}, lo ≤ minTo f k ↔ ∀ j, j ≤ k → lo ≤ f j
  | 0 => ⟨fun h j hj => by obtain rfl : j = 0 := by omega
                           exact h, fun h => h 0 (Nat.le_refl _)⟩
  | k + 1 => by
    have ih := @le_minTo f lo k
    rw [minTo, Int.le_min]
    constructor
    · rintro ⟨h1, h2⟩ j hj
      by_cases he : j = k + 1
      · subst he; exact h2
      · exact ih.1 h1 j (by omega)
    · exact fun h => ⟨ih.2 fun j hj => h j (by omega), h _ (Nat.le_refl _)⟩
theorem maxTo_le {f : Nat → Int} {hi : Int} : ∀ {k : Nat}, maxTo f k ≤ hi ↔ ∀ j, j ≤ k → f j ≤ hi
  | 0 => ⟨fun h j hj => by obtain rfl : j = 0 := by omega
                           exact h, fun h => h 0 (Nat.le_refl _)⟩
  | k + 1 => by
    have ih := @maxTo_le f hi k
    rw [maxTo, Int.max_le]
    constructor
    · rintro ⟨h1, h2⟩ j hj
      by_cases he : j = k + 1
      · subst he; exact h2
      · exact ih.1 h1 j (by omega)
    · exact fun h => ⟨ih.2 fun j hj => h j (by omega), h _ (Nat.le_refl _)⟩
def lowest (l : List Int) : Int := minTo (intAt l) (l.length - 1)
def greatest (l : List Int) : Int := maxTo (intAt l) (l.length - 1)

-- chapter 1
-- sums
theorem sumTo_congr {f g : Nat → Int} {n : Nat} (h : ∀ k, k < n → f k = g k) : sumTo f n = sumTo g n := by
  induction n with
  | zero => rfl
  | succ n ih => rw [sumTo, sumTo, ih (fun k hk => h k (by omega)), h n (by omega)]
theorem sumTo_one {f g : Nat → Int} {n i : Nat} {d : Int} (hi : i < n) (h : ∀ k, k < n → k ≠ i → g k = f k) (hd : g i = f i + d) : sumTo g n = sumTo f n + d := by
  induction n with
  | zero => omega
  | succ n ih =>
    rw [sumTo, sumTo]
    rcases Nat.lt_succ_iff_lt_or_eq.1 hi with hlt | rfl
    · rw [ih hlt (fun k hk hne => h k (by omega) hne), h n (by omega) (by omega)]
      omega
    · rw [sumTo_congr (fun k hk => h k (by omega) (by omega)), hd]
      omega
theorem sumTo_bounds {f : Nat → Int} {n : Nat} {m : Int} (h : ∀ k, k < n → 0 ≤ f k ∧ f k ≤ m) : 0 ≤ sumTo f n ∧ sumTo f n ≤ n * m := by
  induction n with
  | zero => simp [sumTo]
  | succ n ih =>
    have h1 := ih (fun k hk => h k (by omega))
    have h2 := h n (by omega)
    have h3 : ((n + 1 : Nat) : Int) * m = n * m + m := by rw [Int.natCast_add, Int.add_mul]; simp
    rw [sumTo, h3]
    omega

-- rows
theorem intAt_eq {l : List Int} {i : Nat} (h : i < l.length) : intAt l i = l[i] := by simp [intAt, h]
theorem rowAt_eq {l : List (List Int)} {i : Nat} (h : i < l.length) : rowAt l i = l[i] := by simp [rowAt, h]
theorem lineAt_eq {l : List Line} {i : Nat} (h : i < l.length) : lineAt l i = l[i] := by simp [lineAt, h]
theorem moveAt_eq {l : List Move} {i : Nat} (h : i < l.length) : moveAt l i = l[i] := by simp [moveAt, h]
theorem orderAt_eq {l : List Order} {i : Nat} (h : i < l.length) : orderAt l i = l[i] := by simp [orderAt, h]
theorem rowAt_set {l : List (List Int)} {i j : Nat} {r : List Int} (h : i < l.length) : rowAt (l.set i r) j = if j = i then r else rowAt l j := by
  unfold rowAt
  simp only [List.getD_eq_getElem?_getD]
  by_cases hj : j = i
  · subst hj
    rw [if_pos rfl, List.getElem?_set_self h]
    rfl
  · rw [if_neg hj, List.getElem?_set_ne (Ne.symm hj)]
theorem length_setCell {on : List (List Int)} {b g : Nat} {n : Int} : (setCell on b g n).length = on.length := by simp [setCell]
theorem within_iff {n lo hi : Int} : within n lo hi = true ↔ lo ≤ n ∧ n ≤ hi := by simp [within]
theorem within_false {n lo hi : Int} : within n lo hi = false ↔ n < lo ∨ hi < n := by
  have := @within_iff n lo hi
  cases h : within n lo hi <;> simp [h] at this ⊢ <;> omega
theorem isBin_iff {p : Plan} {b : Int} : isBin p b = true ↔ 0 ≤ b ∧ b < p.bins.length := by rw [isBin, within_iff]; omega
theorem isGood_iff {p : Plan} {g : Int} : isGood p g = true ↔ 0 ≤ g ∧ g < p.sizes.length := by rw [isGood, within_iff]; omega
/-- A right shelf, by its cells. -/
theorem shelfOk_iff {p : Plan} {on : List (List Int)} : shelfOk p on = true ↔
    on.length = p.bins.length ∧ ∀ b, b < on.length → (rowAt on b).length = p.sizes.length ∧ ∀ g, g < p.sizes.length → 0 ≤ cell on b g ∧ cell on b g ≤ 200 := by
  simp only [shelfOk, Bool.and_eq_true, decide_eq_true_eq, List.all_eq_true, rowOk]
  constructor
  · rintro ⟨h1, h2⟩
    refine ⟨h1, fun b hb => ?_⟩
    obtain ⟨h3, h4⟩ := h2 on[b] (List.getElem_mem hb)
    unfold cell
    rw [rowAt_eq hb]
    refine ⟨h3, fun g hg => ?_⟩
    have h5 := h4 on[b][g] (List.getElem_mem (by omega))
    rw [within_iff] at h5
    rw [intAt_eq (by omega)]
    exact h5
  · rintro ⟨h1, h2⟩
    refine ⟨h1, fun row hr => ?_⟩
    obtain ⟨b, hb, rfl⟩ := List.getElem_of_mem hr
    obtain ⟨h3, h4⟩ := h2 b hb
    unfold cell at h4
    rw [rowAt_eq hb] at h3 h4
    refine ⟨h3, fun x hx => ?_⟩
    obtain ⟨g, hg, rfl⟩ := List.getElem_of_mem hx
    have h5 := h4 g (by omega)
    rw [intAt_eq hg] at h5
    rw [within_iff]
    exact h5
theorem checkShelf_zero {p : Plan} {on : List (List Int)} : checkShelf p on = 0 ↔ checkPlan p = 0 ∧ shelfOk p on = true := by
  unfold checkShelf
  by_cases h : checkPlan p = 0
  · simp [h]
  · simp [h]
theorem shelfError_zero {p : Plan} {on : List (List Int)} {b g : Int} : shelfError p on b g = 0 ↔ checkShelf p on = 0 ∧ isBin p b = true ∧ isGood p g = true := by
  unfold shelfError
  by_cases h : checkShelf p on = 0
  · simp only [h, ne_eq, not_true_eq_false, ite_false, true_and, Bool.and_eq_true]
    split <;> simp_all
  · simp [h]
theorem checkPlan_zero {p : Plan} : checkPlan p = 0 ↔ (1 ≤ p.bins.length ∧ p.bins.length ≤ 6) ∧ (1 ≤ p.sizes.length ∧ p.sizes.length ≤ 3) ∧ (∀ b ∈ p.bins, binOk b = true) ∧ ∀ x ∈ p.sizes, sizeOk x = true := by
  unfold checkPlan
  by_cases h1 : (within p.bins.length 1 6 && within p.sizes.length 1 3) = true
  · simp only [h1, Bool.not_true, Bool.false_eq_true, ite_false]
    simp only [Bool.and_eq_true, within_iff] at h1
    by_cases h2 : (p.bins.all binOk && p.sizes.all sizeOk) = true
    · simp only [h2, Bool.not_true, Bool.false_eq_true, ite_false, true_iff]
      simp only [Bool.and_eq_true, List.all_eq_true] at h2
      exact ⟨by omega, by omega, h2.1, h2.2⟩
    · simp only [Bool.not_eq_true] at h2
      simp only [h2, Bool.not_false, ite_true]
      constructor
      · intro h; omega
      · rintro ⟨_, _, h3, h4⟩
        simp [List.all_eq_true.2 h3, List.all_eq_true.2 h4] at h2
  · simp only [Bool.not_eq_true] at h1
    simp only [h1, Bool.not_false, ite_true]
    constructor
    · intro h; omega
    · rintro ⟨h3, h4, _⟩
      have : (within p.bins.length 1 6 && within p.sizes.length 1 3) = true := by
        simp only [Bool.and_eq_true, within_iff]; omega
      rw [this] at h1
      exact absurd h1 (by decide)

theorem binAt_eq {l : List Bin} {i : Nat} (h : i < l.length) : binAt l i = l[i] := by simp [binAt, h]
theorem checkPlan_two {p : Plan} (h : within p.bins.length 1 6 = false ∨ within p.sizes.length 1 3 = false) : checkPlan p = 2 := by
  unfold checkPlan
  rcases h with h | h <;> simp [h]
theorem checkPlan_bin {p : Plan} (h1 : within p.bins.length 1 6 = true) (h2 : within p.sizes.length 1 3 = true) {k : Nat} (hk : k < p.bins.length) (h : binOk (binAt p.bins k) = false) : checkPlan p = 3 := by
  unfold checkPlan
  rw [h1, h2]
  have : (p.bins.all binOk) = false := by
    rw [List.all_eq_false]
    exact ⟨p.bins[k], List.getElem_mem hk, by rw [binAt_eq hk] at h; rw [h]; decide⟩
  simp [this]
theorem checkPlan_size {p : Plan} (h1 : within p.bins.length 1 6 = true) (h2 : within p.sizes.length 1 3 = true) {k : Nat} (hk : k < p.sizes.length) (h : sizeOk (intAt p.sizes k) = false) : checkPlan p = 3 := by
  unfold checkPlan
  rw [h1, h2]
  have : (p.sizes.all sizeOk) = false := by
    rw [List.all_eq_false]
    exact ⟨p.sizes[k], List.getElem_mem hk, by rw [intAt_eq hk] at h; rw [h]; decide⟩
  simp [this]
theorem checkPlan_ok {p : Plan} (h1 : within p.bins.length 1 6 = true) (h2 : within p.sizes.length 1 3 = true) (h3 : ∀ k, k < p.bins.length → binOk (binAt p.bins k) = true) (h4 : ∀ k, k < p.sizes.length → sizeOk (intAt p.sizes k) = true) : checkPlan p = 0 := by
  rw [within_iff] at h1 h2
  rw [checkPlan_zero]
  refine ⟨by omega, by omega, fun b hb => ?_, fun x hx => ?_⟩
  · obtain ⟨i, hi, rfl⟩ := List.getElem_of_mem hb
    have := h3 i hi
    rwa [binAt_eq hi] at this
  · obtain ⟨i, hi, rfl⟩ := List.getElem_of_mem hx
    have := h4 i hi
    rwa [intAt_eq hi] at this
theorem binOk_parts (b : Bin) : (within b.room 0 1000 = false ∧ binOk b = false) ∨ (within b.room 0 1000 = true ∧ within b.high 0 200 = false ∧ binOk b = false) ∨
    (within b.room 0 1000 = true ∧ within b.high 0 200 = true ∧ within b.low 0 b.high = false ∧ binOk b = false) ∨ (within b.room 0 1000 = true ∧ within b.high 0 200 = true ∧ within b.low 0 b.high = true ∧ binOk b = true) := by
  unfold binOk
  cases within b.room 0 1000 <;> cases within b.high 0 200 <;> cases within b.low 0 b.high <;> simp

theorem any_bad (p : Plan) : (p.bins.any fun b => !binOk b) = !(p.bins.all binOk) := by
  rw [List.not_all_eq_any_not]
theorem checkPlan_bad {p : Plan} (h1 : within p.bins.length 1 6 = true) (h2 : within p.sizes.length 1 3 = true) (h : (p.bins.any fun b => !binOk b) = true) : checkPlan p = 3 := by
  unfold checkPlan
  rw [any_bad, Bool.not_eq_true'] at h
  rw [h1, h2, h]
  simp
theorem checkPlan_lowest {p : Plan} (h1 : within p.bins.length 1 6 = true) (h2 : within p.sizes.length 1 3 = true) (h : lowest p.sizes < 1) : checkPlan p = 3 := by
  have h2' := within_iff.1 h2
  by_cases hex : ∃ k, k < p.sizes.length ∧ sizeOk (intAt p.sizes k) = false
  · obtain ⟨k, hk, hk'⟩ := hex
    exact checkPlan_size h1 h2 hk hk'
  · exfalso
    have hall : ∀ k, k < p.sizes.length → 1 ≤ intAt p.sizes k := fun k hk => by
      by_cases hs : sizeOk (intAt p.sizes k) = true
      · unfold sizeOk at hs; rw [within_iff] at hs; exact hs.1
      · exact absurd ⟨k, hk, by simpa using hs⟩ hex
    have := (le_minTo (f := intAt p.sizes) (lo := 1) (k := p.sizes.length - 1)).2 fun j hj => hall j (by omega)
    unfold lowest at h
    omega
theorem checkPlan_greatest {p : Plan} (h1 : within p.bins.length 1 6 = true) (h2 : within p.sizes.length 1 3 = true) (h : 9 < greatest p.sizes) : checkPlan p = 3 := by
  have h2' := within_iff.1 h2
  by_cases hex : ∃ k, k < p.sizes.length ∧ sizeOk (intAt p.sizes k) = false
  · obtain ⟨k, hk, hk'⟩ := hex
    exact checkPlan_size h1 h2 hk hk'
  · exfalso
    have hall : ∀ k, k < p.sizes.length → intAt p.sizes k ≤ 9 := fun k hk => by
      by_cases hs : sizeOk (intAt p.sizes k) = true
      · unfold sizeOk at hs; rw [within_iff] at hs; exact hs.2
      · exact absurd ⟨k, hk, by simpa using hs⟩ hex
    have := (maxTo_le (f := intAt p.sizes) (hi := 9) (k := p.sizes.length - 1)).2 fun j hj => hall j (by omega)
    unfold greatest at h
    omega
theorem checkPlan_good {p : Plan} (h1 : within p.bins.length 1 6 = true) (h2 : within p.sizes.length 1 3 = true) (h : (p.bins.any fun b => !binOk b) = false) (h3 : 1 ≤ lowest p.sizes) (h4 : greatest p.sizes ≤ 9) : checkPlan p = 0 := by
  have h2' := within_iff.1 h2
  rw [any_bad, Bool.not_eq_false'] at h
  refine checkPlan_ok h1 h2 (fun k hk => ?_) fun k hk => ?_
  · rw [binAt_eq hk]; exact List.all_eq_true.1 h _ (List.getElem_mem hk)
  · unfold sizeOk
    rw [within_iff]
    exact ⟨(le_minTo.1 h3) k (by omega), (maxTo_le.1 h4) k (by omega)⟩
theorem binOk_bad (b : Bin) : (within b.room 0 1000 = false ∧ binOk b = false) ∨ (within b.room 0 1000 = true ∧ 200 < b.high ∧ binOk b = false) ∨
    (within b.room 0 1000 = true ∧ b.high ≤ 200 ∧ within b.low 0 b.high = false ∧ binOk b = false) ∨ (within b.room 0 1000 = true ∧ b.high ≤ 200 ∧ within b.low 0 b.high = true ∧ binOk b = true) := by
  rcases binOk_parts b with ⟨h1, h2⟩ | ⟨h1, h2, h3⟩ | ⟨h1, h2, h3, h4⟩ | ⟨h1, h2, h3, h4⟩
  · exact .inl ⟨h1, h2⟩
  · rw [within_false] at h2
    by_cases hh : 200 < b.high
    · exact .inr (.inl ⟨h1, hh, h3⟩)
    · exact .inr (.inr (.inl ⟨h1, by omega, by rw [within_false]; omega, h3⟩))
  · rw [within_iff] at h2
    exact .inr (.inr (.inl ⟨h1, h2.2, h3, h4⟩))
  · rw [within_iff] at h2
    exact .inr (.inr (.inr ⟨h1, h2.2, h3, h4⟩))

theorem rowOk_bad {p : Plan} (row : List Int) (hn : 0 < p.sizes.length) : (row.length ≠ p.sizes.length ∧ rowOk p row = false) ∨ (row.length = p.sizes.length ∧ lowest row < 0 ∧ rowOk p row = false) ∨
    (row.length = p.sizes.length ∧ 0 ≤ lowest row ∧ 200 < greatest row ∧ rowOk p row = false) ∨ (row.length = p.sizes.length ∧ 0 ≤ lowest row ∧ greatest row ≤ 200 ∧ rowOk p row = true) := by
  by_cases h1 : row.length = p.sizes.length
  · have key : rowOk p row = true ↔ 0 ≤ lowest row ∧ greatest row ≤ 200 := by
      unfold rowOk lowest greatest
      simp only [h1, decide_true, Bool.true_and, List.all_eq_true]
      rw [le_minTo, maxTo_le]
      constructor
      · intro h
        exact ⟨fun j hj => by rw [intAt_eq (by omega)]; exact (within_iff.1 (h _ (List.getElem_mem _))).1, fun j hj => by rw [intAt_eq (by omega)]; exact (within_iff.1 (h _ (List.getElem_mem _))).2⟩
      · rintro ⟨h2, h3⟩ x hx
        obtain ⟨j, hj, rfl⟩ := List.getElem_of_mem hx
        rw [within_iff]
        have := h2 j (by omega)
        have := h3 j (by omega)
        rw [intAt_eq hj] at *
        omega
    by_cases h2 : lowest row < 0
    · exact .inr (.inl ⟨h1, h2, by rw [← Bool.not_eq_true, key]; omega⟩)
    · by_cases h3 : 200 < greatest row
      · exact .inr (.inr (.inl ⟨h1, by omega, h3, by rw [← Bool.not_eq_true, key]; omega⟩))
      · exact .inr (.inr (.inr ⟨h1, by omega, by omega, key.2 ⟨by omega, by omega⟩⟩))
  · exact .inl ⟨h1, by unfold rowOk; simp [h1]⟩
theorem rowOk_cell {p : Plan} {row : List Int} {j : Nat} (hj : j < row.length) (h : within (intAt row j) 0 200 = false) : rowOk p row = false := by
  unfold rowOk
  rw [Bool.and_eq_false_iff]
  right
  rw [List.all_eq_false]
  exact ⟨row[j], List.getElem_mem hj, by rw [intAt_eq hj] at h; rw [h]; decide⟩
theorem rowOk_all {p : Plan} {row : List Int} (hl : row.length = p.sizes.length) (h : ∀ j, j < row.length → within (intAt row j) 0 200 = true) : rowOk p row = true := by
  unfold rowOk
  rw [hl, decide_eq_true rfl, Bool.true_and, List.all_eq_true]
  intro x hx
  obtain ⟨j, hj, rfl⟩ := List.getElem_of_mem hx
  have := h j hj
  rwa [intAt_eq hj] at this
theorem any_badRow (p : Plan) (on : List (List Int)) : (on.any fun r => !rowOk p r) = !(on.all (rowOk p)) := by
  rw [List.not_all_eq_any_not]
theorem checkShelf_plan {p : Plan} {on : List (List Int)} (h : checkPlan p ≠ 0) : checkShelf p on = checkPlan p := by
  unfold checkShelf
  rw [if_pos h]
theorem checkShelf_len {p : Plan} {on : List (List Int)} (h : checkPlan p = 0) (hl : on.length ≠ p.bins.length) : checkShelf p on = 1 := by
  unfold checkShelf shelfOk
  simp [h, hl]
theorem checkShelf_bad {p : Plan} {on : List (List Int)} (h : checkPlan p = 0) (hb : (on.any fun r => !rowOk p r) = true) : checkShelf p on = 1 := by
  rw [any_badRow, Bool.not_eq_true'] at hb
  unfold checkShelf shelfOk
  simp [h, hb]
theorem checkShelf_good {p : Plan} {on : List (List Int)} (h : checkPlan p = 0) (hl : on.length = p.bins.length) (hb : (on.any fun r => !rowOk p r) = false) : checkShelf p on = 0 := by
  rw [any_badRow, Bool.not_eq_false'] at hb
  unfold checkShelf shelfOk
  simp [h, hl, hb]
theorem checkShelf_row {p : Plan} {on : List (List Int)} (h : checkPlan p = 0) {k : Nat} (hk : k < on.length) (hb : rowOk p (rowAt on k) = false) : checkShelf p on = 1 := by
  refine checkShelf_bad h ?_
  rw [List.any_eq_true]
  exact ⟨on[k], List.getElem_mem hk, by rw [rowAt_eq hk] at hb; rw [hb]; rfl⟩
theorem checkShelf_all {p : Plan} {on : List (List Int)} (h : checkPlan p = 0) (hl : on.length = p.bins.length) (hb : ∀ k, k < on.length → rowOk p (rowAt on k) = true) : checkShelf p on = 0 := by
  refine checkShelf_good h hl ?_
  rw [any_badRow, Bool.not_eq_false', List.all_eq_true]
  intro r hr
  obtain ⟨k, hk, rfl⟩ := List.getElem_of_mem hr
  have := hb k hk
  rwa [rowAt_eq hk] at this

/-- What a right shelf and a right plan give of each cell and size. -/
theorem right_cell {p : Plan} {on : List (List Int)} (h : checkShelf p on = 0) {b g : Nat} (hb : b < on.length) (hg : g < p.sizes.length) : 0 ≤ cell on b g ∧ cell on b g ≤ 200 :=
  ((shelfOk_iff.1 (checkShelf_zero.1 h).2).2 b hb).2 g hg
theorem right_row {p : Plan} {on : List (List Int)} (h : checkShelf p on = 0) {b : Nat} (hb : b < on.length) : (rowAt on b).length = p.sizes.length :=
  ((shelfOk_iff.1 (checkShelf_zero.1 h).2).2 b hb).1
theorem right_len {p : Plan} {on : List (List Int)} (h : checkShelf p on = 0) : on.length = p.bins.length := (shelfOk_iff.1 (checkShelf_zero.1 h).2).1
theorem right_size {p : Plan} (h : checkPlan p = 0) {g : Nat} (hg : g < p.sizes.length) : 1 ≤ intAt p.sizes g ∧ intAt p.sizes g ≤ 9 := by
  have h1 := (checkPlan_zero.1 h).2.2.2 p.sizes[g] (List.getElem_mem hg)
  unfold sizeOk at h1
  rw [within_iff] at h1
  rw [intAt_eq hg]
  exact h1
theorem right_bin {p : Plan} (h : checkPlan p = 0) {b : Nat} (hb : b < p.bins.length) : (0 ≤ (binAt p.bins b).room ∧ (binAt p.bins b).room ≤ 1000) ∧ (0 ≤ (binAt p.bins b).low ∧ (binAt p.bins b).low ≤ (binAt p.bins b).high) ∧ (0 ≤ (binAt p.bins b).high ∧ (binAt p.bins b).high ≤ 200) := by
  have h1 := (checkPlan_zero.1 h).2.2.1 p.bins[b] (List.getElem_mem hb)
  rw [← binAt_eq hb] at h1
  simp only [binOk, Bool.and_eq_true, within_iff] at h1
  exact ⟨h1.1.1, h1.2, h1.1.2⟩
theorem right_counts {p : Plan} (h : checkPlan p = 0) : 1 ≤ p.bins.length ∧ p.bins.length ≤ 6 ∧ 1 ≤ p.sizes.length ∧ p.sizes.length ≤ 3 := by
  have := checkPlan_zero.1 h
  omega
theorem prod_range {a b : Int} (ha : 0 ≤ a ∧ a ≤ 200) (hb : 1 ≤ b ∧ b ≤ 9) : 0 ≤ a * b ∧ a * b ≤ 1800 := by
  refine ⟨Int.mul_nonneg ha.1 (by omega), ?_⟩
  exact Int.le_trans (Int.mul_le_mul_of_nonneg_right ha.2 (by omega)) (by omega)
/-- What is used of a bin, as far as k goods go. -/
theorem used_range {p : Plan} {on : List (List Int)} (h : checkShelf p on = 0) {b : Nat} (hb : b < on.length) {k : Nat} (hk : k ≤ p.sizes.length) :
    0 ≤ sumTo (fun g => cell on b g * intAt p.sizes g) k ∧ sumTo (fun g => cell on b g * intAt p.sizes g) k ≤ k * 1800 :=
  sumTo_bounds fun _ hj => prod_range (right_cell h hb (by omega)) (right_size (checkShelf_zero.1 h).1 (by omega))
theorem sum_range {p : Plan} {on : List (List Int)} (h : checkShelf p on = 0) {g : Nat} (hg : g < p.sizes.length) {k : Nat} (hk : k ≤ on.length) :
    0 ≤ sumTo (fun b => cell on b g) k ∧ sumTo (fun b => cell on b g) k ≤ k * 200 :=
  sumTo_bounds fun _ hj => right_cell h (by omega) hg

end Wh
namespace Wh
open Go Go.RowKit
section
variable {P : Program} (w : World)
end
section
variable {α : Type} {enc : α → List Value} {size : Nat} {e : TypeId} {w w' : World} {base : Nat} {v : Value} {l : List α}
/-- A row that a literal makes. -/
theorem Own.lit (w : World) (e : TypeId) (cs : Array Value) (l : List α) (hb : base ≤ w.heap.size) (hm : l.length ≤ 1000000) (hk : ∀ x, (enc x).length = size) (hc : cs.toList = l.flatMap enc) :
    Own enc size e (w.alloc (.cells cs e)) base (.slice (some ⟨w.heap.size, 0, none⟩) l.length l.length) l := by
  have hs : cs.size = l.length * size := by rw [← Array.length_toList, hc, flat_length enc size hk]
  have := World.ownsRow_lit (e := e) w cs l.length hb (by unfold maxLen; omega) hs
  rw [hc] at this
  exact this
theorem Own.kept {row : Option Nat} (h : Own enc size e w base v l) (hg : w.grownBy w' row) (hne : v.ownBlock = none ∨ v.ownBlock ≠ row) : Own enc size e w' base v l := World.ownsRow.kept h hg hne
/-- The block in which it lies, its cells and their type. -/
theorem Own.block (h : Own enc size e w base v l) {g : Nat} (hg : v.ownBlock = some g) : ∃ cur, w.heap[g]? = some (.cells cur e (0, 0)) := by
  rcases h.2 with ⟨rfl, _⟩ | ⟨g', cap, cur, rfl, _, hh, _⟩
  · simp [Value.ownBlock] at hg
  · simp [Value.ownBlock] at hg
    subst hg
    exact ⟨cur, hh⟩
/-- Rows whose elements differ in type never share a block. -/
theorem Own.apart {β : Type} {enc' : β → List Value} {size' : Nat} {e' : TypeId} {base' : Nat} {v' : Value} {l' : List β} (h : Own enc size e w base v l) (h' : Own enc' size' e' w base' v' l') (hne : e ≠ e') :
    v.ownBlock = none ∨ v.ownBlock ≠ v'.ownBlock := by
  cases hv : v.ownBlock with
  | none => exact .inl rfl
  | some g =>
    refine .inr fun he => ?_
    obtain ⟨c1, h1⟩ := h.block hv
    obtain ⟨c2, h2⟩ := h'.block he.symm
    rw [h1] at h2
    injection h2 with h2
    injection h2 with _ h3
    exact hne h3
end
/-- Rows of numbers of the call's own: the outer row's elements have type E2, the numbers E1; gs: the rows' blocks. -/
def OwnOnV (E2 E1 : TypeId) (w : World) (base : Nat) (v : Value) (l : List (List Int)) (gs : List Nat) (vs : List Value) : Prop :=
  Own (fun u : Value => [u]) 1 E2 w base v vs ∧ vs.length = l.length ∧ gs.length = l.length ∧ gs.Nodup ∧
    ∀ (i : Nat) (x : List Int), l[i]? = some x → ∃ g c, vs[i]? = some (.slice (some ⟨g, 0, none⟩) x.length c) ∧ gs[i]? = some g ∧ Own cInt 1 E1 w base (.slice (some ⟨g, 0, none⟩) x.length c) x
def OwnOn (E2 E1 : TypeId) (w : World) (base : Nat) (v : Value) (l : List (List Int)) (gs : List Nat) : Prop := ∃ vs, OwnOnV E2 E1 w base v l gs vs

section
variable {E2 E1 : TypeId} {w w' : World} {base : Nat} {v : Value} {l : List (List Int)} {gs : List Nat}
theorem OwnOn.nil : OwnOn E2 E1 w base (.slice none 0 0) [] [] := ⟨[], Own.nil, rfl, rfl, List.nodup_nil, fun i x h => by simp at h⟩
theorem OwnOn.below (h : OwnOn E2 E1 w base v l gs) (hb : Below w.heap.size w w') : OwnOn E2 E1 w' base v l gs :=
  let ⟨vs, h1, h2, h3, h4, h5⟩ := h
  ⟨vs, h1.below hb, h2, h3, h4, fun i x hi => let ⟨g, c, e1, e2, e3⟩ := h5 i x hi; ⟨g, c, e1, e2, e3.below hb⟩⟩
theorem OwnOn.from_ {base' : Nat} (h : OwnOn E2 E1 w base v l gs) (hb : base' ≤ base) : OwnOn E2 E1 w base' v l gs :=
  let ⟨vs, h1, h2, h3, h4, h5⟩ := h
  ⟨vs, h1.from_ hb, h2, h3, h4, fun i x hi => let ⟨g, c, e1, e2, e3⟩ := h5 i x hi; ⟨g, c, e1, e2, e3.from_ hb⟩⟩
theorem OwnOn.drew (h : OwnOn E2 E1 w base v l gs) : OwnOn E2 E1 w.drew base v l gs := h
theorem OwnOn.mem (h : OwnOn E2 E1 w base v l gs) {g : Nat} (hg : g ∈ gs) : base ≤ g ∧ g < w.heap.size := by
  obtain ⟨vs, h1, h2, h3, h4, h5⟩ := h
  obtain ⟨i, hi, rfl⟩ := List.getElem_of_mem hg
  obtain ⟨g, c, e1, e2, e3⟩ := h5 i l[i] (by simp [← h3, hi])
  rw [List.getElem?_eq_getElem hi] at e2
  injection e2 with e2
  rw [e2]
  exact e3.size g rfl
/-- One row more. -/
theorem OwnOnV.push (hE : E1 ≠ E2) {vs : List Value} (h : OwnOnV E2 E1 w base v l gs vs) {w1 w2 : World} {v' : Value} {x : List Int} {g c : Nat} (hw : Below w.heap.size w w1) (hg : w.heap.size ≤ g)
    (hu : Own cInt 1 E1 w1 base (.slice (some ⟨g, 0, none⟩) x.length c) x) (hgrow : w1.grownBy w2 v.ownBlock)
    (hown : Own (fun u : Value => [u]) 1 E2 w2 base v' (vs ++ [.slice (some ⟨g, 0, none⟩) x.length c])) :
    OwnOn E2 E1 w2 base v' (l ++ [x]) (gs ++ [g]) := by
  have hmem := fun g' (hg' : g' ∈ gs) => OwnOn.mem ⟨vs, h⟩ hg'
  obtain ⟨h1, h2, h3, h4, h5⟩ := h
  have keep : ∀ {y : List Int} {g' c' : Nat}, Own cInt 1 E1 w1 base (.slice (some ⟨g', 0, none⟩) y.length c') y → Own cInt 1 E1 w2 base (.slice (some ⟨g', 0, none⟩) y.length c') y :=
    fun hy => hy.kept hgrow (Own.apart hy (h1.below hw) hE)
  refine ⟨_, hown, by simp [h2], by simp [h3], ?_, fun i y hi => ?_⟩
  · rw [List.nodup_append]
    refine ⟨h4, by simp, fun a ha b hb => ?_⟩
    obtain rfl := List.mem_singleton.1 hb
    have := (hmem a ha).2
    omega
  · by_cases hlt : i < l.length
    · rw [List.getElem?_append_left hlt] at hi
      obtain ⟨g', c', e1, e2, e3⟩ := h5 i y hi
      exact ⟨g', c', by rw [List.getElem?_append_left (by omega)]; exact e1, by rw [List.getElem?_append_left (by omega)]; exact e2, keep (e3.below hw)⟩
    · rw [List.getElem?_append_right (by omega)] at hi
      have hi0 : i - l.length = 0 := by
        rcases Nat.eq_zero_or_pos (i - l.length) with h0 | h0
        · exact h0
        · rw [List.getElem?_eq_none (by simp; omega)] at hi; simp at hi
      rw [hi0] at hi
      simp at hi
      subst hi
      exact ⟨g, c, by rw [List.getElem?_append_right (by omega)]; simp [h2, hi0], by rw [List.getElem?_append_right (by omega)]; simp [h3, hi0], keep hu⟩
end
/-- Rows that literals make. -/
theorem SlSl.lit {enc : Int → List Value} (w : World) (e : TypeId) (cs : Array Value) (l : List (List Int)) (hl : cs.toList.length = l.length) (hm : l.length ≤ 1000000)
    (hr : ∀ (i : Nat) (x : List Int), l[i]? = some x → ∃ u, cs.toList[i]? = some u ∧ Sl enc w w.heap.size u x) :
    SlSl enc (w.alloc (.cells cs e)) (w.alloc (.cells cs e)).heap.size (.slice (some ⟨w.heap.size, 0, none⟩) l.length l.length) l := by
  refine ⟨_, _, cs.toList, rfl, by omega, hl, fun _ => ⟨okA_some _ _, by simp [ablk], fun j v hj => ?_⟩, fun i x hi => ?_⟩
  · show (w.alloc (.cells cs e)).cell? ⟨w.heap.size, 0 + j, none⟩ = some v
    rw [Nat.zero_add, World.cell?_alloc_new]
    simpa using hj
  · obtain ⟨u, hu, hs⟩ := hr i x hi
    exact ⟨u, hu, hs.up ((Below.refl _ _).alloc (Nat.le_refl _) _) (by simp)⟩

end Wh
namespace Wh
open Go Go.RowKit
/-- The block g holds just these cells. -/
def Blk (w : World) (g : Nat) (e : TypeId) (cur : List Value) : Prop := w.heap[g]? = some (.cells cur.toArray e (0, 0))
section
variable {w : World} {g : Nat} {e : TypeId} {cur : List Value}
theorem Blk.lt (h : Blk w g e cur) : g < w.heap.size := (Array.getElem?_eq_some_iff.1 h).1
theorem Blk.cell (h : Blk w g e cur) {j : Nat} {v : Value} (hj : cur[j]? = some v) : w.cell? ⟨g, j, none⟩ = some v := by
  unfold Blk at h
  simp [World.cell?, h, hj]
theorem Blk.row (h : Blk w g e cur) (cs : List Value) : Blk (w.setRow g cs.toArray) g e cs := setRow_heap w g _ _ _ _ h
theorem Blk.drew (h : Blk w g e cur) : Blk w.drew g e cur := h
theorem Blk.alloc (h : Blk w g e cur) (o : Obj) : Blk (w.alloc o) g e cur := by
  unfold Blk at *
  rw [Below.heap_alloc _ _ _ (Array.getElem?_eq_some_iff.1 h).1]
  exact h
theorem Blk.new (w : World) (e : TypeId) (cs : Array Value) : Blk (w.alloc (.cells cs e)) w.heap.size e cs.toList := by
  show (w.heap.push (.cells cs e))[w.heap.size]? = _
  rw [Array.getElem?_push_size]
theorem Blk.below (h : Blk w g e cur) {B : Nat} {w' : World} (hb : Below B w w') (hg : g < B) : Blk w' g e cur := (hb.block g hg).trans h
theorem Blk.grown (h : Blk w g e cur) {w' : World} {row : Option Nat} (hg : w.grownBy w' row) (hne : some g ≠ row) : Blk w' g e cur := (hg.block g h.lt hne).trans h
theorem Blk.frozen (h : Blk w g e cur) (o : Nat) : w.frozen? ⟨g, o, none⟩ = false := by
  unfold Blk at h
  simp [World.frozen?, h]
theorem grown_row (w : World) (g : Nat) (cs : Array Value) : w.grownBy (w.setRow g cs) (some g) :=
  ⟨rfl, rfl, rfl, by simp [World.setRow], fun k _ hne => setRow_other w g k cs (fun e => hne (by rw [e]))⟩
end
section
variable {P : Program} (w : World)
end
section
variable {α : Type} {enc : α → List Value} {size : Nat} {e : TypeId} {w : World} {base : Nat} {v : Value} {l : List α}
theorem Own.row (h : Own enc size e w base v l) (hl : 0 < l.length) :
    ∃ g cap cur, v = .slice (some ⟨g, 0, none⟩) l.length cap ∧ base ≤ g ∧ Blk w g e cur ∧ l.length ≤ cap ∧ cap ≤ maxLen ∧ cur.length = cap * size ∧ cur.take (l.length * size) = l.flatMap enc := by
  rcases h.2 with ⟨_, h0⟩ | ⟨g, cap, cur, h1, h2, h3, h4, h5, h6, h7⟩
  · omega
  · exact ⟨g, cap, cur.toList, h1, h2, by unfold Blk; simpa using h3, h4, h5, by simpa using h6, h7⟩
end
theorem flat_set {α : Type} (enc : α → List Value) (k : Nat) (hk : ∀ x, (enc x).length = k) {l : List α} {i j : Nat} (hi : i < l.length) (hj : j < k) {y : α} {u : Value} (hy : enc y = (enc l[i]).set j u) : (l.set i y).flatMap enc = (l.flatMap enc).set (i * k + j) u := by
  induction l generalizing i with
  | nil => simp at hi
  | cons x l ih =>
    cases i with
    | zero =>
      simp only [List.set_cons_zero, List.flatMap_cons, Nat.zero_mul, Nat.zero_add]
      simp only [List.getElem_cons_zero] at hy
      rw [hy, List.set_append_left _ _ (by rw [hk]; exact hj)]
    | succ i =>
      simp only [List.set_cons_succ, List.flatMap_cons]
      simp only [List.getElem_cons_succ] at hy
      rw [ih (by simpa using hi) hy, List.set_append_right _ _ (by rw [hk, Nat.add_mul]; omega), hk]
      congr 2
      rw [Nat.add_mul]; omega
theorem Own.store {α : Type} {enc : α → List Value} {size : Nat} {e : TypeId} {w : World} {base : Nat} {l : List α} {g n c : Nat} (h : Own enc size e w base (.slice (some ⟨g, 0, none⟩) n c) l) (hk : ∀ x, (enc x).length = size)
    {i j : Nat} (hi : i < l.length) (hj : j < size) {y : α} {u : Value} (hy : enc y = (enc l[i]).set j u) :
    Own enc size e (w.setCell ⟨g, i * size + j, none⟩ u) base (.slice (some ⟨g, 0, none⟩) n c) (l.set i y) ∧ w.grownBy (w.setCell ⟨g, i * size + j, none⟩ u) (some g) := by
  obtain ⟨A, c', hv⟩ := h.isSlice
  injection hv with h1 h2 h3
  subst h2
  obtain ⟨s1, s2⟩ := World.ownsRow.stored h (i * size + j) u
  refine ⟨?_, s2⟩
  unfold Own
  rw [List.length_set, flat_set enc size hk hi hj hy]
  exact s1
end Wh
namespace Wh
def rises (l : List Hold) : Prop := l.Pairwise fun a b => place a < place b
def fine (l : List Hold) : Prop := ∀ h ∈ l, holdFine h = true
/-- A key that a right hold may have. -/
def keyOk (o ln b : Int) : Prop := (0 ≤ o ∧ o ≤ 3) ∧ (0 ≤ ln ∧ ln ≤ 2) ∧ (0 ≤ b ∧ b ≤ 5)
theorem fine_iff {h : Hold} : holdFine h = true ↔ keyOk h.order h.line h.bin ∧ 1 ≤ h.n ∧ h.n ≤ 200 := by
  simp only [holdFine, Bool.and_eq_true, within_iff, keyOk]
  omega
theorem place_congr {a b : Hold} (h : a.order = b.order ∧ a.line = b.line ∧ a.bin = b.bin) : place a = place b := by
  unfold place
  rw [h.1, h.2.1, h.2.2]

theorem hold_get {l : List Hold} {k : Nat} (hk : k < l.length) : hold l k = l[k] := by simp [hold, hk]
theorem holdsOk_iff {l : List Hold} : holdsOk l = true ↔ fine l ∧ rises l := by
  simp only [holdsOk, List.all_eq_true, List.mem_range, Bool.and_eq_true, Bool.or_eq_true, decide_eq_true_eq]
  constructor
  · intro h
    have hstep : ∀ k, k + 1 < l.length → place (hold l k) < place (hold l (k + 1)) := fun k hk => by
      rcases (h (k + 1) hk).2 with h1 | h1
      · omega
      · simpa using h1
    have hmono : ∀ d i, i + d + 1 < l.length → place (hold l i) < place (hold l (i + d + 1)) := by
      intro d
      induction d with
      | zero => exact fun i hi => hstep i (by omega)
      | succ d ih =>
        intro i hi
        have h1 := ih i (by omega)
        have h2 := hstep (i + d + 1) (by omega)
        rw [show i + (d + 1) + 1 = i + d + 1 + 1 by omega]
        omega
    refine ⟨fun x hx => ?_, ?_⟩
    · obtain ⟨k, hk, rfl⟩ := List.getElem_of_mem hx
      rw [← hold_get hk]
      exact (h k hk).1
    · refine List.pairwise_iff_getElem.2 fun i j hi hj hij => ?_
      have := hmono (j - i - 1) i (by omega)
      rw [show i + (j - i - 1) + 1 = j by omega, hold_get hi, hold_get hj] at this
      exact this
  · rintro ⟨h1, h2⟩ k hk
    refine ⟨by rw [hold_get hk]; exact h1 _ (List.getElem_mem hk), ?_⟩
    by_cases h0 : k = 0
    · exact .inl h0
    · refine .inr ?_
      rw [hold_get hk, hold_get (show k - 1 < l.length by omega)]
      exact List.pairwise_iff_getElem.1 h2 (k - 1) k (by omega) hk (by omega)

theorem sameKey_iff {o ln b : Int} {h : Hold} : sameKey o ln b h = true ↔ h.order = o ∧ h.line = ln ∧ h.bin = b := by
  simp [sameKey, and_assoc]
theorem keptAt_mem {l : List Hold} (_hf : fine l) (hr : rises l) {h : Hold} (hm : h ∈ l) : keptAt l h.order h.line h.bin = h.n := by
  unfold keptAt
  cases hx : l.find? (sameKey h.order h.line h.bin) with
  | none =>
    have := List.find?_eq_none.1 hx h hm
    simp [sameKey] at this
  | some x =>
    have h1 := sameKey_iff.1 (List.find?_some hx)
    have h2 := List.mem_of_find?_eq_some hx
    have h3 : place x = place h := place_congr h1
    have h4 : x = h := by
      obtain ⟨i, hi, rfl⟩ := List.getElem_of_mem h2
      obtain ⟨j, hj, rfl⟩ := List.getElem_of_mem hm
      rcases Nat.lt_trichotomy i j with h5 | rfl | h5
      · have := List.pairwise_iff_getElem.1 hr i j hi hj h5; omega
      · rfl
      · have := List.pairwise_iff_getElem.1 hr j i hj hi h5; omega
    rw [h4]
theorem keptAt_none {l : List Hold} {o ln b : Int} (h : ∀ x ∈ l, ¬ (x.order = o ∧ x.line = ln ∧ x.bin = b)) : keptAt l o ln b = 0 := by
  unfold keptAt
  cases hx : l.find? (sameKey o ln b) with
  | none => rfl
  | some x => exact absurd (sameKey_iff.1 (List.find?_some hx)) (h x (List.mem_of_find?_eq_some hx))
theorem keptAt_or {l : List Hold} (hf : fine l) (hr : rises l) (o ln b : Int) :
    (∃ h ∈ l, h.order = o ∧ h.line = ln ∧ h.bin = b ∧ keptAt l o ln b = h.n) ∨ ((∀ x ∈ l, ¬ (x.order = o ∧ x.line = ln ∧ x.bin = b)) ∧ keptAt l o ln b = 0) := by
  by_cases h : ∃ x ∈ l, x.order = o ∧ x.line = ln ∧ x.bin = b
  · obtain ⟨x, hx, rfl, rfl, rfl⟩ := h
    exact .inl ⟨x, hx, rfl, rfl, rfl, keptAt_mem hf hr hx⟩
  · refine .inr ⟨fun x hx he => h ⟨x, hx, he⟩, keptAt_none fun x hx he => h ⟨x, hx, he⟩⟩
theorem keptAt_range {l : List Hold} (hf : fine l) (hr : rises l) (o ln b : Int) : 0 ≤ keptAt l o ln b ∧ keptAt l o ln b ≤ 200 := by
  rcases keptAt_or hf hr o ln b with ⟨h, hm, _, _, _, he⟩ | ⟨_, he⟩
  · have := fine_iff.1 (hf h hm); omega
  · omega
/-- How many all of a line have together: bin by bin. -/
theorem kept_bins {l : List Hold} (hl : holdsOk l = true) (o ln : Int) : kept l o ln = sumTo (fun b => keptAt l o ln b) 6 := by
  have key : ∀ l : List Hold, fine l → rises l → kept l o ln = sumTo (fun b => keptAt l o ln b) 6 := by
    intro l
    induction l with
    | nil => intro _ _; simp [kept, keptAt, sumTo]
    | cons x l ih =>
      intro hf hr
      have hf' : fine l := fun h hm => hf h (List.mem_cons_of_mem _ hm)
      have hr' := List.pairwise_cons.1 hr
      have ih' := ih hf' hr'.2
      have hx := fine_iff.1 (hf x (List.mem_cons_self ..))
      have hcons : ∀ b, keptAt (x :: l) o ln b = if x.order = o ∧ x.line = ln ∧ x.bin = b then x.n else keptAt l o ln b := by
        intro b
        unfold keptAt
        rw [List.find?_cons]
        by_cases hk : x.order = o ∧ x.line = ln ∧ x.bin = b
        · rw [if_pos hk, sameKey_iff.2 hk]
        · rw [if_neg hk, show sameKey o ln b x = false by rw [← Bool.not_eq_true, sameKey_iff]; exact hk]
      by_cases hs : x.order = o ∧ x.line = ln
      · have h0 : keptAt l o ln x.bin = 0 := keptAt_none fun y hy he => by
          have h1 := hr'.1 y hy
          rw [place_congr ⟨hs.1.trans he.1.symm, hs.2.trans he.2.1.symm, he.2.2.symm⟩] at h1
          omega
        have hk1 : kept (x :: l) o ln = kept l o ln + x.n := by
          unfold kept
          rw [List.filter_cons_of_pos (by simp [sameLine, hs.1, hs.2])]
          simp [Int.add_comm]
        rw [hk1, ih']
        refine (sumTo_one (f := fun b => keptAt l o ln b) (g := fun b => keptAt (x :: l) o ln b) (i := x.bin.toNat) (d := x.n) ?_ ?_ ?_).symm
        · have := hx.1.2.2; omega
        · intro b _ hb
          show keptAt (x :: l) o ln b = keptAt l o ln b
          rw [hcons, if_neg (by have := hx.1.2.2; omega)]
        · have hb := hx.1.2.2
          show keptAt (x :: l) o ln (x.bin.toNat : Int) = keptAt l o ln (x.bin.toNat : Int) + x.n
          rw [Int.toNat_of_nonneg hb.1, hcons, if_pos ⟨hs.1, hs.2, rfl⟩, h0]
          omega
      · have hk1 : kept (x :: l) o ln = kept l o ln := by
          unfold kept
          rw [List.filter_cons_of_neg (by simp [sameLine]; exact fun h => fun h' => hs ⟨h, h'⟩)]
        rw [hk1, ih']
        refine sumTo_congr fun b _ => ?_
        show _ = keptAt (x :: l) o ln b
        rw [hcons, if_neg (fun he => hs ⟨he.1, he.2.1⟩)]
  rw [holdsOk_iff] at hl
  exact key l hl.1 hl.2
theorem kept_range {l : List Hold} (hl : holdsOk l = true) (o ln : Int) : 0 ≤ kept l o ln ∧ kept l o ln ≤ 1200 := by
  rw [kept_bins hl]
  rw [holdsOk_iff] at hl
  have := sumTo_bounds (f := fun b => keptAt l o ln b) (n := 6) (m := 200) fun b _ => keptAt_range hl.1 hl.2 o ln b
  omega

end Wh
namespace Wh
def cmp3 (a b : Int) : Int := if a < b then -1 else if b < a then 1 else 0
def ord (a b : Hold) : Int :=
  if cmp3 a.order b.order ≠ 0 then cmp3 a.order b.order else if cmp3 a.line b.line ≠ 0 then cmp3 a.line b.line else cmp3 a.bin b.bin

theorem cmp3_cases (a b : Int) : (a < b ∧ cmp3 a b = -1) ∨ (b < a ∧ cmp3 a b = 1) ∨ (a = b ∧ cmp3 a b = 0) := by
  unfold cmp3
  rcases Int.lt_trichotomy a b with h | h | h
  · exact .inl ⟨h, if_pos h⟩
  · exact .inr (.inr ⟨h, by rw [if_neg (by omega), if_neg (by omega)]⟩)
  · exact .inr (.inl ⟨h, by rw [if_neg (by omega), if_pos h]⟩)
theorem ord_cases (a b : Hold) : (ord a b = -1 ∧ (a.order < b.order ∨ a.order = b.order ∧ (a.line < b.line ∨ a.line = b.line ∧ a.bin < b.bin))) ∨
    (ord a b = 1 ∧ (b.order < a.order ∨ a.order = b.order ∧ (b.line < a.line ∨ a.line = b.line ∧ b.bin < a.bin))) ∨ (ord a b = 0 ∧ a.order = b.order ∧ a.line = b.line ∧ a.bin = b.bin) := by
  unfold ord
  rcases cmp3_cases a.order b.order with ⟨h1, e1⟩ | ⟨h1, e1⟩ | ⟨h1, e1⟩ <;> rcases cmp3_cases a.line b.line with ⟨h2, e2⟩ | ⟨h2, e2⟩ | ⟨h2, e2⟩ <;>
    rcases cmp3_cases a.bin b.bin with ⟨h3, e3⟩ | ⟨h3, e3⟩ | ⟨h3, e3⟩ <;> simp only [e1, e2, e3] <;> simp <;> omega
theorem ord_neg {a b : Hold} : ord a b < 0 ↔ (a.order < b.order ∨ a.order = b.order ∧ (a.line < b.line ∨ a.line = b.line ∧ a.bin < b.bin)) := by
  rcases ord_cases a b with ⟨h, h'⟩ | ⟨h, h'⟩ | ⟨h, h'⟩ <;> rw [h] <;> omega
theorem ord_place {a b : Hold} (ha : keyOk a.order a.line a.bin) (hb : keyOk b.order b.line b.bin) : ord a b < 0 ↔ place a < place b := by
  rw [ord_neg]
  unfold keyOk at ha hb
  unfold place
  omega
theorem ok_at {l : List Hold} (h : holdsOk l = true) {i : Nat} (hi : i < l.length) : holdFine (hold l i) = true := by
  rw [hold_get hi]
  exact (holdsOk_iff.1 h).1 _ (List.getElem_mem hi)
theorem ok_key {l : List Hold} (h : holdsOk l = true) {i : Nat} (hi : i < l.length) : keyOk (hold l i).order (hold l i).line (hold l i).bin := (fine_iff.1 (ok_at h hi)).1
theorem ok_n {l : List Hold} (h : holdsOk l = true) {i : Nat} (hi : i < l.length) : 1 ≤ (hold l i).n ∧ (hold l i).n ≤ 200 := (fine_iff.1 (ok_at h hi)).2
end Wh
namespace Wh
theorem ok_len72 {l : List Hold} (h : holdsOk l = true) : l.length ≤ 72 := by
  have hr := (holdsOk_iff.1 h).2
  have hf := (holdsOk_iff.1 h).1
  have hp : ∀ x ∈ l, 0 ≤ place x ∧ place x < 72 := fun x hx => by
    have := (fine_iff.1 (hf x hx)).1
    unfold keyOk at this
    unfold place
    omega
  have hn : (l.map fun x => (place x).toNat).Nodup := by
    rw [List.Nodup, List.pairwise_map]
    refine List.Pairwise.imp_of_mem ?_ hr
    intro a b ha hb hab
    have h1 := hp a ha
    have h2 := hp b hb
    omega
  have hs : (l.map fun x => (place x).toNat) ⊆ List.range 72 := fun n hn' => by
    obtain ⟨x, hx, rfl⟩ := List.mem_map.1 hn'
    have := hp x hx
    exact List.mem_range.2 (by omega)
  have := hn.length_le_of_subset hs
  simpa using this
/-- A state that is as it must be, but maybe for the sums. -/
structure Sane (p : Plan) (s : State) : Prop where
  shelf : checkShelf p s.on = 0
  many : manyOk s = true
  form : formed p s = true

theorem all_at {α : Type} {P : α → Bool} {l : List α} (d : α) (h : l.all P = true) {k : Nat} (hk : k < l.length) : P (l.getD k d) = true := by
  have e : l.getD k d = l[k] := by simp [hk]
  rw [e]
  exact List.all_eq_true.1 h _ (List.getElem_mem hk)
theorem all_of {α : Type} {P : α → Bool} {l : List α} (d : α) (h : ∀ k, k < l.length → P (l.getD k d) = true) : l.all P = true := by
  rw [List.all_eq_true]
  intro x hx
  obtain ⟨k, hk, rfl⟩ := List.getElem_of_mem hx
  have := h k hk
  have e : l.getD k d = l[k] := by simp [hk]
  rwa [e] at this
theorem all_no {α : Type} {P : α → Bool} {l : List α} (d : α) {k : Nat} (hk : k < l.length) (h : P (l.getD k d) = false) : l.all P = false := by
  cases ha : l.all P
  · rfl
  · rw [all_at d ha hk] at h; cases h
theorem any_not {α : Type} (P : α → Bool) (l : List α) : (l.any fun x => !P x) = !(l.all P) := by
  induction l with
  | nil => rfl
  | cons x l ih => rw [List.any_cons, List.all_cons, ih, Bool.not_and]

theorem manyOk_iff {s : State} : manyOk s = true ↔ s.orders.length ≤ 4 ∧ s.moves.length ≤ 8 ∧ s.orders.all (fun o => within o.lines.length 1 3) = true := by
  unfold manyOk
  simp only [Bool.and_eq_true, decide_eq_true_eq, and_assoc]
theorem formed_iff {p : Plan} {s : State} : formed p s = true ↔ s.orders.all (orderOk p) = true ∧ holdsOk s.holds = true ∧ s.holds.all (holdIn p s) = true ∧ s.moves.all (moveOk p) = true ∧
    sumsOk p s.inn 0 = true ∧ sumsOk p s.out 0 = true ∧ sumsOk p s.fixed (-1048576) = true := by
  unfold formed
  simp only [Bool.and_eq_true, and_assoc]

theorem lineOk_iff {p : Plan} {x : Line} : lineOk p x = true ↔ (0 ≤ x.good ∧ x.good < p.sizes.length) ∧ (1 ≤ x.want ∧ x.want ≤ 200) ∧ (0 ≤ x.got ∧ x.got ≤ x.want) ∧ (0 ≤ x.back ∧ x.back ≤ x.want) := by
  unfold lineOk
  simp only [Bool.and_eq_true, within_iff, isGood_iff, and_assoc]
theorem moveOk_iff {p : Plan} {x : Move} : moveOk p x = true ↔ (0 ≤ x.good ∧ x.good < p.sizes.length) ∧ (0 ≤ x.src ∧ x.src < p.bins.length) ∧ (0 ≤ x.dst ∧ x.dst < p.bins.length) ∧ x.src ≠ x.dst ∧ 1 ≤ x.n ∧ x.n ≤ 200 := by
  unfold moveOk
  simp only [Bool.and_eq_true, within_iff, isGood_iff, isBin_iff, and_assoc, decide_eq_true_eq]
theorem orderOk_iff {p : Plan} {o : Order} : orderOk p o = true ↔ (0 ≤ o.kind ∧ o.kind ≤ 2) ∧ o.lines.all (lineOk p) = true := by
  unfold orderOk
  simp only [Bool.and_eq_true, within_iff]
theorem sumsOk_iff {p : Plan} {l : List Int} {lo : Int} : sumsOk p l lo = true ↔ l.length = p.sizes.length ∧ l.all (within · lo 1048576) = true := by
  unfold sumsOk
  simp only [Bool.and_eq_true, decide_eq_true_eq]
theorem holdIn_iff {p : Plan} {s : State} {h : Hold} : holdIn p s h = true ↔ h.order < s.orders.length ∧ h.line < (s.order h.order.toNat).lines.length ∧ h.bin < p.bins.length := by
  unfold holdIn
  simp only [Bool.and_eq_true, decide_eq_true_eq, and_assoc]

namespace Sane
variable {p : Plan} {s : State} (h : Sane p s)
include h
theorem plan : checkPlan p = 0 := (checkShelf_zero.1 h.shelf).1
theorem orders4 : s.orders.length ≤ 4 := (manyOk_iff.1 h.many).1
theorem moves8 : s.moves.length ≤ 8 := (manyOk_iff.1 h.many).2.1
theorem lines3 {o : Nat} (ho : o < s.orders.length) : 1 ≤ (s.order o).lines.length ∧ (s.order o).lines.length ≤ 3 := by
  have := all_at dOrder (manyOk_iff.1 h.many).2.2 ho
  have := within_iff.1 this
  unfold State.order orderAt
  omega
theorem orderOk {o : Nat} (ho : o < s.orders.length) : Wh.orderOk p (s.order o) = true := all_at dOrder (formed_iff.1 h.form).1 ho
theorem kind {o : Nat} (ho : o < s.orders.length) : 0 ≤ (s.order o).kind ∧ (s.order o).kind ≤ 2 := (orderOk_iff.1 (h.orderOk ho)).1
theorem line {o k : Nat} (ho : o < s.orders.length) (hk : k < (s.order o).lines.length) :
    (0 ≤ (s.line o k).good ∧ (s.line o k).good < p.sizes.length) ∧ (1 ≤ (s.line o k).want ∧ (s.line o k).want ≤ 200) ∧ (0 ≤ (s.line o k).got ∧ (s.line o k).got ≤ (s.line o k).want) ∧ (0 ≤ (s.line o k).back ∧ (s.line o k).back ≤ (s.line o k).want) :=
  lineOk_iff.1 (all_at dLine (orderOk_iff.1 (h.orderOk ho)).2 hk)
theorem holds : holdsOk s.holds = true := (formed_iff.1 h.form).2.1
theorem holdAt {k : Nat} (hk : k < s.holds.length) : (0 ≤ (hold s.holds k).order ∧ (hold s.holds k).order < s.orders.length) ∧ (0 ≤ (hold s.holds k).line ∧ (hold s.holds k).line < (s.order (hold s.holds k).order.toNat).lines.length) ∧
    (0 ≤ (hold s.holds k).bin ∧ (hold s.holds k).bin < p.bins.length) ∧ (1 ≤ (hold s.holds k).n ∧ (hold s.holds k).n ≤ 200) := by
  have h1 := ok_key h.holds hk
  have h2 := ok_n h.holds hk
  have h3 := holdIn_iff.1 (all_at dHold (formed_iff.1 h.form).2.2.1 hk)
  unfold keyOk at h1
  change (hold s.holds k).order < _ ∧ _ at h3
  obtain ⟨a, b, c⟩ := h3
  exact ⟨⟨h1.1.1, a⟩, ⟨h1.2.1.1, b⟩, ⟨h1.2.2.1, c⟩, h2⟩
theorem moveAt {k : Nat} (hk : k < s.moves.length) : (0 ≤ (moveAt s.moves k).good ∧ (moveAt s.moves k).good < p.sizes.length) ∧ (0 ≤ (Wh.moveAt s.moves k).src ∧ (Wh.moveAt s.moves k).src < p.bins.length) ∧
    (0 ≤ (Wh.moveAt s.moves k).dst ∧ (Wh.moveAt s.moves k).dst < p.bins.length) ∧ (Wh.moveAt s.moves k).src ≠ (Wh.moveAt s.moves k).dst ∧ 1 ≤ (Wh.moveAt s.moves k).n ∧ (Wh.moveAt s.moves k).n ≤ 200 :=
  moveOk_iff.1 (all_at dMove (formed_iff.1 h.form).2.2.2.1 hk)
theorem inn : s.inn.length = p.sizes.length ∧ ∀ {g}, g < p.sizes.length → 0 ≤ intAt s.inn g ∧ intAt s.inn g ≤ 1048576 := by
  obtain ⟨h1, h2⟩ := sumsOk_iff.1 (formed_iff.1 h.form).2.2.2.2.1
  exact ⟨h1, fun hg => within_iff.1 (all_at 0 h2 (by omega))⟩
theorem out : s.out.length = p.sizes.length ∧ ∀ {g}, g < p.sizes.length → 0 ≤ intAt s.out g ∧ intAt s.out g ≤ 1048576 := by
  obtain ⟨h1, h2⟩ := sumsOk_iff.1 (formed_iff.1 h.form).2.2.2.2.2.1
  exact ⟨h1, fun hg => within_iff.1 (all_at 0 h2 (by omega))⟩
theorem fixed : s.fixed.length = p.sizes.length ∧ ∀ {g}, g < p.sizes.length → -1048576 ≤ intAt s.fixed g ∧ intAt s.fixed g ≤ 1048576 := by
  obtain ⟨h1, h2⟩ := sumsOk_iff.1 (formed_iff.1 h.form).2.2.2.2.2.2
  exact ⟨h1, fun hg => within_iff.1 (all_at 0 h2 (by omega))⟩
theorem onLen : s.on.length = p.bins.length := right_len h.shelf
theorem rowLen {b : Nat} (hb : b < p.bins.length) : (rowAt s.on b).length = p.sizes.length := right_row h.shelf (by rw [h.onLen]; exact hb)
theorem cell {b g : Nat} (hb : b < p.bins.length) (hg : g < p.sizes.length) : 0 ≤ cell s.on b g ∧ Wh.cell s.on b g ≤ 200 := right_cell h.shelf (by rw [h.onLen]; exact hb) hg
theorem counts : 1 ≤ p.bins.length ∧ p.bins.length ≤ 6 ∧ 1 ≤ p.sizes.length ∧ p.sizes.length ≤ 3 := right_counts h.plan
end Sane
theorem checkState_shelf {p : Plan} {s : State} (h : checkShelf p s.on ≠ 0) : checkState p s = checkShelf p s.on := by unfold checkState; rw [if_pos h]
theorem checkState_many {p : Plan} {s : State} (h : checkShelf p s.on = 0) (h2 : manyOk s = false) : checkState p s = 2 := by
  unfold checkState
  rw [if_neg (fun hn => hn h), h2]; rfl
theorem checkState_form {p : Plan} {s : State} (h : checkShelf p s.on = 0) (h2 : manyOk s = true) (h3 : formed p s = false) : checkState p s = 1 := by
  unfold checkState
  rw [if_neg (fun hn => hn h), h2, h3]; rfl
theorem checkState_sum {p : Plan} {s : State} (h : Sane p s) (h4 : summed p s = false) : checkState p s = 7 := by
  unfold checkState
  rw [if_neg (fun hn => hn h.shelf), h.many, h.form, h4]; rfl
theorem checkState_ok {p : Plan} {s : State} (h : Sane p s) (h4 : summed p s = true) : checkState p s = 0 := by
  unfold checkState
  rw [if_neg (fun hn => hn h.shelf), h.many, h.form, h4]; rfl
theorem checkState_zero {p : Plan} {s : State} : checkState p s = 0 ↔ Sane p s ∧ summed p s = true := by
  constructor
  · intro h
    unfold checkState at h
    split at h
    · rename_i h1; exact absurd h h1
    · rename_i h1
      cases h2 : manyOk s
      · rw [h2] at h; simp at h
      · cases h3 : formed p s
        · rw [h2, h3] at h; simp at h
        · cases h4 : summed p s
          · rw [h2, h3, h4] at h; simp at h
          · exact ⟨⟨by simpa using h1, h2, h3⟩, rfl⟩
  · rintro ⟨h, h4⟩
    exact checkState_ok h h4

-- sums over what was seen so far
def heldTo (s : State) (b g : Int) (k : Nat) : Int := ((s.holds.take k).map (heldN s b g)).sum
def goingTo (l : List Move) (b g : Int) (k : Nat) : Int := ((l.take k).map (fromN b g)).sum
def comingTo (l : List Move) (b g : Int) (k : Nat) : Int := ((l.take k).map (toN b g)).sum
theorem sum_take {α : Type} (f : α → Int) (l : List α) (d : α) {k : Nat} (hk : k < l.length) : ((l.take (k + 1)).map f).sum = ((l.take k).map f).sum + f (l.getD k d) := by
  rw [List.take_succ_eq_append_getElem hk, List.map_append, List.sum_append]
  simp [hk]
theorem heldTo_succ {s : State} {b g : Int} {k : Nat} (hk : k < s.holds.length) : heldTo s b g (k + 1) = heldTo s b g k + heldN s b g (hold s.holds k) := sum_take _ _ dHold hk
theorem goingTo_succ {l : List Move} {b g : Int} {k : Nat} (hk : k < l.length) : goingTo l b g (k + 1) = goingTo l b g k + fromN b g (moveAt l k) := sum_take _ _ dMove hk
theorem comingTo_succ {l : List Move} {b g : Int} {k : Nat} (hk : k < l.length) : comingTo l b g (k + 1) = comingTo l b g k + toN b g (moveAt l k) := sum_take _ _ dMove hk
theorem heldTo_all (s : State) (b g : Int) : heldTo s b g s.holds.length = heldIn s b g := by unfold heldTo heldIn; rw [List.take_length]
theorem goingTo_all (l : List Move) (b g : Int) : goingTo l b g l.length = goingOf l b g := by unfold goingTo goingOf; rw [List.take_length]
theorem comingTo_all (l : List Move) (b g : Int) : comingTo l b g l.length = comingOf l b g := by unfold comingTo comingOf; rw [List.take_length]
theorem list_sum_range {l : List Int} {m : Int} (h : ∀ x ∈ l, 0 ≤ x ∧ x ≤ m) : 0 ≤ l.sum ∧ l.sum ≤ l.length * m := by
  induction l with
  | nil => simp
  | cons x l ih =>
    have h1 := h x (by simp)
    have h2 := ih (fun y hy => h y (by simp [hy]))
    rw [List.sum_cons, List.length_cons, Int.natCast_add, Int.add_mul]
    omega
theorem heldTo_range {p : Plan} {s : State} (h : Sane p s) (b g : Int) (k : Nat) : 0 ≤ heldTo s b g k ∧ heldTo s b g k ≤ 14400 := by
  have h72 := ok_len72 h.holds
  have hr := list_sum_range (l := (s.holds.take k).map (heldN s b g)) (m := 200) (fun x hx => by
    obtain ⟨y, hy, rfl⟩ := List.mem_map.1 hx
    obtain ⟨i, hi, rfl⟩ := List.getElem_of_mem (List.mem_of_mem_take hy)
    have := ok_n h.holds hi
    rw [hold_get hi] at this
    unfold heldN
    split <;> omega)
  rw [List.length_map, List.length_take] at hr
  unfold heldTo
  omega
theorem goingTo_range {p : Plan} {s : State} (h : Sane p s) (b g : Int) (k : Nat) : 0 ≤ goingTo s.moves b g k ∧ goingTo s.moves b g k ≤ 1600 := by
  have h8 := h.moves8
  have hr := list_sum_range (l := (s.moves.take k).map (fromN b g)) (m := 200) (fun x hx => by
    obtain ⟨y, hy, rfl⟩ := List.mem_map.1 hx
    obtain ⟨i, hi, rfl⟩ := List.getElem_of_mem (List.mem_of_mem_take hy)
    have := h.moveAt hi
    rw [Wh.moveAt_eq hi] at this
    unfold fromN
    split <;> omega)
  rw [List.length_map, List.length_take] at hr
  unfold goingTo
  omega
theorem comingTo_range {p : Plan} {s : State} (h : Sane p s) (b g : Int) (k : Nat) : 0 ≤ comingTo s.moves b g k ∧ comingTo s.moves b g k ≤ 1600 := by
  have h8 := h.moves8
  have hr := list_sum_range (l := (s.moves.take k).map (toN b g)) (m := 200) (fun x hx => by
    obtain ⟨y, hy, rfl⟩ := List.mem_map.1 hx
    obtain ⟨i, hi, rfl⟩ := List.getElem_of_mem (List.mem_of_mem_take hy)
    have := h.moveAt hi
    rw [Wh.moveAt_eq hi] at this
    unfold toN
    split <;> omega)
  rw [List.length_map, List.length_take] at hr
  unfold comingTo
  omega
theorem bound_range {p : Plan} {s : State} (h : Sane p s) (b g : Int) : 0 ≤ bound s b g ∧ bound s b g ≤ 16000 := by
  have h1 := heldTo_range h b g s.holds.length
  have h2 := goingTo_range h b g s.moves.length
  rw [heldTo_all] at h1
  rw [goingTo_all] at h2
  unfold bound
  omega
theorem coming_range {p : Plan} {s : State} (h : Sane p s) (b g : Int) : 0 ≤ coming s b g ∧ coming s b g ≤ 1600 := by
  have h2 := comingTo_range h b g s.moves.length
  rw [comingTo_all] at h2
  exact h2
end Wh
namespace Wh
open Go Go.RowKit Go.Shelf Go.Proofs
attribute [local go_sem] run_indexAt_letter
set_option maxHeartbeats 400000 in
theorem rWithin (n lo hi : Int) (w : World) :
    Calls Try.prog 45 #[.int .i64 n, .int .i64 lo, .int .i64 hi] w fun e w' => e = .returned (.bool (within n lo hi)) ∧ w = w' := by
  go_enter Try.func45, Try.ntmps45
  by_cases h1 : lo ≤ n
  · by_cases h2 : n ≤ hi
    · go_wp2
      go_ret
      exact ⟨by simp [within, h1, h2], rfl⟩
    · go_wp2
      go_ret
      exact ⟨by simp [within]; omega, rfl⟩
  · go_wp2
    go_ret
    exact ⟨by simp [within]; omega, rfl⟩

set_option maxHeartbeats 1000000 in
theorem rCheckPlan (w : World) (v : Value) (p : Plan) (hp : PlanV w w.heap.size v p) :
    Calls Try.prog 21 #[v] w fun e w' => e = .returned (.int .i64 (checkPlan p)) ∧ Below w.heap.size w w' := by
  obtain ⟨_, _, rfl, ⟨Ab, cb, rfl, hlb, hb⟩, ⟨As, cs, rfl, hls, hs⟩⟩ := hp
  have hb0 : Below w.heap.size w (w.alloc (.cells #[.slice Ab p.bins.length cb, .slice As p.sizes.length cs] 25)) := (Below.refl _ _).alloc (Nat.le_refl _) _
  go_enter Try.func21, Try.ntmps21
  cases h1 : within p.bins.length 1 6
  · go_wp2_with (go_at_call 45; refine (rWithin _ _ _ _).mono ?_; rintro e w' ⟨rfl, rfl⟩)
    go_ret
    exact ⟨ret_int (checkPlan_two (.inl h1)).symm, hb0⟩
  cases h2 : within p.sizes.length 1 3
  · go_wp2_with (go_at_call 45; refine (rWithin _ _ _ _).mono ?_; rintro e w' ⟨rfl, rfl⟩)
    go_ret
    exact ⟨ret_int (checkPlan_two (.inr h2)).symm, hb0⟩
  go_wp2_with (go_at_call 45; refine (rWithin _ _ _ _).mono ?_; rintro e w' ⟨rfl, rfl⟩)
  go_loopw [3] (fun i wr => ∃ k : Nat, k ≤ p.bins.length ∧ i = .int .i64 k ∧ (∀ j, j < k → binOk (binAt p.bins j) = true) ∧ Below w.heap.size w wr ∧ w.heap.size < wr.heap.size ∧ wr.cell? ⟨w.heap.size, 0, none⟩ = some (.slice Ab p.bins.length cb) ∧ wr.cell? ⟨w.heap.size, 1, none⟩ = some (.slice As p.sizes.length cs)) (fun i _ => p.bins.length - (intOf i).toNat)
  case atStart => exact ⟨0, Nat.zero_le _, rfl, fun j hj => by omega, hb0, by simp, by simp, by simp⟩
  case round =>
    obtain ⟨k, hk, rfl, hall, hbw, hsz, hc0, hc1⟩ := hrel
    by_cases hlt : k < p.bins.length
    · obtain ⟨hA, hAb, b0, b1, b2, b3⟩ := (hb.up hbw hbw.size).bin hlt
      rcases binOk_parts (binAt p.bins k) with ⟨g1, hno⟩ | ⟨g1, g2, hno⟩ | ⟨g1, g2, g3, hno⟩ | ⟨g1, g2, g3, hyes⟩
      · go_wp2_with (go_at_call 45; refine (rWithin _ _ _ _).mono ?_; rintro e w' ⟨rfl, rfl⟩)
        go_ret
        exact ⟨ret_int (checkPlan_bin h1 h2 hlt hno).symm, hbw.alloc hbw.size _⟩
      · go_wp2_with (go_at_call 45; refine (rWithin _ _ _ _).mono ?_; rintro e w' ⟨rfl, rfl⟩)
        go_ret
        exact ⟨ret_int (checkPlan_bin h1 h2 hlt hno).symm, hbw.alloc hbw.size _⟩
      · go_wp2_with (go_at_call 45; refine (rWithin _ _ _ _).mono ?_; rintro e w' ⟨rfl, rfl⟩)
        go_ret
        exact ⟨ret_int (checkPlan_bin h1 h2 hlt hno).symm, hbw.alloc hbw.size _⟩
      · go_wp2_with (go_at_call 45; refine (rWithin _ _ _ _).mono ?_; rintro e w' ⟨rfl, rfl⟩)
        go_roundw
        case rel =>
          refine ⟨k + 1, by omega, by go_num, fun j hj => ?_, hbw.alloc hbw.size _, by simp; omega, ?_, ?_⟩
          · rcases Nat.lt_succ_iff_lt_or_eq.1 hj with h | rfl
            · exact hall j h
            · exact hyes
          · rw [World.cell?_alloc_lt _ _ _ hsz]; exact hc0
          · rw [World.cell?_alloc_lt _ _ _ hsz]; exact hc1
        case measure => simp [intOf]; omega
    · obtain rfl : k = p.bins.length := by omega
      have hsn := hs.up hbw hbw.size
      go_wp2_with (go_at_call 45; refine (rWithin _ _ _ _).mono ?_; rintro e w' ⟨rfl, rfl⟩)
      go_loop [5] (fun i => ∃ k : Nat, k ≤ p.sizes.length ∧ i = .int .i64 k ∧ (∀ j, j < k → sizeOk (intAt p.sizes j) = true)) (fun i => p.sizes.length - (intOf i).toNat)
      case atStart => exact ⟨0, Nat.zero_le _, rfl, fun j hj => by omega⟩
      case round =>
        obtain ⟨k, hk, rfl, hall2⟩ := hrel
        by_cases hlt : k < p.sizes.length
        · obtain ⟨hA, hAb, b0⟩ := hsn.int hlt
          cases g1 : within (intAt p.sizes k) 1 9
          · go_wp2_with (go_at_call 45; refine (rWithin _ _ _ _).mono ?_; rintro e w' ⟨rfl, rfl⟩)
            go_ret
            exact ⟨ret_int (checkPlan_size h1 h2 hlt g1).symm, hbw⟩
          · go_wp2_with (go_at_call 45; refine (rWithin _ _ _ _).mono ?_; rintro e w' ⟨rfl, rfl⟩)
            go_round
            case rel =>
              refine ⟨k + 1, by omega, by go_num, fun j hj => ?_⟩
              rcases Nat.lt_succ_iff_lt_or_eq.1 hj with h | rfl
              · exact hall2 j h
              · exact g1
            case measure => simp [intOf]; omega
        · obtain rfl : k = p.sizes.length := by omega
          go_wp2_with (go_at_call 45; refine (rWithin _ _ _ _).mono ?_; rintro e w' ⟨rfl, rfl⟩)
          go_ret
          exact ⟨ret_int (checkPlan_ok h1 h2 hall hall2).symm, hbw⟩

end Wh
namespace Wh
open Go Go.RowKit Go.Shelf Go.Proofs
attribute [local go_sem] run_indexAt_letter
set_option maxHeartbeats 1000000 in
theorem slMin (w : World) (v : Value) (l : List Int) (hv : Sl cInt w w.heap.size v l) (hn : 0 < l.length) :
    Calls Try.prog 84 #[v] w fun e w' => e = .returned (.int .i64 (lowest l)) ∧ w = w' := by
  obtain ⟨A, c, rfl, hl, hA⟩ := hv
  obtain ⟨hok, hAb, b0⟩ := hA.int hn
  have hn' : 1 ≤ l.length := hn
  simp only [Nat.add_zero] at b0
  go_enter Try.func84, Try.ntmps84
  go_wp2_with fail
  go_loop [3, 4] (fun m i => ∃ k : Nat, k + 1 ≤ l.length ∧ i = .int .i64 (k + 1 : Nat) ∧ m = .int .i64 (minTo (intAt l) k)) (fun _ i => l.length - (intOf i).toNat)
  case atStart => exact ⟨0, hn', rfl, rfl⟩
  case round =>
    obtain ⟨k, hk, rfl, rfl⟩ := hrel
    by_cases hlt : k + 1 < l.length
    · obtain ⟨_, _, b1⟩ := hA.int hlt
      go_wp2_with fail
      go_round
      case rel => exact ⟨k + 1, by omega, by go_num, by rw [minTo]; congr 1; split <;> omega⟩
      case measure => simp [intOf]; omega
    · obtain rfl : k = l.length - 1 := by omega
      go_wp2_with fail
      go_ret
      exact ⟨rfl, rfl⟩
set_option maxHeartbeats 1000000 in
theorem slMax (w : World) (v : Value) (l : List Int) (hv : Sl cInt w w.heap.size v l) (hn : 0 < l.length) :
    Calls Try.prog 85 #[v] w fun e w' => e = .returned (.int .i64 (greatest l)) ∧ w = w' := by
  obtain ⟨A, c, rfl, hl, hA⟩ := hv
  obtain ⟨hok, hAb, b0⟩ := hA.int hn
  have hn' : 1 ≤ l.length := hn
  simp only [Nat.add_zero] at b0
  go_enter Try.func85, Try.ntmps85
  go_wp2_with fail
  go_loop [3, 4] (fun m i => ∃ k : Nat, k + 1 ≤ l.length ∧ i = .int .i64 (k + 1 : Nat) ∧ m = .int .i64 (maxTo (intAt l) k)) (fun _ i => l.length - (intOf i).toNat)
  case atStart => exact ⟨0, hn', rfl, rfl⟩
  case round =>
    obtain ⟨k, hk, rfl, rfl⟩ := hrel
    by_cases hlt : k + 1 < l.length
    · obtain ⟨_, _, b1⟩ := hA.int hlt
      go_wp2_with fail
      go_round
      case rel => exact ⟨k + 1, by omega, by go_num, by rw [maxTo]; congr 1; split <;> omega⟩
      case measure => simp [intOf]; omega
    · obtain rfl : k = l.length - 1 := by omega
      go_wp2_with fail
      go_ret
      exact ⟨rfl, rfl⟩
end Wh
namespace Wh
open Go Go.RowKit Go.Shelf Go.Proofs
attribute [local go_sem] run_indexAt_letter
set_option maxHeartbeats 1000000 in
theorem indexFuncBin (w : World) (v : Value) (l : List Bin) (g : FuncId) (lb : Array Value) (pred : Bin → Bool) (eg : Enters Try.prog g) (hv : Sl cBin w w.heap.size v l)
    (hf : ∀ k, k < l.length → ∀ W, Below w.heap.size w W → Calls Try.prog g (#[vBin (binAt l k)] ++ lb) W fun e W' => e = .returned (.bool (pred (binAt l k))) ∧ Below W.heap.size W W') :
    Calls Try.prog 114 #[v, .func (.func g) #[] lb] w fun e w' => e = .returned (.int .i64 (idxOf pred l)) ∧ Below w.heap.size w w' := by
  obtain ⟨A, c, rfl, hl, hA⟩ := hv
  have eg' : ∀ args w, Sem.run Try.prog (callFunc g args) w = .ok (.enter g args) w := eg
  go_enter Try.func114, Try.ntmps114
  go_wp2_with fail
  go_loopw [5, 8] (fun _ i wr => ∃ k : Nat, k ≤ l.length ∧ i = .int .i64 k ∧ (∀ j, j < k → pred (binAt l j) = false) ∧ Below w.heap.size w wr) (fun _ i _ => l.length - (intOf i).toNat)
  case atStart => exact ⟨0, Nat.zero_le _, rfl, fun j hj => by omega, Below.refl _ _⟩
  case round =>
    obtain ⟨k, hk, rfl, hall, hbw⟩ := hrel
    have hal : ∀ j (hj : j < k), pred (l[j]'(by omega)) = false := fun j hj => by have := hall j hj; rwa [binAt_eq (by omega)] at this
    by_cases hlt : k < l.length
    · obtain ⟨hok, hAb, b0, b1, b2, b3⟩ := (hA.up hbw hbw.size).bin hlt
      go_wp2_with fail
      refine (hf k hlt _ hbw).mono ?_
      rintro e W1 ⟨rfl, hb1⟩
      have hbw1 := hbw.trans (hb1.mono hbw.size)
      cases hp : pred (binAt l k)
      · go_wp2_with fail
        go_roundw
        case rel =>
          refine ⟨k + 1, by omega, by go_num, fun j hj => ?_, hbw1⟩
          rcases Nat.lt_succ_iff_lt_or_eq.1 hj with h | rfl
          · exact hall j h
          · exact hp
        case measure => simp [intOf]; omega
      · go_wp2_with fail
        go_ret
        exact ⟨ret_int (idxOf_at hlt (by rw [binAt_eq hlt] at hp; exact hp) hal), hbw1⟩
    · obtain rfl : k = l.length := by omega
      go_wp2_with fail
      go_ret
      exact ⟨ret_int (idxOf_none fun j hj => by have := hall j hj; rwa [binAt_eq hj] at this), hbw⟩
set_option maxHeartbeats 400000 in
theorem containsFuncBin (w : World) (v : Value) (l : List Bin) (g : FuncId) (lb : Array Value) (pred : Bin → Bool) (eg : Enters Try.prog g) (hv : Sl cBin w w.heap.size v l)
    (hf : ∀ k, k < l.length → ∀ W, Below w.heap.size w W → Calls Try.prog g (#[vBin (binAt l k)] ++ lb) W fun e W' => e = .returned (.bool (pred (binAt l k))) ∧ Below W.heap.size W W') :
    Calls Try.prog 82 #[v, .func (.func g) #[] lb] w fun e w' => e = .returned (.bool (l.any pred)) ∧ Below w.heap.size w w' := by
  have H := Lib.hid (indexFuncBin w v l g lb pred eg hv hf)
  clear hf
  go_enter Try.func82, Try.ntmps82
  go_wp2_with fail
  refine H.out.mono ?_
  rintro e W1 ⟨rfl, hb1⟩
  go_wp2_with fail
  go_ret
  exact ⟨ret_bool (idxOf_any pred l), hb1⟩

set_option maxHeartbeats 1000000 in
theorem indexFuncLine (w : World) (v : Value) (l : List Line) (g : FuncId) (lb : Array Value) (pred : Line → Bool) (eg : Enters Try.prog g) (hv : Sl cLine w w.heap.size v l)
    (hf : ∀ k, k < l.length → ∀ W, Below w.heap.size w W → Calls Try.prog g (#[vLine (lineAt l k)] ++ lb) W fun e W' => e = .returned (.bool (pred (lineAt l k))) ∧ Below W.heap.size W W') :
    Calls Try.prog 105 #[v, .func (.func g) #[] lb] w fun e w' => e = .returned (.int .i64 (idxOf pred l)) ∧ Below w.heap.size w w' := by
  obtain ⟨A, c, rfl, hl, hA⟩ := hv
  have eg' : ∀ args w, Sem.run Try.prog (callFunc g args) w = .ok (.enter g args) w := eg
  go_enter Try.func105, Try.ntmps105
  go_wp2_with fail
  go_loopw [5, 8] (fun _ i wr => ∃ k : Nat, k ≤ l.length ∧ i = .int .i64 k ∧ (∀ j, j < k → pred (lineAt l j) = false) ∧ Below w.heap.size w wr) (fun _ i _ => l.length - (intOf i).toNat)
  case atStart => exact ⟨0, Nat.zero_le _, rfl, fun j hj => by omega, Below.refl _ _⟩
  case round =>
    obtain ⟨k, hk, rfl, hall, hbw⟩ := hrel
    have hal : ∀ j (hj : j < k), pred (l[j]'(by omega)) = false := fun j hj => by have := hall j hj; rwa [lineAt_eq (by omega)] at this
    by_cases hlt : k < l.length
    · obtain ⟨hok, hAb, b0, b1, b2, b3⟩ := (hA.up hbw hbw.size).line hlt
      go_wp2_with fail
      refine (hf k hlt _ hbw).mono ?_
      rintro e W1 ⟨rfl, hb1⟩
      have hbw1 := hbw.trans (hb1.mono hbw.size)
      cases hp : pred (lineAt l k)
      · go_wp2_with fail
        go_roundw
        case rel =>
          refine ⟨k + 1, by omega, by go_num, fun j hj => ?_, hbw1⟩
          rcases Nat.lt_succ_iff_lt_or_eq.1 hj with h | rfl
          · exact hall j h
          · exact hp
        case measure => simp [intOf]; omega
      · go_wp2_with fail
        go_ret
        exact ⟨ret_int (idxOf_at hlt (by rw [lineAt_eq hlt] at hp; exact hp) hal), hbw1⟩
    · obtain rfl : k = l.length := by omega
      go_wp2_with fail
      go_ret
      exact ⟨ret_int (idxOf_none fun j hj => by have := hall j hj; rwa [lineAt_eq hj] at this), hbw⟩
set_option maxHeartbeats 400000 in
theorem containsFuncLine (w : World) (v : Value) (l : List Line) (g : FuncId) (lb : Array Value) (pred : Line → Bool) (eg : Enters Try.prog g) (hv : Sl cLine w w.heap.size v l)
    (hf : ∀ k, k < l.length → ∀ W, Below w.heap.size w W → Calls Try.prog g (#[vLine (lineAt l k)] ++ lb) W fun e W' => e = .returned (.bool (pred (lineAt l k))) ∧ Below W.heap.size W W') :
    Calls Try.prog 72 #[v, .func (.func g) #[] lb] w fun e w' => e = .returned (.bool (l.any pred)) ∧ Below w.heap.size w w' := by
  have H := Lib.hid (indexFuncLine w v l g lb pred eg hv hf)
  clear hf
  go_enter Try.func72, Try.ntmps72
  go_wp2_with fail
  refine H.out.mono ?_
  rintro e W1 ⟨rfl, hb1⟩
  go_wp2_with fail
  go_ret
  exact ⟨ret_bool (idxOf_any pred l), hb1⟩

set_option maxHeartbeats 1000000 in
theorem indexFuncHold (w : World) (v : Value) (l : List Hold) (g : FuncId) (lb : Array Value) (pred : Hold → Bool) (eg : Enters Try.prog g) (hv : Sl cHold w w.heap.size v l)
    (hf : ∀ k, k < l.length → ∀ W, Below w.heap.size w W → Calls Try.prog g (#[vHold (hold l k)] ++ lb) W fun e W' => e = .returned (.bool (pred (hold l k))) ∧ Below W.heap.size W W') :
    Calls Try.prog 116 #[v, .func (.func g) #[] lb] w fun e w' => e = .returned (.int .i64 (idxOf pred l)) ∧ Below w.heap.size w w' := by
  obtain ⟨A, c, rfl, hl, hA⟩ := hv
  have eg' : ∀ args w, Sem.run Try.prog (callFunc g args) w = .ok (.enter g args) w := eg
  go_enter Try.func116, Try.ntmps116
  go_wp2_with fail
  go_loopw [5, 8] (fun _ i wr => ∃ k : Nat, k ≤ l.length ∧ i = .int .i64 k ∧ (∀ j, j < k → pred (hold l j) = false) ∧ Below w.heap.size w wr) (fun _ i _ => l.length - (intOf i).toNat)
  case atStart => exact ⟨0, Nat.zero_le _, rfl, fun j hj => by omega, Below.refl _ _⟩
  case round =>
    obtain ⟨k, hk, rfl, hall, hbw⟩ := hrel
    have hal : ∀ j (hj : j < k), pred (l[j]'(by omega)) = false := fun j hj => by have := hall j hj; rwa [hold_get (by omega)] at this
    by_cases hlt : k < l.length
    · obtain ⟨hok, hAb, b0, b1, b2, b3⟩ := (hA.up hbw hbw.size).hold hlt
      go_wp2_with fail
      refine (hf k hlt _ hbw).mono ?_
      rintro e W1 ⟨rfl, hb1⟩
      have hbw1 := hbw.trans (hb1.mono hbw.size)
      cases hp : pred (hold l k)
      · go_wp2_with fail
        go_roundw
        case rel =>
          refine ⟨k + 1, by omega, by go_num, fun j hj => ?_, hbw1⟩
          rcases Nat.lt_succ_iff_lt_or_eq.1 hj with h | rfl
          · exact hall j h
          · exact hp
        case measure => simp [intOf]; omega
      · go_wp2_with fail
        go_ret
        exact ⟨ret_int (idxOf_at hlt (by rw [hold_get hlt] at hp; exact hp) hal), hbw1⟩
    · obtain rfl : k = l.length := by omega
      go_wp2_with fail
      go_ret
      exact ⟨ret_int (idxOf_none fun j hj => by have := hall j hj; rwa [hold_get hj] at this), hbw⟩
set_option maxHeartbeats 400000 in
theorem containsFuncHold (w : World) (v : Value) (l : List Hold) (g : FuncId) (lb : Array Value) (pred : Hold → Bool) (eg : Enters Try.prog g) (hv : Sl cHold w w.heap.size v l)
    (hf : ∀ k, k < l.length → ∀ W, Below w.heap.size w W → Calls Try.prog g (#[vHold (hold l k)] ++ lb) W fun e W' => e = .returned (.bool (pred (hold l k))) ∧ Below W.heap.size W W') :
    Calls Try.prog 93 #[v, .func (.func g) #[] lb] w fun e w' => e = .returned (.bool (l.any pred)) ∧ Below w.heap.size w w' := by
  have H := Lib.hid (indexFuncHold w v l g lb pred eg hv hf)
  clear hf
  go_enter Try.func93, Try.ntmps93
  go_wp2_with fail
  refine H.out.mono ?_
  rintro e W1 ⟨rfl, hb1⟩
  go_wp2_with fail
  go_ret
  exact ⟨ret_bool (idxOf_any pred l), hb1⟩

set_option maxHeartbeats 1000000 in
theorem indexFuncMove (w : World) (v : Value) (l : List Move) (g : FuncId) (lb : Array Value) (pred : Move → Bool) (eg : Enters Try.prog g) (hv : Sl cMove w w.heap.size v l)
    (hf : ∀ k, k < l.length → ∀ W, Below w.heap.size w W → Calls Try.prog g (#[vMove (moveAt l k)] ++ lb) W fun e W' => e = .returned (.bool (pred (moveAt l k))) ∧ Below W.heap.size W W') :
    Calls Try.prog 117 #[v, .func (.func g) #[] lb] w fun e w' => e = .returned (.int .i64 (idxOf pred l)) ∧ Below w.heap.size w w' := by
  obtain ⟨A, c, rfl, hl, hA⟩ := hv
  have eg' : ∀ args w, Sem.run Try.prog (callFunc g args) w = .ok (.enter g args) w := eg
  go_enter Try.func117, Try.ntmps117
  go_wp2_with fail
  go_loopw [5, 8] (fun _ i wr => ∃ k : Nat, k ≤ l.length ∧ i = .int .i64 k ∧ (∀ j, j < k → pred (moveAt l j) = false) ∧ Below w.heap.size w wr) (fun _ i _ => l.length - (intOf i).toNat)
  case atStart => exact ⟨0, Nat.zero_le _, rfl, fun j hj => by omega, Below.refl _ _⟩
  case round =>
    obtain ⟨k, hk, rfl, hall, hbw⟩ := hrel
    have hal : ∀ j (hj : j < k), pred (l[j]'(by omega)) = false := fun j hj => by have := hall j hj; rwa [moveAt_eq (by omega)] at this
    by_cases hlt : k < l.length
    · obtain ⟨hok, hAb, b0, b1, b2, b3⟩ := (hA.up hbw hbw.size).move hlt
      go_wp2_with fail
      refine (hf k hlt _ hbw).mono ?_
      rintro e W1 ⟨rfl, hb1⟩
      have hbw1 := hbw.trans (hb1.mono hbw.size)
      cases hp : pred (moveAt l k)
      · go_wp2_with fail
        go_roundw
        case rel =>
          refine ⟨k + 1, by omega, by go_num, fun j hj => ?_, hbw1⟩
          rcases Nat.lt_succ_iff_lt_or_eq.1 hj with h | rfl
          · exact hall j h
          · exact hp
        case measure => simp [intOf]; omega
      · go_wp2_with fail
        go_ret
        exact ⟨ret_int (idxOf_at hlt (by rw [moveAt_eq hlt] at hp; exact hp) hal), hbw1⟩
    · obtain rfl : k = l.length := by omega
      go_wp2_with fail
      go_ret
      exact ⟨ret_int (idxOf_none fun j hj => by have := hall j hj; rwa [moveAt_eq hj] at this), hbw⟩
set_option maxHeartbeats 400000 in
theorem containsFuncMove (w : World) (v : Value) (l : List Move) (g : FuncId) (lb : Array Value) (pred : Move → Bool) (eg : Enters Try.prog g) (hv : Sl cMove w w.heap.size v l)
    (hf : ∀ k, k < l.length → ∀ W, Below w.heap.size w W → Calls Try.prog g (#[vMove (moveAt l k)] ++ lb) W fun e W' => e = .returned (.bool (pred (moveAt l k))) ∧ Below W.heap.size W W') :
    Calls Try.prog 95 #[v, .func (.func g) #[] lb] w fun e w' => e = .returned (.bool (l.any pred)) ∧ Below w.heap.size w w' := by
  have H := Lib.hid (indexFuncMove w v l g lb pred eg hv hf)
  clear hf
  go_enter Try.func95, Try.ntmps95
  go_wp2_with fail
  refine H.out.mono ?_
  rintro e W1 ⟨rfl, hb1⟩
  go_wp2_with fail
  go_ret
  exact ⟨ret_bool (idxOf_any pred l), hb1⟩

set_option maxHeartbeats 1000000 in
theorem indexFuncRow (w : World) (v : Value) (l : List (List Int)) (g : FuncId) (lb : Array Value) (pred : (List Int) → Bool) (eg : Enters Try.prog g) (hv : SlSl cInt w w.heap.size v l)
    (hf : ∀ k, k < l.length → ∀ W, Below w.heap.size w W → ∀ u, Sl cInt W W.heap.size u (rowAt l k) → Calls Try.prog g (#[u] ++ lb) W fun e W' => e = .returned (.bool (pred (rowAt l k))) ∧ Below W.heap.size W W') :
    Calls Try.prog 115 #[v, .func (.func g) #[] lb] w fun e w' => e = .returned (.int .i64 (idxOf pred l)) ∧ Below w.heap.size w w' := by
  obtain ⟨A, c, vs, rfl, hl, hvl, hA, hrows⟩ := hv
  have eg' : ∀ args w, Sem.run Try.prog (callFunc g args) w = .ok (.enter g args) w := eg
  go_enter Try.func115, Try.ntmps115
  go_wp2_with fail
  go_loopw [5, 8] (fun _ i wr => ∃ k : Nat, k ≤ l.length ∧ i = .int .i64 k ∧ (∀ j, j < k → pred (rowAt l j) = false) ∧ Below w.heap.size w wr) (fun _ i _ => l.length - (intOf i).toNat)
  case atStart => exact ⟨0, Nat.zero_le _, rfl, fun j hj => by omega, Below.refl _ _⟩
  case round =>
    obtain ⟨k, hk, rfl, hall, hbw⟩ := hrel
    have hal : ∀ j (hj : j < k), pred (l[j]'(by omega)) = false := fun j hj => by have := hall j hj; rwa [rowAt_eq (by omega)] at this
    by_cases hlt : k < l.length
    · obtain ⟨A', c', hok, hAb, hcu, hsu⟩ := (show SlSl cInt wr wr.heap.size _ l from SlSl.up ⟨A, c, vs, rfl, hl, hvl, hA, hrows⟩ hbw hbw.size).row hlt
      go_wp2_with fail
      refine (hf k hlt _ hbw _ hsu).mono ?_
      rintro e W1 ⟨rfl, hb1⟩
      have hbw1 := hbw.trans (hb1.mono hbw.size)
      cases hp : pred (rowAt l k)
      · go_wp2_with fail
        go_roundw
        case rel =>
          refine ⟨k + 1, by omega, by go_num, fun j hj => ?_, hbw1⟩
          rcases Nat.lt_succ_iff_lt_or_eq.1 hj with h | rfl
          · exact hall j h
          · exact hp
        case measure => simp [intOf]; omega
      · go_wp2_with fail
        go_ret
        exact ⟨ret_int (idxOf_at hlt (by rw [rowAt_eq hlt] at hp; exact hp) hal), hbw1⟩
    · obtain rfl : k = l.length := by omega
      go_wp2_with fail
      go_ret
      exact ⟨ret_int (idxOf_none fun j hj => by have := hall j hj; rwa [rowAt_eq hj] at this), hbw⟩
set_option maxHeartbeats 400000 in
theorem containsFuncRow (w : World) (v : Value) (l : List (List Int)) (g : FuncId) (lb : Array Value) (pred : (List Int) → Bool) (eg : Enters Try.prog g) (hv : SlSl cInt w w.heap.size v l)
    (hf : ∀ k, k < l.length → ∀ W, Below w.heap.size w W → ∀ u, Sl cInt W W.heap.size u (rowAt l k) → Calls Try.prog g (#[u] ++ lb) W fun e W' => e = .returned (.bool (pred (rowAt l k))) ∧ Below W.heap.size W W') :
    Calls Try.prog 87 #[v, .func (.func g) #[] lb] w fun e w' => e = .returned (.bool (l.any pred)) ∧ Below w.heap.size w w' := by
  have H := Lib.hid (indexFuncRow w v l g lb pred eg hv hf)
  clear hf
  go_enter Try.func87, Try.ntmps87
  go_wp2_with fail
  refine H.out.mono ?_
  rintro e W1 ⟨rfl, hb1⟩
  go_wp2_with fail
  go_ret
  exact ⟨ret_bool (idxOf_any pred l), hb1⟩

set_option maxHeartbeats 1000000 in
theorem indexFuncOrder (w : World) (v : Value) (l : List Order) (g : FuncId) (lb : Array Value) (pred : Order → Bool) (eg : Enters Try.prog g) (hv : SlOrders w w.heap.size v l)
    (hf : ∀ k, k < l.length → ∀ W, Below w.heap.size w W → ∀ u, Sl cLine W W.heap.size u (orderAt l k).lines → Calls Try.prog g (#[.agg #[.int .i64 (orderAt l k).kind, u]] ++ lb) W fun e W' => e = .returned (.bool (pred (orderAt l k))) ∧ Below W.heap.size W W') :
    Calls Try.prog 88 #[v, .func (.func g) #[] lb] w fun e w' => e = .returned (.int .i64 (idxOf pred l)) ∧ Below w.heap.size w w' := by
  obtain ⟨A, c, vs, rfl, hl, hvl, hA, hrows⟩ := hv
  have eg' : ∀ args w, Sem.run Try.prog (callFunc g args) w = .ok (.enter g args) w := eg
  go_enter Try.func88, Try.ntmps88
  go_wp2_with fail
  go_loopw [5, 8] (fun _ i wr => ∃ k : Nat, k ≤ l.length ∧ i = .int .i64 k ∧ (∀ j, j < k → pred (orderAt l j) = false) ∧ Below w.heap.size w wr) (fun _ i _ => l.length - (intOf i).toNat)
  case atStart => exact ⟨0, Nat.zero_le _, rfl, fun j hj => by omega, Below.refl _ _⟩
  case round =>
    obtain ⟨k, hk, rfl, hall, hbw⟩ := hrel
    have hal : ∀ j (hj : j < k), pred (l[j]'(by omega)) = false := fun j hj => by have := hall j hj; rwa [orderAt_eq (by omega)] at this
    by_cases hlt : k < l.length
    · obtain ⟨A', c', hok, hAb, hc0, hcu, hsu⟩ := (show SlOrders wr wr.heap.size _ l from SlOrders.up ⟨A, c, vs, rfl, hl, hvl, hA, hrows⟩ hbw hbw.size).order hlt
      go_wp2_with fail
      refine (hf k hlt _ hbw _ hsu).mono ?_
      rintro e W1 ⟨rfl, hb1⟩
      have hbw1 := hbw.trans (hb1.mono hbw.size)
      cases hp : pred (orderAt l k)
      · go_wp2_with fail
        go_roundw
        case rel =>
          refine ⟨k + 1, by omega, by go_num, fun j hj => ?_, hbw1⟩
          rcases Nat.lt_succ_iff_lt_or_eq.1 hj with h | rfl
          · exact hall j h
          · exact hp
        case measure => simp [intOf]; omega
      · go_wp2_with fail
        go_ret
        exact ⟨ret_int (idxOf_at hlt (by rw [orderAt_eq hlt] at hp; exact hp) hal), hbw1⟩
    · obtain rfl : k = l.length := by omega
      go_wp2_with fail
      go_ret
      exact ⟨ret_int (idxOf_none fun j hj => by have := hall j hj; rwa [orderAt_eq hj] at this), hbw⟩
set_option maxHeartbeats 400000 in
theorem containsFuncOrder (w : World) (v : Value) (l : List Order) (g : FuncId) (lb : Array Value) (pred : Order → Bool) (eg : Enters Try.prog g) (hv : SlOrders w w.heap.size v l)
    (hf : ∀ k, k < l.length → ∀ W, Below w.heap.size w W → ∀ u, Sl cLine W W.heap.size u (orderAt l k).lines → Calls Try.prog g (#[.agg #[.int .i64 (orderAt l k).kind, u]] ++ lb) W fun e W' => e = .returned (.bool (pred (orderAt l k))) ∧ Below W.heap.size W W') :
    Calls Try.prog 55 #[v, .func (.func g) #[] lb] w fun e w' => e = .returned (.bool (l.any pred)) ∧ Below w.heap.size w w' := by
  have H := Lib.hid (indexFuncOrder w v l g lb pred eg hv hf)
  clear hf
  go_enter Try.func55, Try.ntmps55
  go_wp2_with fail
  refine H.out.mono ?_
  rintro e W1 ⟨rfl, hb1⟩
  go_wp2_with fail
  go_ret
  exact ⟨ret_bool (idxOf_any pred l), hb1⟩

end Wh
namespace Wh
open Go Go.RowKit Go.Proofs
/-- The slices of a state; the rows' and the orders' lines'. -/
structure SV where
  on : Value
  orders : Value
  holds : Value
  moves : Value
  inn : Value
  out : Value
  fixed : Value
  rows : List Value
  lines : List Value
def SV.cells (V : SV) : List Value := [V.on, V.orders, V.holds, V.moves, V.inn, V.out, V.fixed]
def SV.val (V : SV) : Value := .agg #[V.on, V.orders, V.holds, V.moves, V.inn, V.out, V.fixed]
def nilV : Value := .slice none 0 0
def SV.row (V : SV) (b : Nat) : Value := V.rows.getD b nilV
def SV.line (V : SV) (o : Nat) : Value := V.lines.getD o nilV
def cOrd (x : Int × Value) : List Value := [.int .i64 x.1, x.2]
def ords (l : List Order) (vs : List Value) : List (Int × Value) := List.zipWith (fun o u => (o.kind, u)) l vs
/-- No two of these slices lie in one block. -/
def apartL (vs : List Value) : Prop := vs.Pairwise fun a b => ∀ g, a.ownBlock = some g → b.ownBlock ≠ some g

structure OwnSt (w : World) (base : Nat) (V : SV) (s : State) : Prop where
  on : Own (fun u : Value => [u]) 1 23 w base V.on V.rows
  rlen : V.rows.length = s.on.length
  row : ∀ b, b < s.on.length → Own cInt 1 3 w base (V.row b) (rowAt s.on b)
  orders : Own cOrd 2 73 w base V.orders (ords s.orders V.lines)
  llen : V.lines.length = s.orders.length
  line : ∀ o, o < s.orders.length → Own cLine 4 75 w base (V.line o) (s.order o).lines
  holds : Own cHold 4 87 w base V.holds s.holds
  moves : Own cMove 4 92 w base V.moves s.moves
  inn : Own cInt 1 3 w base V.inn s.inn
  out : Own cInt 1 3 w base V.out s.out
  fixed : Own cInt 1 3 w base V.fixed s.fixed
  apart : apartL (V.rows ++ [V.inn, V.out, V.fixed])
  apartl : apartL V.lines

theorem ords_length {l : List Order} {vs : List Value} (h : vs.length = l.length) : (ords l vs).length = l.length := by
  unfold ords
  rw [List.length_zipWith]
  omega
theorem ords_get {l : List Order} {vs : List Value} {i : Nat} (h : vs.length = l.length) (hi : i < l.length) : (ords l vs)[i]? = some ((orderAt l i).kind, vs.getD i nilV) := by
  unfold ords
  rw [List.getElem?_zipWith, List.getElem?_eq_getElem hi, List.getElem?_eq_getElem (by omega), orderAt_eq hi]
  simp [show i < vs.length by omega]
theorem apart_at {vs : List Value} (h : apartL vs) {i j : Nat} (hi : i < vs.length) (hj : j < vs.length) (hne : i ≠ j) {g : Nat} (hg : (vs.getD i nilV).ownBlock = some g) : (vs.getD j nilV).ownBlock ≠ some g := by
  have e1 : vs.getD i nilV = vs[i] := by simp [hi]
  have e2 : vs.getD j nilV = vs[j] := by simp [hj]
  rw [e1] at hg
  rw [e2]
  rcases Nat.lt_or_gt_of_ne hne with h1 | h1
  · exact List.pairwise_iff_getElem.1 h i j hi hj h1 g hg
  · intro he
    exact List.pairwise_iff_getElem.1 h j i hj hi h1 g he hg
/-- Two slices of one list, seen from a block that is written. -/
theorem apart_or {vs : List Value} (h : apartL vs) {i j : Nat} (hi : i < vs.length) (hj : j < vs.length) (hne : i ≠ j) : (vs.getD i nilV).ownBlock = none ∨ (vs.getD i nilV).ownBlock ≠ (vs.getD j nilV).ownBlock := by
  cases hb : (vs.getD i nilV).ownBlock with
  | none => exact .inl rfl
  | some g => exact .inr fun he => apart_at h hi hj hne hb he.symm

namespace OwnSt
variable {w w' : World} {base : Nat} {V : SV} {s : State}
theorem below (h : OwnSt w base V s) (hb : Below w.heap.size w w') : OwnSt w' base V s :=
  ⟨h.on.below hb, h.rlen, fun b hlt => (h.row b hlt).below hb, h.orders.below hb, h.llen, fun o ho => (h.line o ho).below hb, h.holds.below hb, h.moves.below hb, h.inn.below hb, h.out.below hb, h.fixed.below hb, h.apart, h.apartl⟩
theorem alloc (h : OwnSt w base V s) (o : Obj) : OwnSt (w.alloc o) base V s := h.below ((Below.refl _ _).alloc (Nat.le_refl _) _)
theorem drew (h : OwnSt w base V s) : OwnSt w.drew base V s := h.below (Below.refl _ _).drew
theorem from_ (h : OwnSt w base V s) {base' : Nat} (hb : base' ≤ base) : OwnSt w base' V s :=
  ⟨h.on.from_ hb, h.rlen, fun b hlt => (h.row b hlt).from_ hb, h.orders.from_ hb, h.llen, fun o ho => (h.line o ho).from_ hb, h.holds.from_ hb, h.moves.from_ hb, h.inn.from_ hb, h.out.from_ hb, h.fixed.from_ hb, h.apart, h.apartl⟩

theorem rowGet (h : OwnSt w base V s) {b : Nat} (hb : b < s.on.length) : V.rows[b]? = some (V.row b) := by
  unfold SV.row
  simp [show b < V.rows.length by rw [h.rlen]; exact hb]
theorem lineGet (h : OwnSt w base V s) {o : Nat} (ho : o < s.orders.length) : V.lines[o]? = some (V.line o) := by
  unfold SV.line
  simp [show o < V.lines.length by rw [h.llen]; exact ho]

-- which slices lie apart
theorem innAt (V : SV) : (V.rows ++ [V.inn, V.out, V.fixed]).getD (V.rows.length + 0) nilV = V.inn := by simp
theorem outAt (V : SV) : (V.rows ++ [V.inn, V.out, V.fixed]).getD (V.rows.length + 1) nilV = V.out := by simp
theorem fixedAt (V : SV) : (V.rows ++ [V.inn, V.out, V.fixed]).getD (V.rows.length + 2) nilV = V.fixed := by simp
theorem rowAtV (V : SV) {b : Nat} (hb : b < V.rows.length) : (V.rows ++ [V.inn, V.out, V.fixed]).getD b nilV = V.row b := by
  unfold SV.row
  simp [List.getD_eq_getElem?_getD, List.getElem?_append_left hb]
theorem lenV (V : SV) : (V.rows ++ [V.inn, V.out, V.fixed]).length = V.rows.length + 3 := by simp

/-- The holds' block was written. -/
theorem wroteHolds (h : OwnSt w base V s) (hg : w.grownBy w' V.holds.ownBlock) {v : Value} {l : List Hold} (hv : Own cHold 4 87 w' base v l) : OwnSt w' base { V with holds := v } { s with holds := l } :=
  ⟨h.on.kept hg (h.on.apart h.holds (by decide)), h.rlen, fun b hb => (h.row b hb).kept hg ((h.row b hb).apart h.holds (by decide)), h.orders.kept hg (h.orders.apart h.holds (by decide)), h.llen, fun o ho => (h.line o ho).kept hg ((h.line o ho).apart h.holds (by decide)),
    hv, h.moves.kept hg (h.moves.apart h.holds (by decide)), h.inn.kept hg (h.inn.apart h.holds (by decide)), h.out.kept hg (h.out.apart h.holds (by decide)), h.fixed.kept hg (h.fixed.apart h.holds (by decide)), h.apart, h.apartl⟩

theorem order_set {s : State} {o o' : Nat} {x : Order} (ho : o < s.orders.length) : orderAt (s.orders.set o x) o' = if o' = o then x else s.order o' := by
  unfold State.order orderAt
  by_cases h : o' = o
  · subst h
    simp [ho]
  · rw [if_neg h]
    simp [Ne.symm h]
theorem ords_set {l : List Order} {vs : List Value} {o : Nat} {x : Order} (hx : x.kind = (orderAt l o).kind) : ords (l.set o x) vs = ords l vs := by
  unfold ords
  apply List.ext_getElem?
  intro i
  rw [List.getElem?_zipWith, List.getElem?_zipWith, List.getElem?_set]
  by_cases h : o = i
  · subst h
    rw [if_pos rfl]
    by_cases hl : o < l.length
    · rw [if_pos hl, List.getElem?_eq_getElem hl]
      cases vs[o]? with
      | none => rfl
      | some u =>
        simp only
        rw [hx, orderAt_eq hl]
    · rw [if_neg hl, List.getElem?_eq_none (show l.length ≤ o by omega)]
  · rw [if_neg h]

/-- A number of a line. -/
theorem setLine (h : OwnSt w base V s) {o k : Nat} (ho : o < s.orders.length) (hk : k < (s.order o).lines.length) {gl n c : Nat} (hv : V.line o = .slice (some ⟨gl, 0, none⟩) n c) {j : Nat} (hj : j < 4) {y : Line} {u : Value}
    (hy : cLine y = (cLine (s.line o k)).set j u) : OwnSt (w.setCell ⟨gl, k * 4 + j, none⟩ u) base V (s.setLine o k y) ∧ w.grownBy (w.setCell ⟨gl, k * 4 + j, none⟩ u) (some gl) := by
  have hl := h.line o ho
  have hl' := hl
  rw [hv] at hl'
  have hlk : s.line o k = (s.order o).lines[k] := by unfold State.line; rw [lineAt_eq hk]
  obtain ⟨o1, hg⟩ := hl'.store (fun _ => rfl) hk hj (y := y) (u := u) (by rw [hy, hlk])
  have hob : (V.line o).ownBlock = some gl := by rw [hv]; rfl
  have hg' : w.grownBy (w.setCell ⟨gl, k * 4 + j, none⟩ u) (V.line o).ownBlock := by rw [hob]; exact hg
  have hlen : (s.setLine o k y).orders.length = s.orders.length := by unfold State.setLine; simp
  have hor : ∀ o', (s.setLine o k y).order o' = if o' = o then { s.order o with lines := (s.order o).lines.set k y } else s.order o' := fun o' => order_set ho
  refine ⟨⟨h.on.kept hg' (h.on.apart hl (by decide)), h.rlen, fun b hb => (h.row b hb).kept hg' ((h.row b hb).apart hl (by decide)), ?_, by rw [hlen]; exact h.llen, fun o' ho' => ?_, h.holds.kept hg' (h.holds.apart hl (by decide)),
    h.moves.kept hg' (h.moves.apart hl (by decide)), h.inn.kept hg' (h.inn.apart hl (by decide)), h.out.kept hg' (h.out.apart hl (by decide)), h.fixed.kept hg' (h.fixed.apart hl (by decide)), h.apart, h.apartl⟩, hg⟩
  · have e : ords (s.setLine o k y).orders V.lines = ords s.orders V.lines := ords_set rfl
    rw [e]
    exact h.orders.kept hg' (h.orders.apart hl (by decide))
  · rw [hlen] at ho'
    rw [hor]
    by_cases he : o' = o
    · subst he
      rw [if_pos rfl, hv]
      exact o1
    · rw [if_neg he]
      exact (h.line o' ho').kept hg' (apart_or h.apartl (by rw [h.llen]; exact ho') (by rw [h.llen]; exact ho) he)
/-- An order's kind. -/
theorem setKind (h : OwnSt w base V s) {o : Nat} (ho : o < s.orders.length) {go n c : Nat} (hv : V.orders = .slice (some ⟨go, 0, none⟩) n c) (q : Int) :
    OwnSt (w.setCell ⟨go, o * 2, none⟩ (.int .i64 q)) base V { s with orders := s.orders.set o { s.order o with kind := q } } ∧ w.grownBy (w.setCell ⟨go, o * 2, none⟩ (.int .i64 q)) (some go) := by
  have hl := h.orders
  have hl' := hl
  rw [hv] at hl'
  have hol : o < (ords s.orders V.lines).length := by rw [ords_length h.llen]; exact ho
  have hget : (ords s.orders V.lines)[o] = ((orderAt s.orders o).kind, V.lines.getD o nilV) := by
    have := ords_get h.llen ho
    rw [List.getElem?_eq_getElem hol] at this
    exact Option.some.inj this
  obtain ⟨o1, hg⟩ := hl'.store (i := o) (fun _ => rfl) hol (show 0 < 2 by omega) (y := (q, V.lines.getD o nilV)) (u := .int .i64 q) (by rw [hget]; rfl)
  have hob : V.orders.ownBlock = some go := by rw [hv]; rfl
  rw [Nat.add_zero] at o1 hg
  have hg' : w.grownBy (w.setCell ⟨go, o * 2, none⟩ (.int .i64 q)) V.orders.ownBlock := by rw [hob]; exact hg
  have hlen : (s.orders.set o { s.order o with kind := q }).length = s.orders.length := by simp
  refine ⟨⟨h.on.kept hg' (h.on.apart hl (by decide)), h.rlen, fun b hb => (h.row b hb).kept hg' ((h.row b hb).apart hl (by decide)), ?_, by rw [hlen]; exact h.llen, fun o' ho' => ?_, h.holds.kept hg' (h.holds.apart hl (by decide)),
    h.moves.kept hg' (h.moves.apart hl (by decide)), h.inn.kept hg' (h.inn.apart hl (by decide)), h.out.kept hg' (h.out.apart hl (by decide)), h.fixed.kept hg' (h.fixed.apart hl (by decide)), h.apart, h.apartl⟩, hg⟩
  · rw [hv]
    have e : ords (s.orders.set o { s.order o with kind := q }) V.lines = (ords s.orders V.lines).set o (q, V.lines.getD o nilV) := by
      unfold ords
      apply List.ext_getElem?
      intro i
      rw [List.getElem?_zipWith, List.getElem?_set, List.getElem?_set, List.getElem?_zipWith]
      by_cases he : o = i
      · subst he
        have hvl : o < V.lines.length := by rw [h.llen]; exact ho
        rw [if_pos rfl, if_pos ho, if_pos rfl, if_pos (by rw [List.length_zipWith]; omega), List.getElem?_eq_getElem hvl]
        simp [hvl]
      · rw [if_neg he, if_neg he]
    show Own cOrd 2 73 _ base _ (ords (s.orders.set o { s.order o with kind := q }) V.lines)
    rw [e]
    exact o1
  · rw [hlen] at ho'
    have hor : State.order { s with orders := s.orders.set o { s.order o with kind := q } } o' = if o' = o then { s.order o with kind := q } else s.order o' := order_set ho
    rw [hor]
    have k1 := (h.line o' ho').kept hg' ((h.line o' ho').apart hl (by decide))
    by_cases he : o' = o
    · subst he
      rw [if_pos rfl]
      exact k1
    · rw [if_neg he]
      exact k1
/-- A number of a shelf. -/
theorem setOn (h : OwnSt w base V s) {b g : Nat} (hb : b < s.on.length) (hgl : g < (rowAt s.on b).length) {gr n c : Nat} (hv : V.row b = .slice (some ⟨gr, 0, none⟩) n c) (q : Int) :
    OwnSt (w.setCell ⟨gr, g, none⟩ (.int .i64 q)) base V { s with on := setCell s.on b g q } ∧ w.grownBy (w.setCell ⟨gr, g, none⟩ (.int .i64 q)) (some gr) := by
  have hl := h.row b hb
  have hl' := hl
  rw [hv] at hl'
  obtain ⟨o1, hg⟩ := hl'.store (i := g) (fun _ => rfl) hgl (show 0 < 1 by omega) (y := q) (u := .int .i64 q) rfl
  rw [Nat.mul_one, Nat.add_zero] at o1 hg
  have hob : (V.row b).ownBlock = some gr := by rw [hv]; rfl
  have hg' : w.grownBy (w.setCell ⟨gr, g, none⟩ (.int .i64 q)) (V.row b).ownBlock := by rw [hob]; exact hg
  have hbV : b < V.rows.length := by rw [h.rlen]; exact hb
  have key : ∀ i, i < V.rows.length + 3 → i ≠ b → ((V.rows ++ [V.inn, V.out, V.fixed]).getD i nilV).ownBlock = none ∨ ((V.rows ++ [V.inn, V.out, V.fixed]).getD i nilV).ownBlock ≠ (V.row b).ownBlock := fun i hi hne => by
    have := apart_or h.apart (i := i) (j := b) (by rw [lenV]; exact hi) (by rw [lenV]; omega) hne
    rw [rowAtV V hbV] at this
    exact this
  refine ⟨⟨h.on.kept hg' (h.on.apart hl (by decide)), by rw [length_setCell]; exact h.rlen, fun i hi => ?_, h.orders.kept hg' (h.orders.apart hl (by decide)), h.llen, fun o ho => (h.line o ho).kept hg' ((h.line o ho).apart hl (by decide)), h.holds.kept hg' (h.holds.apart hl (by decide)),
    h.moves.kept hg' (h.moves.apart hl (by decide)), h.inn.kept hg' ?_, h.out.kept hg' ?_, h.fixed.kept hg' ?_, h.apart, h.apartl⟩, hg⟩
  · rw [length_setCell] at hi
    unfold Wh.setCell
    rw [rowAt_set hb]
    by_cases he : i = b
    · subst he
      rw [if_pos rfl, hv]
      exact o1
    · rw [if_neg he]
      have := key i (by rw [h.rlen]; omega) he
      rw [rowAtV V (by rw [h.rlen]; exact hi)] at this
      exact (h.row i hi).kept hg' this
  · have := key (V.rows.length + 0) (by omega) (by omega)
    rw [innAt] at this
    exact this
  · have := key (V.rows.length + 1) (by omega) (by omega)
    rw [outAt] at this
    exact this
  · have := key (V.rows.length + 2) (by omega) (by omega)
    rw [fixedAt] at this
    exact this
end OwnSt
end Wh
