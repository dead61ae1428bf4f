/- Texts of the claim, joined: Model, Mem. -/
import Derived.WalkKit
import Derived.WalkSpells
import Derived.WalkLawsBesides
import Derived.Lib.Hide
import Derived.Shelf.Abstract
import Derived.Maps.AppendAt
import Derived.Deep.QuietTactic
import Derived.BigQuiet
import Derived.Deep.RegionWith
import Derived.Deep.AppendLies
namespace Wh

structure Bin where
  front : Bool
  room : Int
  low : Int
  high : Int

structure Plan where
  bins : List Bin
  sizes : List Int

structure Line where
  good : Int
  want : Int
  got : Int
  back : Int

structure Order where
  kind : Int
  lines : List Line

structure Hold where
  order : Int
  line : Int
  bin : Int
  n : Int

structure Move where
  good : Int
  src : Int
  dst : Int
  n : Int

structure State where
  on : List (List Int)
  orders : List Order
  holds : List Hold
  moves : List Move
  inn : List Int
  out : List Int
  fixed : List Int

structure Total where
  on : Int
  held : Int
  back : Int
  got : Int

instance : DecidableEq Line := fun x y =>
  if h : x.good = y.good ∧ x.want = y.want ∧ x.got = y.got ∧ x.back = y.back then
    isTrue (by cases x; cases y; simp at h; simp [h])
  else isFalse (by rintro rfl; simp at h)
instance : DecidableEq Hold := fun x y =>
  if h : x.order = y.order ∧ x.line = y.line ∧ x.bin = y.bin ∧ x.n = y.n then
    isTrue (by cases x; cases y; simp at h; simp [h])
  else isFalse (by rintro rfl; simp at h)
instance : DecidableEq Move := fun x y =>
  if h : x.good = y.good ∧ x.src = y.src ∧ x.dst = y.dst ∧ x.n = y.n then
    isTrue (by cases x; cases y; simp at h; simp [h])
  else isFalse (by rintro rfl; simp at h)
instance : DecidableEq Order := fun x y =>
  if h : x.kind = y.kind ∧ x.lines = y.lines then
    isTrue (by cases x; cases y; simp at h; simp [h])
  else isFalse (by rintro rfl; simp at h)
instance : DecidableEq State := fun x y =>
  if h : x.on = y.on ∧ x.orders = y.orders ∧ x.holds = y.holds ∧ x.moves = y.moves ∧ x.inn = y.inn ∧ x.out = y.out ∧ x.fixed = y.fixed then
    isTrue (by cases x; cases y; simp at h; simp [h])
  else isFalse (by rintro rfl; simp at h)
instance : DecidableEq Total := fun x y =>
  if h : x.on = y.on ∧ x.held = y.held ∧ x.back = y.back ∧ x.got = y.got then
    isTrue (by cases x; cases y; simp at h; simp [h])
  else isFalse (by rintro rfl; simp at h)

def dBin : Bin := ⟨false, 0, 0, 0⟩
def dLine : Line := ⟨0, 0, 0, 0⟩
def dOrder : Order := ⟨0, []⟩
def dHold : Hold := ⟨0, 0, 0, 0⟩
def dMove : Move := ⟨0, 0, 0, 0⟩
def dState : State := ⟨[], [], [], [], [], [], []⟩

def intAt (l : List Int) (i : Nat) : Int := l.getD i 0
def rowAt (l : List (List Int)) (i : Nat) : List Int := l.getD i []
def binAt (l : List Bin) (i : Nat) : Bin := l.getD i dBin
def lineAt (l : List Line) (i : Nat) : Line := l.getD i dLine
def orderAt (l : List Order) (i : Nat) : Order := l.getD i dOrder
def moveAt (l : List Move) (i : Nat) : Move := l.getD i dMove

def within (n lo hi : Int) : Bool := decide (lo ≤ n) && decide (n ≤ hi)

-- chapter 1
def binOk (b : Bin) : Bool := within b.room 0 1000 && within b.high 0 200 && within b.low 0 b.high
def sizeOk (s : Int) : Bool := within s 1 9
def checkPlan (p : Plan) : Int :=
  if !(within p.bins.length 1 6 && within p.sizes.length 1 3) then 2
  else if !(p.bins.all binOk && p.sizes.all sizeOk) then 3 else 0
def Plan.bin (p : Plan) (b : Nat) : Bin := binAt p.bins b
def kinds (p : Plan) (f : Bool) : List Nat := (List.range p.bins.length).filter fun b => (p.bin b).front == f
def kindsTo (p : Plan) (f : Bool) (k : Nat) : List Nat := (List.range k).filter fun b => (p.bin b).front == f
def way (p : Plan) : List Nat := kinds p true ++ kinds p false

-- chapter 2
def isBin (p : Plan) (b : Int) : Bool := within b 0 (p.bins.length - 1)
def isGood (p : Plan) (g : Int) : Bool := within g 0 (p.sizes.length - 1)
def rowOk (p : Plan) (row : List Int) : Bool := decide (row.length = p.sizes.length) && row.all (within · 0 200)
def shelfOk (p : Plan) (on : List (List Int)) : Bool := decide (on.length = p.bins.length) && on.all (rowOk p)
def checkShelf (p : Plan) (on : List (List Int)) : Int :=
  if checkPlan p ≠ 0 then checkPlan p else if shelfOk p on then 0 else 1
def shelfError (p : Plan) (on : List (List Int)) (b g : Int) : Int :=
  if checkShelf p on ≠ 0 then checkShelf p on else if isBin p b && isGood p g then 0 else 3
def cell (on : List (List Int)) (b g : Nat) : Int := intAt (rowAt on b) g
def setCell (on : List (List Int)) (b g : Nat) (n : Int) : List (List Int) := on.set b ((rowAt on b).set g n)
def sumTo (f : Nat → Int) : Nat → Int
  | 0 => 0
  | k + 1 => sumTo f k + f k
def sumOf (on : List (List Int)) (g : Nat) : Int := sumTo (fun b => cell on b g) on.length
def sumE (p : Plan) (on : List (List Int)) (g : Int) : Int := if shelfError p on 0 g = 0 then sumOf on g.toNat else 0
def put (p : Plan) (on : List (List Int)) (b g n : Int) : List (List Int) × Int :=
  if shelfError p on b g ≠ 0 then ([], shelfError p on b g)
  else if !(within n (-(cell on b.toNat g.toNat)) (200 - cell on b.toNat g.toNat)) then ([], 3)
  else (setCell on b.toNat g.toNat (cell on b.toNat g.toNat + n), 0)

-- chapter 3
def holdFine (h : Hold) : Bool := within h.order 0 3 && within h.line 0 2 && within h.bin 0 5 && within h.n 1 200
def place (h : Hold) : Int := (h.order * 3 + h.line) * 6 + h.bin
def hold (l : List Hold) (k : Nat) : Hold := l.getD k dHold
def holdsOk (l : List Hold) : Bool :=
  (List.range l.length).all fun k => holdFine (hold l k) && (decide (k = 0) || decide (place (hold l (k - 1)) < place (hold l k)))
def checkHolds (l : List Hold) : Int := if holdsOk l then 0 else 1
def sameLine (o ln : Int) (h : Hold) : Bool := decide (h.order = o) && decide (h.line = ln)
def sameKey (o ln b : Int) (h : Hold) : Bool := decide (h.order = o) && decide (h.line = ln) && decide (h.bin = b)
def keptAt (l : List Hold) (o ln b : Int) : Int := match l.find? (sameKey o ln b) with | some h => h.n | none => 0
/-- That hold has n then; none, if it is 0. -/
def withHold (l : List Hold) (h : Hold) : List Hold :=
  l.filter (fun x => decide (place x < place h)) ++ (if h.n = 0 then [] else [h]) ++ l.filter (fun x => decide (place h < place x))
def add (l : List Hold) (h : Hold) : List Hold × Int :=
  if !(holdsOk l) then ([], 1) else if !(holdFine h) then ([], 1)
  else if 200 < keptAt l h.order h.line h.bin + h.n then ([], 3)
  else (withHold l { h with n := keptAt l h.order h.line h.bin + h.n }, 0)
def drop (l : List Hold) (o ln b : Int) : List Hold × Int × Int :=
  if !(holdsOk l) then ([], 0, 1) else if keptAt l o ln b = 0 then ([], 0, 4)
  else (withHold l ⟨o, ln, b, 0⟩, keptAt l o ln b, 0)
def kept (l : List Hold) (o ln : Int) : Int := ((l.filter (sameLine o ln)).map (·.n)).sum
def keptE (l : List Hold) (o ln : Int) : Int × Int := if !(holdsOk l) then (0, 1) else (kept l o ln, 0)

-- chapter 4
def State.order (s : State) (o : Nat) : Order := orderAt s.orders o
def State.line (s : State) (o k : Nat) : Line := lineAt (s.order o).lines k
def begin (p : Plan) : State :=
  let z := List.replicate p.sizes.length 0
  ⟨List.replicate p.bins.length z, [], [], [], z, z, z⟩
def heldN (s : State) (b g : Int) (h : Hold) : Int := if h.bin = b ∧ (s.line h.order.toNat h.line.toNat).good = g then h.n else 0
def fromN (b g : Int) (x : Move) : Int := if x.src = b ∧ x.good = g then x.n else 0
def toN (b g : Int) (x : Move) : Int := if x.dst = b ∧ x.good = g then x.n else 0
def heldIn (s : State) (b g : Int) : Int := (s.holds.map (heldN s b g)).sum
def goingOf (l : List Move) (b g : Int) : Int := (l.map (fromN b g)).sum
def bound (s : State) (b g : Int) : Int := heldIn s b g + goingOf s.moves b g
def comingOf (l : List Move) (b g : Int) : Int := (l.map (toN b g)).sum
def coming (s : State) (b g : Int) : Int := comingOf s.moves b g
def lineOk (p : Plan) (x : Line) : Bool := isGood p x.good && within x.want 1 200 && within x.got 0 x.want && within x.back 0 x.want
def orderOk (p : Plan) (o : Order) : Bool := within o.kind 0 2 && o.lines.all (lineOk p)
def holdIn (p : Plan) (s : State) (h : Hold) : Bool :=
  decide (h.order < s.orders.length) && decide (h.line < (s.order h.order.toNat).lines.length) && decide (h.bin < p.bins.length)
def moveOk (p : Plan) (x : Move) : Bool := isGood p x.good && isBin p x.src && isBin p x.dst && decide (x.src ≠ x.dst) && within x.n 1 200
def sumsOk (p : Plan) (l : List Int) (lo : Int) : Bool := decide (l.length = p.sizes.length) && l.all (within · lo 1048576)
def manyOk (s : State) : Bool := decide (s.orders.length ≤ 4) && decide (s.moves.length ≤ 8) && s.orders.all (fun o => within o.lines.length 1 3)
def formed (p : Plan) (s : State) : Bool :=
  s.orders.all (orderOk p) && holdsOk s.holds && s.holds.all (holdIn p s) && s.moves.all (moveOk p) && sumsOk p s.inn 0 && sumsOk p s.out 0 && sumsOk p s.fixed (-1048576)
def goodSummed (p : Plan) (s : State) (g : Nat) : Bool :=
  decide (sumOf s.on g = intAt s.inn g - intAt s.out g + intAt s.fixed g) && (List.range p.bins.length).all fun b => decide (bound s b g ≤ cell s.on b g)
def allGot (o : Order) : Bool := o.lines.all fun x => decide (x.got = x.want)
def lineSummed (s : State) (o : Nat) (k : Nat) : Bool :=
  let x := s.line o k
  let n := kept s.holds o k
  decide (x.got + x.back + n = if (s.order o).kind = 0 then 0 else x.want) && !(decide ((s.order o).kind = 2) && decide (0 < n))
def orderSummed (s : State) (o : Nat) : Bool :=
  !(decide ((s.order o).kind = 1) && allGot (s.order o)) && (List.range (s.order o).lines.length).all (lineSummed s o)
def summed (p : Plan) (s : State) : Bool :=
  (List.range p.sizes.length).all (goodSummed p s) && (List.range s.orders.length).all (orderSummed s)
def checkState (p : Plan) (s : State) : Int :=
  if checkShelf p s.on ≠ 0 then checkShelf p s.on
  else if !(manyOk s) then 2 else if !(formed p s) then 1 else if !(summed p s) then 7 else 0
def avail (s : State) (b g : Int) : Int := cell s.on b.toNat g.toNat - bound s b g
def free (p : Plan) (s : State) (b : Int) : Int :=
  (p.bin b.toNat).room - sumTo (fun g => (cell s.on b.toNat g + coming s b g) * intAt p.sizes g) p.sizes.length
def freeE (p : Plan) (s : State) (b : Int) : Int × Int :=
  if checkState p s ≠ 0 then (0, checkState p s) else if !(isBin p b) then (0, 3) else (free p s b, 0)

-- chapter 5
def State.setLine (s : State) (o k : Nat) (x : Line) : State :=
  { s with orders := s.orders.set o { s.order o with lines := (s.order o).lines.set k x } }
def hold1 (s : State) (o k : Nat) (b : Int) (m : Int) : State :=
  ({ s with holds := withHold s.holds ⟨o, k, b, keptAt s.holds o k b + m⟩ } : State).setLine o k { s.line o k with back := (s.line o k).back - m }
def takeGo (o k : Nat) (but : Int) : List Nat → State → Int → State × Int
  | [], s, n => (s, n)
  | b :: r, s, n =>
    let m := min n (avail s b (s.line o k).good)
    if (b : Int) = but ∨ m < 1 then takeGo o k but r s n else takeGo o k but r (hold1 s o k b m) (n - m)
def takeS (p : Plan) (s : State) (o k : Nat) (n but : Int) : State × Int := takeGo o k but (way p) s n
def take (p : Plan) (s : State) (o k n but : Int) : State × Int × Int :=
  if checkState p s ≠ 0 then (dState, 0, checkState p s)
  else if !(within o 0 (s.orders.length - 1)) then (dState, 0, 3)
  else if !(within k 0 ((s.order o.toNat).lines.length - 1)) || !(within n 0 200) || !(decide (but = -1) || isBin p but) then (dState, 0, 3)
  else if (s.order o.toNat).kind ≠ 1 then (dState, 0, 6)
  else if (s.line o.toNat k.toNat).back < n then (dState, 0, 3)
  else ((takeS p s o.toNat k.toNat n but).1, (takeS p s o.toNat k.toNat n but).2, 0)

-- chapter 6
def enter (p : Plan) (s : State) (l : List Line) : State × Int :=
  if checkState p s ≠ 0 then (dState, checkState p s)
  else if 4 ≤ s.orders.length ∨ !(within l.length 1 3) then (dState, 2)
  else if !(l.all fun x => isGood p x.good && within x.want 1 200) then (dState, 3)
  else if !(l.all fun x => decide (x.got = 0) && decide (x.back = 0)) then (dState, 1)
  else ({ s with orders := s.orders ++ [⟨0, l⟩] }, 0)

-- chapter 7
def freed (o : Order) : Order := if o.kind = 0 then ⟨1, o.lines.map fun x => { x with back := x.want }⟩ else o
-- chapter 8
-- chapter 9
def fillN (p : Plan) (s : State) (b g f : Nat) : Int :=
  min (min ((p.bin b).high - cell s.on b g - coming s b g) (avail s f g)) ((free p s b).tdiv (intAt p.sizes g))
def fill1 (p : Plan) (s : State) (b g f : Nat) : State :=
  if 8 ≤ s.moves.length then s else if 0 < fillN p s b g f then { s with moves := s.moves ++ [⟨g, f, b, fillN p s b g f⟩] } else s
def fillGood (p : Plan) (b : Nat) (s : State) (g : Nat) : State :=
  if cell s.on b g + coming s b g < (p.bin b).low then (kinds p false).foldl (fun t f => fill1 p t b g f) s else s
def fillS (p : Plan) (s : State) : State := (kinds p true).foldl (fun t b => (List.range p.sizes.length).foldl (fillGood p b) t) s
def fill (p : Plan) (s : State) : State × Int :=
  if checkState p s ≠ 0 then (dState, checkState p s) else (fillS p s, 0)
def movedS (s : State) (k : Nat) (n : Int) : State :=
  let x := moveAt s.moves k
  let on1 := setCell s.on x.src.toNat x.good.toNat (cell s.on x.src.toNat x.good.toNat - n)
  { s with on := setCell on1 x.dst.toNat x.good.toNat (cell on1 x.dst.toNat x.good.toNat + n), moves := s.moves.eraseIdx k }
def moved (p : Plan) (s : State) (k n : Int) : State × Int :=
  if checkState p s ≠ 0 then (dState, checkState p s)
  else if !(within k 0 (s.moves.length - 1)) then (dState, 4)
  else if !(within n 0 (moveAt s.moves k.toNat).n) then (dState, 3)
  else if 200 < cell s.on (moveAt s.moves k.toNat).dst.toNat (moveAt s.moves k.toNat).good.toNat + n then (dState, 2)
  else (movedS s k.toNat n, 0)

-- chapter 11
end Wh
namespace Wh
open Go Go.RowKit

/-- A slice's address that leads to cells (no part of a cell). -/
def okA (A : Option Addr) : Prop := ∃ b off, A = some ⟨b, off, none⟩
def ablk : Option Addr → Nat
  | some a => a.block
  | none => 0
def aoff : Option Addr → Nat
  | some a => a.off
  | none => 0
theorem okA_some (b off : Nat) : okA (some ⟨b, off, none⟩) := ⟨b, off, rfl⟩
theorem okA.eq {A : Option Addr} (h : okA A) : A = some ⟨ablk A, aoff A, none⟩ := by obtain ⟨b, off, rfl⟩ := h; rfl

section
variable {P : Program} (w : World)
/-- An index into a slice whose address is a letter. -/
theorem run_indexAt_letter (t : TypeId) (A : Option Addr) (len cap : Nat) (k : IntKind) (i : Int) (h : P.underlying t = some (.slice (P.elem t))) (hA : okA A) :
    (Instr.indexAt t (.slice A len cap) (.int k i)).run P w =
      if 0 ≤ i ∧ i < len then ((Go.sizeOf (P.elem t)).run P w).andThen fun s w => .ok (.pointer (some ⟨ablk A, aoff A + i.toNat * s, none⟩)) w
      else (boundsPanic k i len .index).run P w := by
  obtain ⟨b, off, rfl⟩ := hA
  rw [run_indexAt_slice w t _ len cap k i h]
  simp only [Addr.add_lit, ablk, aoff]
end

/-- The cells 'xs' lie from A on, in a block below B. (Of no cell nothing is said.) -/
def At (w : World) (B : Nat) (A : Option Addr) (xs : List Value) : Prop :=
  xs ≠ [] → okA A ∧ ablk A < B ∧ ∀ j v, xs[j]? = some v → w.cell? ⟨ablk A, aoff A + j, none⟩ = some v

section
variable {w w' : World} {B B' : Nat} {A : Option Addr} {xs : List Value}
theorem At.nil : At w B A [] := fun h => absurd rfl h
theorem At.up (h : At w B A xs) (hb : Below B w w') (hB : B ≤ B') : At w' B' A xs := fun hn =>
  let ⟨h1, h2, h3⟩ := h hn
  ⟨h1, by omega, fun j v hj => (hb.cell (p := ⟨ablk A, aoff A + j, none⟩) h2).trans (h3 j v hj)⟩
theorem At.ok (h : At w B A xs) (hn : 0 < xs.length) : okA A := (h (by rintro rfl; simp at hn)).1
theorem At.lt (h : At w B A xs) (hn : 0 < xs.length) : ablk A < B := (h (by rintro rfl; simp at hn)).2.1
theorem At.cell (h : At w B A xs) {j : Nat} {v : Value} (hj : xs[j]? = some v) : w.cell? ⟨ablk A, aoff A + j, none⟩ = some v :=
  (h (by rintro rfl; simp at hj)).2.2 j v hj
end

theorem bcell {W w1 : World} (hb : Below W.heap.size W w1) : (∀ b o, b < W.heap.size → w1.cell? ⟨b, o, none⟩ = W.cell? ⟨b, o, none⟩) ∧ (∀ b o, b < W.heap.size → w1.frozen? ⟨b, o, none⟩ = W.frozen? ⟨b, o, none⟩) :=
  ⟨fun b o h => hb.cell (p := ⟨b, o, none⟩) h, fun b o h => hb.frozen (p := ⟨b, o, none⟩) h⟩

theorem below_drewN {B : Nat} {a w : World} (h : Below B a w) (n : Nat) : Below B a (w.drewN n) := ⟨h.os, h.tape, h.output, h.size, h.block⟩
theorem ret_int {k : IntKind} {a b : Int} (h : a = b) : Ending.returned (.int k a) = .returned (.int k b) := by rw [h]
theorem ret_bool {a b : Bool} (h : a = b) : Ending.returned (.bool a) = .returned (.bool b) := by rw [h]
theorem ret2 {a b c d : Value} (h : a = b) (h' : c = d) : Ending.returned (.tuple #[a, c]) = .returned (.tuple #[b, d]) := by rw [h, h']

/-- A family of cells for each element. -/
theorem flat_get {α : Type} (enc : α → List Value) (k : Nat) (hk : ∀ x, (enc x).length = k) :
    ∀ (l : List α) (i j : Nat) (x : α), l[i]? = some x → j < k → (l.flatMap enc)[i * k + j]? = (enc x)[j]?
  | [], _, _, _, h, _ => by simp at h
  | y :: l, 0, j, x, h, hj => by
    simp at h
    subst h
    simp [List.getElem?_append_left (show j < (enc y).length by rw [hk]; exact hj)]
  | y :: l, i + 1, j, x, h, hj => by
    simp only [List.getElem?_cons_succ] at h
    have ih := flat_get enc k hk l i j x h hj
    rw [List.flatMap_cons, List.getElem?_append_right (by rw [hk]; rw [Nat.add_mul]; omega), hk, ← ih]
    congr 1
    rw [Nat.add_mul]
    omega
theorem flat_length {α : Type} (enc : α → List Value) (k : Nat) (hk : ∀ x, (enc x).length = k) (l : List α) : (l.flatMap enc).length = l.length * k := by
  induction l with
  | nil => simp
  | cons y l ih => rw [List.flatMap_cons, List.length_append, hk, ih, List.length_cons, Nat.add_mul]; omega

def int (n : Int) : Value := .int .i64 n
def cInt (n : Int) : List Value := [.int .i64 n]
def cBin (b : Bin) : List Value := [.bool b.front, .int .i64 b.room, .int .i64 b.low, .int .i64 b.high]
def cLine (x : Line) : List Value := [.int .i64 x.good, .int .i64 x.want, .int .i64 x.got, .int .i64 x.back]
def cHold (x : Hold) : List Value := [.int .i64 x.order, .int .i64 x.line, .int .i64 x.bin, .int .i64 x.n]
def cMove (x : Move) : List Value := [.int .i64 x.good, .int .i64 x.src, .int .i64 x.dst, .int .i64 x.n]
def vBin (b : Bin) : Value := .agg #[.bool b.front, .int .i64 b.room, .int .i64 b.low, .int .i64 b.high]
def vLine (x : Line) : Value := .agg #[.int .i64 x.good, .int .i64 x.want, .int .i64 x.got, .int .i64 x.back]
def vHold (x : Hold) : Value := .agg #[.int .i64 x.order, .int .i64 x.line, .int .i64 x.bin, .int .i64 x.n]
def vMove (x : Move) : Value := .agg #[.int .i64 x.good, .int .i64 x.src, .int .i64 x.dst, .int .i64 x.n]
/-- A slice that reads as the list l, each element its cells. -/
def Sl {α : Type} (enc : α → List Value) (w : World) (B : Nat) (v : Value) (l : List α) : Prop :=
  ∃ A c, v = .slice A l.length c ∧ l.length ≤ 140737488355232 ∧ At w B A (l.flatMap enc)

section
variable {α : Type} {enc : α → List Value} {w w' : World} {B B' : Nat} {v : Value} {l : List α}
theorem Sl.up (h : Sl enc w B v l) (hb : Below B w w') (hB : B ≤ B') : Sl enc w' B' v l :=
  let ⟨A, c, h1, h2, h3⟩ := h
  ⟨A, c, h1, h2, h3.up hb hB⟩
theorem Sl.at_ {A : Option Addr} {n c : Nat} (h : Sl enc w B (.slice A n c) l) : At w B A (l.flatMap enc) := by
  obtain ⟨A', c', h1, _, h3⟩ := h
  injection h1 with e
  rw [e]
  exact h3
theorem Sl.drew (h : Sl enc w B v l) : Sl enc w.drew B v l := h
theorem Sl.nil : Sl enc w B (.slice none 0 0) ([] : List α) := ⟨none, 0, rfl, by simp, At.nil⟩
end

/-- Rows: a slice of slices. -/
def SlSl {α : Type} (enc : α → List Value) (w : World) (B : Nat) (v : Value) (l : List (List α)) : Prop :=
  ∃ A c vs, v = .slice A l.length c ∧ l.length ≤ 140737488355232 ∧ vs.length = l.length ∧ At w B A vs ∧ ∀ (i : Nat) (x : List α), l[i]? = some x → ∃ u, vs[i]? = some u ∧ Sl enc w B u x
def SlOrders (w : World) (B : Nat) (v : Value) (l : List Order) : Prop :=
  ∃ A c vs, v = .slice A l.length c ∧ l.length ≤ 140737488355232 ∧ vs.length = l.length ∧
    At w B A ((l.zip vs).flatMap fun x => [.int .i64 x.1.kind, x.2]) ∧ ∀ (i : Nat) (x : Order), l[i]? = some x → ∃ u, vs[i]? = some u ∧ Sl cLine w B u x.lines

theorem SlSl.up {α : Type} {enc : α → List Value} {w w' : World} {B B' : Nat} {v : Value} {l : List (List α)} (h : SlSl enc w B v l) (hb : Below B w w') (hB : B ≤ B') : SlSl enc w' B' v l :=
  let ⟨A, c, vs, h1, h2, h3, h4, h5⟩ := h
  ⟨A, c, vs, h1, h2, h3, h4.up hb hB, fun i x hi => let ⟨u, hu, hs⟩ := h5 i x hi; ⟨u, hu, hs.up hb hB⟩⟩
theorem SlOrders.up {w w' : World} {B B' : Nat} {v : Value} {l : List Order} (h : SlOrders w B v l) (hb : Below B w w') (hB : B ≤ B') : SlOrders w' B' v l :=
  let ⟨A, c, vs, h1, h2, h3, h4, h5⟩ := h
  ⟨A, c, vs, h1, h2, h3, h4.up hb hB, fun i x hi => let ⟨u, hu, hs⟩ := h5 i x hi; ⟨u, hu, hs.up hb hB⟩⟩

def PlanV (w : World) (B : Nat) (v : Value) (p : Plan) : Prop :=
  ∃ vb vs, v = .agg #[vb, vs] ∧ Sl cBin w B vb p.bins ∧ Sl cInt w B vs p.sizes
def StateV (w : World) (B : Nat) (v : Value) (s : State) : Prop :=
  ∃ v0 v1 v2 v3 v4 v5 v6, v = .agg #[v0, v1, v2, v3, v4, v5, v6] ∧ SlSl cInt w B v0 s.on ∧ SlOrders w B v1 s.orders ∧ Sl cHold w B v2 s.holds ∧ Sl cMove w B v3 s.moves ∧
    Sl cInt w B v4 s.inn ∧ Sl cInt w B v5 s.out ∧ Sl cInt w B v6 s.fixed
theorem PlanV.up {w w' : World} {B B' : Nat} {v : Value} {p : Plan} (h : PlanV w B v p) (hb : Below B w w') (hB : B ≤ B') : PlanV w' B' v p :=
  let ⟨vb, vs, h1, h2, h3⟩ := h
  ⟨vb, vs, h1, h2.up hb hB, h3.up hb hB⟩
theorem StateV.up {w w' : World} {B B' : Nat} {v : Value} {s : State} (h : StateV w B v s) (hb : Below B w w') (hB : B ≤ B') : StateV w' B' v s :=
  let ⟨v0, v1, v2, v3, v4, v5, v6, h, h0, h1, h2, h3, h4, h5, h6⟩ := h
  ⟨v0, v1, v2, v3, v4, v5, v6, h, h0.up hb hB, h1.up hb hB, h2.up hb hB, h3.up hb hB, h4.up hb hB, h5.up hb hB, h6.up hb hB⟩

-- one element's cells
section
variable {w : World} {B : Nat} {A : Option Addr}
theorem At.flat {α : Type} {enc : α → List Value} {k : Nat} (hk : ∀ x, (enc x).length = k) {l : List α} (h : At w B A (l.flatMap enc)) {i : Nat} {x : α} (hi : l[i]? = some x) {j : Nat} (hj : j < k) {v : Value} (hv : (enc x)[j]? = some v) :
    w.cell? ⟨ablk A, aoff A + i * k + j, none⟩ = some v := by
  have h1 := flat_get enc k hk l i j x hi hj
  rw [hv] at h1
  rw [Nat.add_assoc]
  exact h.cell h1
theorem At.okOf {α : Type} {enc : α → List Value} {k : Nat} (hk : ∀ x, (enc x).length = k + 1) {l : List α} (h : At w B A (l.flatMap enc)) {i : Nat} (hi : i < l.length) : okA A ∧ ablk A < B := by
  have h1 : 0 < (l.flatMap enc).length := by rw [flat_length enc (k + 1) hk]; exact Nat.mul_pos (by omega) (by omega)
  exact ⟨h.ok h1, h.lt h1⟩
theorem At.int {l : List Int} (h : At w B A (l.flatMap cInt)) {i : Nat} (hi : i < l.length) :
    okA A ∧ ablk A < B ∧ w.cell? ⟨ablk A, aoff A + i, none⟩ = some (.int .i64 (intAt l i)) := by
  obtain ⟨h1, h2⟩ := h.okOf (k := 0) (fun _ => rfl) hi
  have e : l[i]? = some (intAt l i) := by simp [intAt, hi]
  have h3 := h.flat (k := 1) (fun _ => rfl) e (j := 0) (by omega) rfl
  simp only [Nat.mul_one, Nat.add_zero] at h3
  exact ⟨h1, h2, h3⟩
theorem At.bin {l : List Bin} (h : At w B A (l.flatMap cBin)) {i : Nat} (hi : i < l.length) :
    okA A ∧ ablk A < B ∧ w.cell? ⟨ablk A, aoff A + i * 4, none⟩ = some (.bool (binAt l i).front) ∧ w.cell? ⟨ablk A, aoff A + i * 4 + 1, none⟩ = some (.int .i64 (binAt l i).room) ∧
    w.cell? ⟨ablk A, aoff A + i * 4 + 2, none⟩ = some (.int .i64 (binAt l i).low) ∧ w.cell? ⟨ablk A, aoff A + i * 4 + 3, none⟩ = some (.int .i64 (binAt l i).high) := by
  obtain ⟨h1, h2⟩ := h.okOf (k := 3) (fun _ => rfl) hi
  have e : l[i]? = some (binAt l i) := by simp [binAt, hi]
  have f := fun j hj v hv => h.flat (k := 4) (fun _ => rfl) e (j := j) hj (v := v) hv
  exact ⟨h1, h2, f 0 (by omega) _ rfl, f 1 (by omega) _ rfl, f 2 (by omega) _ rfl, f 3 (by omega) _ rfl⟩
theorem At.hold {l : List Hold} (h : At w B A (l.flatMap cHold)) {i : Nat} (hi : i < l.length) :
    okA A ∧ ablk A < B ∧ w.cell? ⟨ablk A, aoff A + i * 4, none⟩ = some (.int .i64 (hold l i).order) ∧ w.cell? ⟨ablk A, aoff A + i * 4 + 1, none⟩ = some (.int .i64 (hold l i).line) ∧
    w.cell? ⟨ablk A, aoff A + i * 4 + 2, none⟩ = some (.int .i64 (hold l i).bin) ∧ w.cell? ⟨ablk A, aoff A + i * 4 + 3, none⟩ = some (.int .i64 (hold l i).n) := by
  obtain ⟨h1, h2⟩ := h.okOf (k := 3) (fun _ => rfl) hi
  have e : l[i]? = some (Wh.hold l i) := by simp [Wh.hold, hi]
  have f := fun j hj v hv => h.flat (k := 4) (fun _ => rfl) e (j := j) hj (v := v) hv
  exact ⟨h1, h2, f 0 (by omega) _ rfl, f 1 (by omega) _ rfl, f 2 (by omega) _ rfl, f 3 (by omega) _ rfl⟩
theorem At.line {l : List Line} (h : At w B A (l.flatMap cLine)) {i : Nat} (hi : i < l.length) :
    okA A ∧ ablk A < B ∧ w.cell? ⟨ablk A, aoff A + i * 4, none⟩ = some (.int .i64 (lineAt l i).good) ∧ w.cell? ⟨ablk A, aoff A + i * 4 + 1, none⟩ = some (.int .i64 (lineAt l i).want) ∧
    w.cell? ⟨ablk A, aoff A + i * 4 + 2, none⟩ = some (.int .i64 (lineAt l i).got) ∧ w.cell? ⟨ablk A, aoff A + i * 4 + 3, none⟩ = some (.int .i64 (lineAt l i).back) := by
  obtain ⟨h1, h2⟩ := h.okOf (k := 3) (fun _ => rfl) hi
  have e : l[i]? = some (lineAt l i) := by simp [lineAt, hi]
  have f := fun j hj v hv => h.flat (k := 4) (fun _ => rfl) e (j := j) hj (v := v) hv
  exact ⟨h1, h2, f 0 (by omega) _ rfl, f 1 (by omega) _ rfl, f 2 (by omega) _ rfl, f 3 (by omega) _ rfl⟩
theorem At.move {l : List Move} (h : At w B A (l.flatMap cMove)) {i : Nat} (hi : i < l.length) :
    okA A ∧ ablk A < B ∧ w.cell? ⟨ablk A, aoff A + i * 4, none⟩ = some (.int .i64 (moveAt l i).good) ∧ w.cell? ⟨ablk A, aoff A + i * 4 + 1, none⟩ = some (.int .i64 (moveAt l i).src) ∧
    w.cell? ⟨ablk A, aoff A + i * 4 + 2, none⟩ = some (.int .i64 (moveAt l i).dst) ∧ w.cell? ⟨ablk A, aoff A + i * 4 + 3, none⟩ = some (.int .i64 (moveAt l i).n) := by
  obtain ⟨h1, h2⟩ := h.okOf (k := 3) (fun _ => rfl) hi
  have e : l[i]? = some (moveAt l i) := by simp [moveAt, hi]
  have f := fun j hj v hv => h.flat (k := 4) (fun _ => rfl) e (j := j) hj (v := v) hv
  exact ⟨h1, h2, f 0 (by omega) _ rfl, f 1 (by omega) _ rfl, f 2 (by omega) _ rfl, f 3 (by omega) _ rfl⟩
end

theorem Sl.isSlice {α : Type} {enc : α → List Value} {w : World} {B : Nat} {v : Value} {l : List α} (h : Sl enc w B v l) : ∃ A c, v = .slice A l.length c :=
  let ⟨A, c, h1, _, _⟩ := h
  ⟨A, c, h1⟩
theorem SlSl.row {w : World} {B : Nat} {A : Option Addr} {n c : Nat} {l : List (List Int)} (h : SlSl cInt w B (.slice A n c) l) {i : Nat} (hi : i < l.length) :
    ∃ A' c', okA A ∧ ablk A < B ∧ w.cell? ⟨ablk A, aoff A + i, none⟩ = some (.slice A' (rowAt l i).length c') ∧ Sl cInt w B (.slice A' (rowAt l i).length c') (rowAt l i) := by
  obtain ⟨A0, c0, vs, hv, _, hvl, hA, hr⟩ := h
  injection hv with h1 h2 h3
  subst h1
  obtain ⟨u, hu, hs⟩ := hr i l[i] (by simp [hi])
  have e : rowAt l i = l[i] := by simp [rowAt, hi]
  have h0 : 0 < vs.length := by omega
  obtain ⟨A', c', rfl⟩ := hs.isSlice
  rw [e]
  exact ⟨A', c', hA.ok h0, hA.lt h0, hA.cell hu, hs⟩
theorem SlOrders.order {w : World} {B : Nat} {A : Option Addr} {n c : Nat} {l : List Order} (h : SlOrders w B (.slice A n c) l) {i : Nat} (hi : i < l.length) :
    ∃ A' c', okA A ∧ ablk A < B ∧ w.cell? ⟨ablk A, aoff A + i * 2, none⟩ = some (.int .i64 (orderAt l i).kind) ∧
      w.cell? ⟨ablk A, aoff A + i * 2 + 1, none⟩ = some (.slice A' (orderAt l i).lines.length c') ∧ Sl cLine w B (.slice A' (orderAt l i).lines.length c') (orderAt l i).lines := by
  obtain ⟨A0, c0, vs, hv, _, hvl, hA, hr⟩ := h
  injection hv with h1 h2 h3
  subst h1
  obtain ⟨u, hu, hs⟩ := hr i l[i] (by simp [hi])
  have e : orderAt l i = l[i] := by simp [orderAt, hi]
  obtain ⟨A', c', rfl⟩ := hs.isSlice
  rw [e]
  have hz : (l.zip vs)[i]? = some (l[i], .slice A' l[i].lines.length c') := by
    rw [List.getElem?_zip_eq_some]
    exact ⟨by simp [hi], hu⟩
  have hzl : i < (l.zip vs).length := by rw [List.length_zip]; omega
  have f := fun j hj v hv => hA.flat (k := 2) (fun _ => rfl) hz (j := j) hj (v := v) hv
  obtain ⟨h1, h2⟩ := hA.okOf (k := 1) (fun _ => rfl) hzl
  exact ⟨A', c', h1, h2, f 0 (by omega) _ rfl, f 1 (by omega) _ rfl, hs⟩

/-! ### What the call itself makes -/
/-- It returns a value that reads so; below the heap's end nothing has turned. -/
def Gives (R : Value → World → Prop) (w : World) (e : Ending) (w' : World) : Prop := ∃ v, e = .returned v ∧ R v w' ∧ Below w.heap.size w w'
/-- A row of the call's own, from block 'base' on, that holds the list l. -/
def Own {α : Type} (enc : α → List Value) (size : Nat) (e : TypeId) (w : World) (base : Nat) (v : Value) (l : List α) : Prop := w.ownsRow base e size v l.length (l.flatMap enc)
def Elem (P : Program) (e : TypeId) (z : Value) (size bytes : Nat) : Prop := ∃ i, P.info? e = some i ∧ i.zero = some z ∧ i.size = size ∧ i.bytes = bytes
theorem elem_of {P : Program} {e : TypeId} {z : Value} {size bytes : Nat} (h : (P.info? e).map (fun i => (i.zero, i.size, i.bytes)) = some (some z, size, bytes)) : Elem P e z size bytes := by
  cases hi : P.info? e with
  | none => rw [hi] at h; simp at h
  | some i =>
    rw [hi] at h
    simp only [Option.map_some, Option.some.injEq, Prod.mk.injEq] at h
    exact ⟨i, hi, h.1, h.2.1, h.2.2⟩
section
variable {α : Type} {enc : α → List Value} {size : Nat} {e : TypeId} {w w' : World} {base : Nat} {v : Value} {l : List α}
theorem Own.nil : Own enc size e w base (.slice none 0 0) [] := World.ownsRow_nil w base e size
theorem Own.alloc (h : Own enc size e w base v l) (o : Obj) : Own enc size e (w.alloc o) base v l := World.ownsRow.alloc h o
theorem Own.from_ {base' : Nat} (h : Own enc size e w base v l) (hb : base' ≤ base) : Own enc size e w base' v l := by
  refine ⟨h.1, ?_⟩
  rcases h.2 with hn | ⟨g, cap, cur, h1, h2, r⟩
  · exact .inl hn
  · exact .inr ⟨g, cap, cur, h1, by omega, r⟩
theorem Own.isSlice (h : Own enc size e w base v l) : ∃ A c, v = .slice A l.length c := by
  rcases h.2 with ⟨h1, h2⟩ | ⟨g, cap, cur, h1, _⟩
  · exact ⟨none, 0, by rw [h1, h2]⟩
  · exact ⟨_, _, h1⟩
theorem Own.below (h : Own enc size e w base v l) (hb : Below w.heap.size w w') : Own enc size e w' base v l := by
  refine ⟨h.1, ?_⟩
  rcases h.2 with hn | ⟨g, cap, cur, rfl, hbg, hg, rest⟩
  · exact .inl hn
  · exact .inr ⟨g, cap, cur, rfl, hbg, by rw [hb.block g (Array.getElem?_eq_some_iff.1 hg).1]; exact hg, rest⟩
theorem Own.sl (h : Own enc size e w base v l) (hn : l.length ≤ 140737488355232) : Sl enc w w.heap.size v l := by
  rcases h.2 with ⟨h1, h2⟩ | ⟨g, cap, cur, rfl, hb, hg, hnc, hcm, hcs, htake⟩
  · obtain rfl : l = [] := List.eq_nil_of_length_eq_zero h2
    subst h1
    exact Sl.nil
  · refine ⟨some ⟨g, 0, none⟩, cap, rfl, hn, fun _ => ⟨okA_some _ _, (Array.getElem?_eq_some_iff.1 hg).1, fun j u hj => ?_⟩⟩
    have hh : w.ownsRow base e size (.slice (some ⟨g, 0, none⟩) l.length cap) l.length (l.flatMap enc) := h
    have := hh.cells (g := g) rfl j u hj
    simpa [Addr.add_lit, ablk, aoff] using this
end

theorem one_int (n : Int) : ∀ u ∈ cInt n, u.oneCell' = true := by simp [cInt, Value.oneCell']
theorem Own.size {α : Type} {enc : α → List Value} {size : Nat} {e : TypeId} {w : World} {base : Nat} {v : Value} {l : List α} (h : Own enc size e w base v l) : ∀ k, v.ownBlock = some k → base ≤ k ∧ k < w.heap.size := World.ownsRow.lt h
section
variable {P : Program} (w : World)
/-- One element more: 'v = append(v, x)'. -/
theorem wpList_push {α : Type} {enc : α → List Value} {ops : Array Oper} {rest : List Oper} {o : Oper} {a : Act} {Q : Exit → Act → World → Prop} (hgd : o.guard = none) (s x : Operand) (t e : TypeId)
    (ho : o.op = .call { callee := .builtin .append, args := #[s, x], argTypes := #[t, t] }) (base : Nat) (z : Value) (size bytes : Nat) (ht : P.underlying t = some (.slice e)) (hi : Elem P e z size bytes)
    (hzs : z.cells.size = size) (hsz : 0 < size) (hby : bytes ≤ 64) (v : Value) (l : List α) (y : α) (hs : a.eval s = v) (hown : Own enc size e w base v l)
    (ad : Addr) (c : Nat) (hx : a.eval x = .slice (some ad) 1 c) (hl : (enc y).length = size) (hnews : ∀ j u, (enc y)[j]? = some u → w.cell? (ad.add j) = some u) (h1 : ∀ u ∈ enc y, u.oneCell' = true)
    (hn : l.length ≤ 1000000) (hbase : base ≤ w.heap.size)
    (h : ∀ v' w', Own enc size e w' base v' (l ++ [y]) → w.grownBy w' v.ownBlock → (v'.ownBlock = v.ownBlock ∨ v'.ownBlock = some w.heap.size) → Below base w w' → wpList P ops Q rest (a.put o.dst v') w') :
    wpList P ops Q (o :: rest) a w := by
  obtain ⟨i, hi, hz, hsize, hbytes⟩ := hi
  have hb : (l.length + 1) * bytes ≤ 140737488355328 := Nat.le_trans (Nat.mul_le_mul (show l.length + 1 ≤ 1000001 by omega) hby) (by decide)
  refine wpList_append_own_at w hgd s x t ho base e i z size bytes ht hi hz hsize hbytes hzs hsz v l.length _ hs hown ad 1 c (enc y) hx (by rw [hl, Nat.one_mul]) hnews h1 (by unfold maxLen; omega) hb hbase ?_
  intro v' w' h2 h3 _ h5
  refine h v' w' ?_ h3 h5 ((Below.refl _ _).grown h3 hbase fun k hk => (World.ownsRow.lt hown k hk).1)
  unfold Own
  rw [List.length_append, List.flatMap_append]
  simpa using h2
end

theorem Sl.grow {α : Type} {enc : α → List Value} {w w' : World} {v : Value} {l : List α} (h : Sl enc w w.heap.size v l) (hb : Below w.heap.size w w') : Sl enc w' w'.heap.size v l := h.up hb hb.size
theorem SlSl.grow {α : Type} {enc : α → List Value} {w w' : World} {v : Value} {l : List (List α)} (h : SlSl enc w w.heap.size v l) (hb : Below w.heap.size w w') : SlSl enc w' w'.heap.size v l := h.up hb hb.size
theorem PlanV.grow {w w' : World} {v : Value} {p : Plan} (h : PlanV w w.heap.size v p) (hb : Below w.heap.size w w') : PlanV w' w'.heap.size v p := h.up hb hb.size
theorem StateV.grow {w w' : World} {v : Value} {s : State} (h : StateV w w.heap.size v s) (hb : Below w.heap.size w w') : StateV w' w'.heap.size v s := h.up hb hb.size

end Wh
