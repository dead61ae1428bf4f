/- Texts of the claim, joined: Model. -/

namespace Wh

structure Bin where
  front : Bool
  room : Int
  low : Int
  high : Int

structure Plan where
  bins : List Bin
  sizes : List Int

structure Line where
  good : Int
  want : Int
  got : Int
  back : Int

structure Order where
  kind : Int
  lines : List Line

structure Hold where
  order : Int
  line : Int
  bin : Int
  n : Int

structure Move where
  good : Int
  src : Int
  dst : Int
  n : Int

structure State where
  on : List (List Int)
  orders : List Order
  holds : List Hold
  moves : List Move
  inn : List Int
  out : List Int
  fixed : List Int

structure Total where
  on : Int
  held : Int
  back : Int
  got : Int

structure Deed where
  kind : Int
  a : Int
  b : Int
  c : Int
  n : Int
  lines : List Line

instance : DecidableEq Line := fun x y =>
  if h : x.good = y.good ∧ x.want = y.want ∧ x.got = y.got ∧ x.back = y.back then
    isTrue (by cases x; cases y; simp at h; simp [h])
  else isFalse (by rintro rfl; simp at h)
instance : DecidableEq Hold := fun x y =>
  if h : x.order = y.order ∧ x.line = y.line ∧ x.bin = y.bin ∧ x.n = y.n then
    isTrue (by cases x; cases y; simp at h; simp [h])
  else isFalse (by rintro rfl; simp at h)
instance : DecidableEq Move := fun x y =>
  if h : x.good = y.good ∧ x.src = y.src ∧ x.dst = y.dst ∧ x.n = y.n then
    isTrue (by cases x; cases y; simp at h; simp [h])
  else isFalse (by rintro rfl; simp at h)
instance : DecidableEq Order := fun x y =>
  if h : x.kind = y.kind ∧ x.lines = y.lines then
    isTrue (by cases x; cases y; simp at h; simp [h])
  else isFalse (by rintro rfl; simp at h)
instance : DecidableEq State := fun x y =>
  if h : x.on = y.on ∧ x.orders = y.orders ∧ x.holds = y.holds ∧ x.moves = y.moves ∧ x.inn = y.inn ∧ x.out = y.out ∧ x.fixed = y.fixed then
    isTrue (by cases x; cases y; simp at h; simp [h])
  else isFalse (by rintro rfl; simp at h)
instance : DecidableEq Total := fun x y =>
  if h : x.on = y.on ∧ x.held = y.held ∧ x.back = y.back ∧ x.got = y.got then
    isTrue (by cases x; cases y; simp at h; simp [h])
  else isFalse (by rintro rfl; simp at h)

def dBin : Bin := ⟨false, 0, 0, 0⟩
def dLine : Line := ⟨0, 0, 0, 0⟩
def dOrder : Order := ⟨0, []⟩
def dHold : Hold := ⟨0, 0, 0, 0⟩
def dMove : Move := ⟨0, 0, 0, 0⟩
def dState : State := ⟨[], [], [], [], [], [], []⟩

def intAt (l : List Int) (i : Nat) : Int := l.getD i 0
def rowAt (l : List (List Int)) (i : Nat) : List Int := l.getD i []
def binAt (l : List Bin) (i : Nat) : Bin := l.getD i dBin
def lineAt (l : List Line) (i : Nat) : Line := l.getD i dLine
def orderAt (l : List Order) (i : Nat) : Order := l.getD i dOrder
def moveAt (l : List Move) (i : Nat) : Move := l.getD i dMove

def within (n lo hi : Int) : Bool := decide (lo ≤ n) && decide (n ≤ hi)

-- chapter 1
def binOk (b : Bin) : Bool := within b.room 0 1000 && within b.high 0 200 && within b.low 0 b.high
def sizeOk (s : Int) : Bool := within s 1 9
def checkPlan (p : Plan) : Int :=
  if !(within p.bins.length 1 6 && within p.sizes.length 1 3) then 2
  else if !(p.bins.all binOk && p.sizes.all sizeOk) then 3 else 0
def Plan.bin (p : Plan) (b : Nat) : Bin := binAt p.bins b
def kinds (p : Plan) (f : Bool) : List Nat := (List.range p.bins.length).filter fun b => (p.bin b).front == f
def kindsTo (p : Plan) (f : Bool) (k : Nat) : List Nat := (List.range k).filter fun b => (p.bin b).front == f
def nats (l : List Nat) : List Int := l.map fun n : Nat => (n : Int)
def way (p : Plan) : List Nat := kinds p true ++ kinds p false

-- chapter 2
def isBin (p : Plan) (b : Int) : Bool := within b 0 (p.bins.length - 1)
def isGood (p : Plan) (g : Int) : Bool := within g 0 (p.sizes.length - 1)
def rowOk (p : Plan) (row : List Int) : Bool := decide (row.length = p.sizes.length) && row.all (within · 0 200)
def shelfOk (p : Plan) (on : List (List Int)) : Bool := decide (on.length = p.bins.length) && on.all (rowOk p)
def checkShelf (p : Plan) (on : List (List Int)) : Int :=
  if checkPlan p ≠ 0 then checkPlan p else if shelfOk p on then 0 else 1
def shelfError (p : Plan) (on : List (List Int)) (b g : Int) : Int :=
  if checkShelf p on ≠ 0 then checkShelf p on else if isBin p b && isGood p g then 0 else 3
def cell (on : List (List Int)) (b g : Nat) : Int := intAt (rowAt on b) g
def setCell (on : List (List Int)) (b g : Nat) (n : Int) : List (List Int) := on.set b ((rowAt on b).set g n)
def sumTo (f : Nat → Int) : Nat → Int
  | 0 => 0
  | k + 1 => sumTo f k + f k
def usedOf (p : Plan) (on : List (List Int)) (b : Nat) : Int := sumTo (fun g => cell on b g * intAt p.sizes g) p.sizes.length
def sumOf (on : List (List Int)) (g : Nat) : Int := sumTo (fun b => cell on b g) on.length
def usedE (p : Plan) (on : List (List Int)) (b : Int) : Int := if shelfError p on b 0 = 0 then usedOf p on b.toNat else 0
def sumE (p : Plan) (on : List (List Int)) (g : Int) : Int := if shelfError p on 0 g = 0 then sumOf on g.toNat else 0
def put (p : Plan) (on : List (List Int)) (b g n : Int) : List (List Int) × Int :=
  if shelfError p on b g ≠ 0 then ([], shelfError p on b g)
  else if !(within n (-(cell on b.toNat g.toNat)) (200 - cell on b.toNat g.toNat)) then ([], 3)
  else (setCell on b.toNat g.toNat (cell on b.toNat g.toNat + n), 0)

-- chapter 3
def holdFine (h : Hold) : Bool := within h.order 0 3 && within h.line 0 2 && within h.bin 0 5 && within h.n 1 200
def place (h : Hold) : Int := (h.order * 3 + h.line) * 6 + h.bin
def hold (l : List Hold) (k : Nat) : Hold := l.getD k dHold
def holdsOk (l : List Hold) : Bool :=
  (List.range l.length).all fun k => holdFine (hold l k) && (decide (k = 0) || decide (place (hold l (k - 1)) < place (hold l k)))
def checkHolds (l : List Hold) : Int := if holdsOk l then 0 else 1
def sameLine (o ln : Int) (h : Hold) : Bool := decide (h.order = o) && decide (h.line = ln)
def sameKey (o ln b : Int) (h : Hold) : Bool := decide (h.order = o) && decide (h.line = ln) && decide (h.bin = b)
def keptAt (l : List Hold) (o ln b : Int) : Int := match l.find? (sameKey o ln b) with | some h => h.n | none => 0
/-- That hold has n then; none, if it is 0. -/
def withHold (l : List Hold) (h : Hold) : List Hold :=
  l.filter (fun x => decide (place x < place h)) ++ (if h.n = 0 then [] else [h]) ++ l.filter (fun x => decide (place h < place x))
def add (l : List Hold) (h : Hold) : List Hold × Int :=
  if !(holdsOk l) then ([], 1) else if !(holdFine h) then ([], 1)
  else if 200 < keptAt l h.order h.line h.bin + h.n then ([], 3)
  else (withHold l { h with n := keptAt l h.order h.line h.bin + h.n }, 0)
def drop (l : List Hold) (o ln b : Int) : List Hold × Int × Int :=
  if !(holdsOk l) then ([], 0, 1) else if keptAt l o ln b = 0 then ([], 0, 4)
  else (withHold l ⟨o, ln, b, 0⟩, keptAt l o ln b, 0)
def kept (l : List Hold) (o ln : Int) : Int := ((l.filter (sameLine o ln)).map (·.n)).sum
def keptE (l : List Hold) (o ln : Int) : Int × Int := if !(holdsOk l) then (0, 1) else (kept l o ln, 0)

-- chapter 4
def State.order (s : State) (o : Nat) : Order := orderAt s.orders o
def State.line (s : State) (o k : Nat) : Line := lineAt (s.order o).lines k
def begin (p : Plan) : State :=
  let z := List.replicate p.sizes.length 0
  ⟨List.replicate p.bins.length z, [], [], [], z, z, z⟩
def heldN (s : State) (b g : Int) (h : Hold) : Int := if h.bin = b ∧ (s.line h.order.toNat h.line.toNat).good = g then h.n else 0
def fromN (b g : Int) (x : Move) : Int := if x.src = b ∧ x.good = g then x.n else 0
def toN (b g : Int) (x : Move) : Int := if x.dst = b ∧ x.good = g then x.n else 0
def heldIn (s : State) (b g : Int) : Int := (s.holds.map (heldN s b g)).sum
def goingOf (l : List Move) (b g : Int) : Int := (l.map (fromN b g)).sum
def bound (s : State) (b g : Int) : Int := heldIn s b g + goingOf s.moves b g
def comingOf (l : List Move) (b g : Int) : Int := (l.map (toN b g)).sum
def coming (s : State) (b g : Int) : Int := comingOf s.moves b g
def lineOk (p : Plan) (x : Line) : Bool := isGood p x.good && within x.want 1 200 && within x.got 0 x.want && within x.back 0 x.want
def orderOk (p : Plan) (o : Order) : Bool := within o.kind 0 2 && o.lines.all (lineOk p)
def holdIn (p : Plan) (s : State) (h : Hold) : Bool :=
  decide (h.order < s.orders.length) && decide (h.line < (s.order h.order.toNat).lines.length) && decide (h.bin < p.bins.length)
def moveOk (p : Plan) (x : Move) : Bool := isGood p x.good && isBin p x.src && isBin p x.dst && decide (x.src ≠ x.dst) && within x.n 1 200
def sumsOk (p : Plan) (l : List Int) (lo : Int) : Bool := decide (l.length = p.sizes.length) && l.all (within · lo 1048576)
def manyOk (s : State) : Bool := decide (s.orders.length ≤ 4) && decide (s.moves.length ≤ 8) && s.orders.all (fun o => within o.lines.length 1 3)
def formed (p : Plan) (s : State) : Bool :=
  s.orders.all (orderOk p) && holdsOk s.holds && s.holds.all (holdIn p s) && s.moves.all (moveOk p) && sumsOk p s.inn 0 && sumsOk p s.out 0 && sumsOk p s.fixed (-1048576)
def goodSummed (p : Plan) (s : State) (g : Nat) : Bool :=
  decide (sumOf s.on g = intAt s.inn g - intAt s.out g + intAt s.fixed g) && (List.range p.bins.length).all fun b => decide (bound s b g ≤ cell s.on b g)
def allGot (o : Order) : Bool := o.lines.all fun x => decide (x.got = x.want)
def lineSummed (s : State) (o : Nat) (k : Nat) : Bool :=
  let x := s.line o k
  let n := kept s.holds o k
  decide (x.got + x.back + n = if (s.order o).kind = 0 then 0 else x.want) && !(decide ((s.order o).kind = 2) && decide (0 < n))
def orderSummed (s : State) (o : Nat) : Bool :=
  !(decide ((s.order o).kind = 1) && allGot (s.order o)) && (List.range (s.order o).lines.length).all (lineSummed s o)
def summed (p : Plan) (s : State) : Bool :=
  (List.range p.sizes.length).all (goodSummed p s) && (List.range s.orders.length).all (orderSummed s)
def checkState (p : Plan) (s : State) : Int :=
  if checkShelf p s.on ≠ 0 then checkShelf p s.on
  else if !(manyOk s) then 2 else if !(formed p s) then 1 else if !(summed p s) then 7 else 0
def avail (s : State) (b g : Int) : Int := cell s.on b.toNat g.toNat - bound s b g
def free (p : Plan) (s : State) (b : Int) : Int :=
  (p.bin b.toNat).room - sumTo (fun g => (cell s.on b.toNat g + coming s b g) * intAt p.sizes g) p.sizes.length
def availE (p : Plan) (s : State) (b g : Int) : Int × Int :=
  if checkState p s ≠ 0 then (0, checkState p s) else if !(isBin p b && isGood p g) then (0, 3) else (avail s b g, 0)
def freeE (p : Plan) (s : State) (b : Int) : Int × Int :=
  if checkState p s ≠ 0 then (0, checkState p s) else if !(isBin p b) then (0, 3) else (free p s b, 0)

-- chapter 5
def State.setLine (s : State) (o k : Nat) (x : Line) : State :=
  { s with orders := s.orders.set o { s.order o with lines := (s.order o).lines.set k x } }
def hold1 (s : State) (o k : Nat) (b : Int) (m : Int) : State :=
  ({ s with holds := withHold s.holds ⟨o, k, b, keptAt s.holds o k b + m⟩ } : State).setLine o k { s.line o k with back := (s.line o k).back - m }
def takeGo (o k : Nat) (but : Int) : List Nat → State → Int → State × Int
  | [], s, n => (s, n)
  | b :: r, s, n =>
    let m := min n (avail s b (s.line o k).good)
    if (b : Int) = but ∨ m < 1 then takeGo o k but r s n else takeGo o k but r (hold1 s o k b m) (n - m)
def takeS (p : Plan) (s : State) (o k : Nat) (n but : Int) : State × Int := takeGo o k but (way p) s n
def take (p : Plan) (s : State) (o k n but : Int) : State × Int × Int :=
  if checkState p s ≠ 0 then (dState, 0, checkState p s)
  else if !(within o 0 (s.orders.length - 1)) then (dState, 0, 3)
  else if !(within k 0 ((s.order o.toNat).lines.length - 1)) || !(within n 0 200) || !(decide (but = -1) || isBin p but) then (dState, 0, 3)
  else if (s.order o.toNat).kind ≠ 1 then (dState, 0, 6)
  else if (s.line o.toNat k.toNat).back < n then (dState, 0, 3)
  else ((takeS p s o.toNat k.toNat n but).1, (takeS p s o.toNat k.toNat n but).2, 0)

-- chapter 6
def receive (p : Plan) (s : State) (b g n : Int) : State × Int :=
  if checkState p s ≠ 0 then (dState, checkState p s)
  else if !(isBin p b && isGood p g && within n 1 200) then (dState, 3)
  else if free p s b < n * intAt p.sizes g.toNat then (dState, 5)
  else if 200 < cell s.on b.toNat g.toNat + coming s b g + n ∨ 1048576 < intAt s.inn g.toNat + n then (dState, 2)
  else ({ s with on := setCell s.on b.toNat g.toNat (cell s.on b.toNat g.toNat + n), inn := s.inn.set g.toNat (intAt s.inn g.toNat + n) }, 0)
def enter (p : Plan) (s : State) (l : List Line) : State × Int :=
  if checkState p s ≠ 0 then (dState, checkState p s)
  else if 4 ≤ s.orders.length ∨ !(within l.length 1 3) then (dState, 2)
  else if !(l.all fun x => isGood p x.good && within x.want 1 200) then (dState, 3)
  else if !(l.all fun x => decide (x.got = 0) && decide (x.back = 0)) then (dState, 1)
  else ({ s with orders := s.orders ++ [⟨0, l⟩] }, 0)

-- chapter 7
def freed (o : Order) : Order := if o.kind = 0 then ⟨1, o.lines.map fun x => { x with back := x.want }⟩ else o
def takeAll (p : Plan) (s : State) (o k : Nat) : State := (takeS p s o k (s.line o k).back (-1)).1
def takeLines (p : Plan) (o : Nat) : Nat → State → State
  | 0, s => s
  | k + 1, s => takeAll p (takeLines p o k s) o k
def takeOrder (p : Plan) (s : State) (o : Nat) : State := if (s.order o).kind = 1 then takeLines p o (s.order o).lines.length s else s
def takeOrders (p : Plan) : Nat → State → State
  | 0, s => s
  | o + 1, s => takeOrder p (takeOrders p o s) o
def releaseS (p : Plan) (s : State) : State := takeOrders p s.orders.length { s with orders := s.orders.map freed }
def release (p : Plan) (s : State) : State × Int :=
  if checkState p s ≠ 0 then (dState, checkState p s) else (releaseS p s, 0)
def cancelS (s : State) (o : Nat) : State :=
  { s with holds := s.holds.filter (fun h => decide (h.order ≠ o)),
           orders := s.orders.set o ⟨2, (s.order o).lines.map fun x => { x with back := x.want - x.got }⟩ }
def cancel (p : Plan) (s : State) (o : Int) : State × Int :=
  if checkState p s ≠ 0 then (dState, checkState p s)
  else if !(within o 0 (s.orders.length - 1)) then (dState, 4)
  else if (s.order o.toNat).kind = 2 then (dState, 6)
  else (cancelS s o.toNat, 0)

-- chapter 8
def close (s : State) (o : Nat) : State := if allGot (s.order o) then { s with orders := s.orders.set o { s.order o with kind := 2 } } else s
def picked (s : State) (o k b : Nat) (held n : Int) : State :=
  let x := s.line o k
  ({ s with on := setCell s.on b x.good.toNat (cell s.on b x.good.toNat - n), out := s.out.set x.good.toNat (intAt s.out x.good.toNat + n),
            holds := withHold s.holds ⟨o, k, b, 0⟩ } : State).setLine o k { x with got := x.got + n, back := x.back + held - n }
def pickS (p : Plan) (s : State) (o k b : Nat) (n : Int) : State :=
  let held := keptAt s.holds o k b
  close (takeS p (picked s o k b held n) o k (held - n) b).1 o
def pick (p : Plan) (s : State) (o k b n : Int) : State × Int :=
  if checkState p s ≠ 0 then (dState, checkState p s)
  else if keptAt s.holds o k b = 0 then (dState, 4)
  else if !(within n 0 (keptAt s.holds o k b)) then (dState, 3)
  else if 1048576 < intAt s.out (s.line o.toNat k.toNat).good.toNat + n then (dState, 2)
  else (pickS p s o.toNat k.toNat b.toNat n, 0)

-- chapter 9
def fillN (p : Plan) (s : State) (b g f : Nat) : Int :=
  min (min ((p.bin b).high - cell s.on b g - coming s b g) (avail s f g)) ((free p s b).tdiv (intAt p.sizes g))
def fill1 (p : Plan) (s : State) (b g f : Nat) : State :=
  if 8 ≤ s.moves.length then s else if 0 < fillN p s b g f then { s with moves := s.moves ++ [⟨g, f, b, fillN p s b g f⟩] } else s
def fillGood (p : Plan) (b : Nat) (s : State) (g : Nat) : State :=
  if cell s.on b g + coming s b g < (p.bin b).low then (kinds p false).foldl (fun t f => fill1 p t b g f) s else s
def fillS (p : Plan) (s : State) : State := (kinds p true).foldl (fun t b => (List.range p.sizes.length).foldl (fillGood p b) t) s
def fill (p : Plan) (s : State) : State × Int :=
  if checkState p s ≠ 0 then (dState, checkState p s) else (fillS p s, 0)
def movedS (s : State) (k : Nat) (n : Int) : State :=
  let x := moveAt s.moves k
  let on1 := setCell s.on x.src.toNat x.good.toNat (cell s.on x.src.toNat x.good.toNat - n)
  { s with on := setCell on1 x.dst.toNat x.good.toNat (cell on1 x.dst.toNat x.good.toNat + n), moves := s.moves.eraseIdx k }
def moved (p : Plan) (s : State) (k n : Int) : State × Int :=
  if checkState p s ≠ 0 then (dState, checkState p s)
  else if !(within k 0 (s.moves.length - 1)) then (dState, 4)
  else if !(within n 0 (moveAt s.moves k.toNat).n) then (dState, 3)
  else if 200 < cell s.on (moveAt s.moves k.toNat).dst.toNat (moveAt s.moves k.toNat).good.toNat + n then (dState, 2)
  else (movedS s k.toNat n, 0)

-- chapter 11
def totalOf (s : State) (g : Int) : Total :=
  let ls := s.orders.flatMap (·.lines)
  let ks := (List.range s.orders.length).flatMap fun o => (List.range (s.order o).lines.length).map fun k => (o, k)
  ⟨sumOf s.on g.toNat,
   (ks.map fun ok => if (s.line ok.1 ok.2).good = g then kept s.holds ok.1 ok.2 else 0).sum,
   (ls.map fun x => if x.good = g then x.back else 0).sum,
   (ls.map fun x => if x.good = g then x.got else 0).sum⟩
def totals (p : Plan) (s : State) : List Total := (List.range p.sizes.length).map fun (g : Nat) => totalOf s g
def openOf (s : State) : Int := (s.orders.filter fun o => decide (o.kind ≠ 2)).length

end Wh
