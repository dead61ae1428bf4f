/- Texts of the claim, joined: MemK, PlainD, PlainF, OwnS. -/
import Derived.Laws.CopyRow
import Derived.Lib.AppendZerosOnto
import Derived.Lib.Overlaps
import Derived.Laws.Externs
import Derived.Test.YtbmklcloknpniaaQ03
import Derived.Test.YtbmklcloknpniaaQ02
namespace Wh
open Go Go.RowKit

/-- The block g holds just these cells. -/
def Blk (w : World) (g : Nat) (e : TypeId) (cur : List Value) : Prop := w.heap[g]? = some (.cells cur.toArray e (0, 0))
def spl (L : List Value) (o : Nat) (cs : List Value) : List Value := L.take o ++ cs ++ L.drop (o + cs.length)
theorem spl_length {L : List Value} {o : Nat} {cs : List Value} (h : o + cs.length ≤ L.length) : (spl L o cs).length = L.length := by
  unfold spl
  simp only [List.length_append, List.length_take, List.length_drop]
  omega
theorem spl_lo {L : List Value} {o : Nat} {cs : List Value} (h : o ≤ L.length) : (spl L o cs).take o = L.take o := by
  unfold spl
  rw [List.append_assoc, List.take_append_of_le_length (by rw [List.length_take]; omega), List.take_take, Nat.min_self]
theorem spl_hi {L : List Value} {o : Nat} {cs : List Value} (h : o ≤ L.length) : (spl L o cs).take (o + cs.length) = L.take o ++ cs := by
  unfold spl
  rw [List.take_append_of_le_length (by rw [List.length_append, List.length_take]; omega), List.take_of_length_le (by rw [List.length_append, List.length_take]; omega)]

section
variable {w : World} {g : Nat} {e : TypeId} {cur : List Value}
theorem Blk.lt (h : Blk w g e cur) : g < w.heap.size := (Array.getElem?_eq_some_iff.1 h).1
theorem Blk.cell (h : Blk w g e cur) {j : Nat} {v : Value} (hj : cur[j]? = some v) : w.cell? ⟨g, j, none⟩ = some v := by
  unfold Blk at h
  simp [World.cell?, h, hj]
theorem Blk.row (h : Blk w g e cur) (cs : List Value) : Blk (w.setRow g cs.toArray) g e cs := setRow_heap w g _ _ _ _ h
theorem Blk.other (h : Blk w g e cur) {g' : Nat} (hne : g ≠ g') (cs : Array Value) : Blk (w.setRow g' cs) g e cur := by
  unfold Blk at *
  rw [setRow_other w g' g cs hne]
  exact h
theorem Blk.drew (h : Blk w g e cur) : Blk w.drew g e cur := h
theorem Blk.alloc (h : Blk w g e cur) (o : Obj) : Blk (w.alloc o) g e cur := by
  unfold Blk at *
  rw [Below.heap_alloc _ _ _ (Array.getElem?_eq_some_iff.1 h).1]
  exact h
theorem Blk.new (w : World) (e : TypeId) (cs : Array Value) : Blk (w.alloc (.cells cs e)) w.heap.size e cs.toList := by
  show (w.heap.push (.cells cs e))[w.heap.size]? = _
  rw [Array.getElem?_push_size]
theorem Blk.below (h : Blk w g e cur) {B : Nat} {w' : World} (hb : Below B w w') (hg : g < B) : Blk w' g e cur := (hb.block g hg).trans h
theorem Blk.grown (h : Blk w g e cur) {w' : World} {row : Option Nat} (hg : w.grownBy w' row) (hne : some g ≠ row) : Blk w' g e cur := (hg.block g h.lt hne).trans h
theorem Blk.frozen (h : Blk w g e cur) (o : Nat) : w.frozen? ⟨g, o, none⟩ = false := by
  unfold Blk at h
  simp [World.frozen?, h]
theorem grown_row (w : World) (g : Nat) (cs : Array Value) : w.grownBy (w.setRow g cs) (some g) :=
  ⟨rfl, rfl, rfl, by simp [World.setRow], fun k _ hne => setRow_other w g k cs (fun e => hne (by rw [e]))⟩
end

section
variable {P : Program} (w : World)
/-- append with room: in place. -/
theorem run_append_blk (t ty e : TypeId) (i : TypeInfo) (ht : P.underlying t = some (.slice e)) (hi : P.info? e = some i) (g n cap : Nat) (x : Value) (m : Nat) (cs : List Value) (cur : List Value)
    (hg : Blk w g e cur) (hlen : Builtin.lenOf x = Sem.pure m) (hx : (Builtin.firstCells i.size m x).run P w = .ok cs.toArray w) (hroom : n + m ≤ cap) (hfit : n * i.size + cs.length ≤ cur.length) (h1 : ∀ v ∈ cs, v.oneCell' = true) :
    (Builtin.append_ #[t, t] ty #[.slice (some ⟨g, 0, none⟩) n cap, x]).run P w = .ok (.slice (some ⟨g, 0, none⟩) (n + m) cap) (w.setRow g (spl cur (n * i.size) cs).toArray) := by
  have hst := run_storeCells_at P g (n * i.size) e cs 0 cur.toArray w hg (by simpa using hfit) h1
  simp [Builtin.append_, run_underlying ht, Go.sizeOf, typeInfo, hi, hlen, hroom, hx, Addr.add_lit, hst, spl]
theorem zeroCells_length (z : Array Value) (n : Nat) : (Builtin.zeroCells z n).size = n * z.size := by simp [Builtin.zeroCells]
theorem zeroCells_one {z : Array Value} (h : ∀ v ∈ z, v.oneCell' = true) (n : Nat) : ∀ v ∈ (Builtin.zeroCells z n).toList, v.oneCell' = true := by
  intro v hv
  simp only [Builtin.zeroCells, Array.toList_map, List.mem_map, Array.mem_toList_iff, Array.mem_range] at hv
  obtain ⟨j, hj, rfl⟩ := hv
  have hz : 0 < z.size := by
    rcases Nat.eq_zero_or_pos z.size with h0 | h0
    · rw [h0] at hj; simp at hj
    · exact h0
  have hjm := Nat.mod_lt j hz
  rw [getElem!_pos z (j % z.size) hjm]
  exact h _ (Array.getElem_mem hjm)
theorem run_clear_blk (t e ty : TypeId) (z : Value) (ht : P.underlying t = some (.slice e)) (hv : ∀ w, (zeroValue e).run P w = .ok z w) (h1 : ∀ v ∈ z.cells, v.oneCell' = true) (g o n c : Nat) (cur : List Value)
    (hg : Blk w g e cur) (hn : 0 < n) (hfit : o + n * z.cells.size ≤ cur.length) :
    (Builtin.clear_ #[t] ty #[.slice (some ⟨g, o, none⟩) n c]).run P w = .ok (.tuple #[]) (w.setRow g (spl cur o (Builtin.zeroCells z.cells n).toList).toArray) := by
  have hst := run_storeCells_at P g o e (Builtin.zeroCells z.cells n).toList 0 cur.toArray w hg (by simpa [zeroCells_length] using hfit) (zeroCells_one h1 n)
  obtain ⟨m, rfl⟩ : ∃ m, n = m + 1 := ⟨n - 1, by omega⟩
  simp only [Builtin.clear_, Sem.run_bind, List.getElem?_toArray, List.getElem?_cons_zero, run_underlying ht, Result.andThen_ok, hv, hst]
  simp [spl]

/-- A builtin append, copy whose run is known, as a step of a region that draws and in a plain region. -/
theorem step_append_at {ops : Array Oper} {o : Oper} {a : Act} {K : Act → World → Prop} {Q : Exit → Act → World → Prop} {E : Prop}
    (hg : o.guard = none) (d x : Operand) (dT sT : TypeId) (hop : o.op = Op.call { callee := Callee.builtin Builtin.append, args := #[d, x], argTypes := #[dT, sT] })
    (v u : Value) (hd : a.eval d = v) (hx : a.eval x = u) {v' : Value} {w' : World} (hr : (Builtin.append_ #[dT, sT] o.type #[v, u]).run P w = .ok v' w') (hK : K (a.put o.dst v') w') :
    if Region.wanted o (yielded ops a.tmps) = true then Oper.wp P o a w K Q else E := by
  have hw : Region.wanted o (yielded ops a.tmps) = true := by simp [Region.wanted, hg]
  rw [if_pos hw]
  unfold Oper.wp
  simp [execOp, hop, resolve, invoke, builtin, hd, hx, hr, Result.andThen]
  exact hK
end

theorem flat_take {α : Type} (enc : α → List Value) (k : Nat) (hk : ∀ x, (enc x).length = k) : ∀ (l : List α) (i : Nat), (l.flatMap enc).take (i * k) = (l.take i).flatMap enc
  | [], i => by simp
  | x :: l, 0 => by simp
  | x :: l, i + 1 => by
    rw [List.flatMap_cons, List.take_succ_cons, List.flatMap_cons, ← flat_take enc k hk l i, List.take_append, List.take_of_length_le (by rw [hk, Nat.add_mul]; omega), hk]
    congr 2
    rw [Nat.add_mul]; omega
theorem flat_drop {α : Type} (enc : α → List Value) (k : Nat) (hk : ∀ x, (enc x).length = k) : ∀ (l : List α) (i : Nat), (l.flatMap enc).drop (i * k) = (l.drop i).flatMap enc
  | [], i => by simp
  | x :: l, 0 => by simp
  | x :: l, i + 1 => by
    rw [List.flatMap_cons, List.drop_succ_cons, ← flat_drop enc k hk l i, List.drop_append, List.drop_of_length_le (by rw [hk, Nat.add_mul]; omega), hk, List.nil_append]
    congr 1
    rw [Nat.add_mul]; omega

section
variable {α : Type} {enc : α → List Value} {size : Nat} {e : TypeId} {w : World} {base : Nat} {v : Value} {l : List α}
theorem Own.row (h : Own enc size e w base v l) (hl : 0 < l.length) :
    ∃ g cap cur, v = .slice (some ⟨g, 0, none⟩) l.length cap ∧ base ≤ g ∧ Blk w g e cur ∧ l.length ≤ cap ∧ cap ≤ maxLen ∧ cur.length = cap * size ∧ cur.take (l.length * size) = l.flatMap enc := by
  rcases h.2 with ⟨_, h0⟩ | ⟨g, cap, cur, h1, h2, h3, h4, h5, h6, h7⟩
  · omega
  · exact ⟨g, cap, cur.toList, h1, h2, by unfold Blk; simpa using h3, h4, h5, by simpa using h6, h7⟩
theorem Own.of_row (hk : ∀ x, (enc x).length = size) {g cap : Nat} {cur : List Value} (hb : base ≤ g) (hg : Blk w g e cur) (h1 : l.length ≤ cap) (h2 : cap ≤ maxLen) (h3 : cur.length = cap * size) (h4 : cur.take (l.length * size) = l.flatMap enc) :
    Own enc size e w base (.slice (some ⟨g, 0, none⟩) l.length cap) l :=
  ⟨flat_length enc size hk l, .inr ⟨g, cap, cur.toArray, rfl, hb, hg, h1, h2, by simpa using h3, by simpa using h4⟩⟩
end

theorem flat_set {α : Type} (enc : α → List Value) (k : Nat) (hk : ∀ x, (enc x).length = k) {l : List α} {i j : Nat} (hi : i < l.length) (hj : j < k) {y : α} {u : Value} (hy : enc y = (enc l[i]).set j u) : (l.set i y).flatMap enc = (l.flatMap enc).set (i * k + j) u := by
  induction l generalizing i with
  | nil => simp at hi
  | cons x l ih =>
    cases i with
    | zero =>
      simp only [List.set_cons_zero, List.flatMap_cons, Nat.zero_mul, Nat.zero_add]
      simp only [List.getElem_cons_zero] at hy
      rw [hy, List.set_append_left _ _ (by rw [hk]; exact hj)]
    | succ i =>
      simp only [List.set_cons_succ, List.flatMap_cons]
      simp only [List.getElem_cons_succ] at hy
      rw [ih (by simpa using hi) hy, List.set_append_right _ _ (by rw [hk, Nat.add_mul]; omega), hk]
      congr 2
      rw [Nat.add_mul]; omega
theorem Own.store {α : Type} {enc : α → List Value} {size : Nat} {e : TypeId} {w : World} {base : Nat} {l : List α} {g n c : Nat} (h : Own enc size e w base (.slice (some ⟨g, 0, none⟩) n c) l) (hk : ∀ x, (enc x).length = size)
    {i j : Nat} (hi : i < l.length) (hj : j < size) {y : α} {u : Value} (hy : enc y = (enc l[i]).set j u) :
    Own enc size e (w.setCell ⟨g, i * size + j, none⟩ u) base (.slice (some ⟨g, 0, none⟩) n c) (l.set i y) ∧ w.grownBy (w.setCell ⟨g, i * size + j, none⟩ u) (some g) := by
  obtain ⟨A, c', hv⟩ := h.isSlice
  injection hv with h1 h2 h3
  subst h2
  obtain ⟨s1, s2⟩ := World.ownsRow.stored h (i * size + j) u
  refine ⟨?_, s2⟩
  unfold Own
  rw [List.length_set, flat_set enc size hk hi hj hy]
  exact s1
/-- The cells of a block that was just made. -/
theorem cells_new (w : World) (cs : Array Value) (e : TypeId) : ∀ j u, cs.toList[j]? = some u → (w.alloc (.cells cs e)).cell? ((⟨w.heap.size, 0, none⟩ : Addr).add j) = some u := fun j u hj => by
  rw [Addr.add_lit, Nat.zero_add]
  exact (Blk.new w e cs).cell hj
end Wh
namespace Wh

def cmp3 (a b : Int) : Int := if a < b then -1 else if b < a then 1 else 0
def ord (a b : Hold) : Int :=
  if cmp3 a.order b.order ≠ 0 then cmp3 a.order b.order else if cmp3 a.line b.line ≠ 0 then cmp3 a.line b.line else cmp3 a.bin b.bin

theorem cmp3_cases (a b : Int) : (a < b ∧ cmp3 a b = -1) ∨ (b < a ∧ cmp3 a b = 1) ∨ (a = b ∧ cmp3 a b = 0) := by
  unfold cmp3
  rcases Int.lt_trichotomy a b with h | h | h
  · exact .inl ⟨h, if_pos h⟩
  · exact .inr (.inr ⟨h, by rw [if_neg (by omega), if_neg (by omega)]⟩)
  · exact .inr (.inl ⟨h, by rw [if_neg (by omega), if_pos h]⟩)
theorem ord_cases (a b : Hold) : (ord a b = -1 ∧ (a.order < b.order ∨ a.order = b.order ∧ (a.line < b.line ∨ a.line = b.line ∧ a.bin < b.bin))) ∨
    (ord a b = 1 ∧ (b.order < a.order ∨ a.order = b.order ∧ (b.line < a.line ∨ a.line = b.line ∧ b.bin < a.bin))) ∨ (ord a b = 0 ∧ a.order = b.order ∧ a.line = b.line ∧ a.bin = b.bin) := by
  unfold ord
  rcases cmp3_cases a.order b.order with ⟨h1, e1⟩ | ⟨h1, e1⟩ | ⟨h1, e1⟩ <;> rcases cmp3_cases a.line b.line with ⟨h2, e2⟩ | ⟨h2, e2⟩ | ⟨h2, e2⟩ <;>
    rcases cmp3_cases a.bin b.bin with ⟨h3, e3⟩ | ⟨h3, e3⟩ | ⟨h3, e3⟩ <;> simp only [e1, e2, e3] <;> simp <;> omega
theorem ord_neg {a b : Hold} : ord a b < 0 ↔ (a.order < b.order ∨ a.order = b.order ∧ (a.line < b.line ∨ a.line = b.line ∧ a.bin < b.bin)) := by
  rcases ord_cases a b with ⟨h, h'⟩ | ⟨h, h'⟩ | ⟨h, h'⟩ <;> rw [h] <;> omega
theorem ord_place {a b : Hold} (ha : keyOk a.order a.line a.bin) (hb : keyOk b.order b.line b.bin) : ord a b < 0 ↔ place a < place b := by
  rw [ord_neg]
  unfold keyOk at ha hb
  unfold place
  omega
theorem ok_at {l : List Hold} (h : holdsOk l = true) {i : Nat} (hi : i < l.length) : holdFine (hold l i) = true := by
  rw [hold_get hi]
  exact (holdsOk_iff.1 h).1 _ (List.getElem_mem hi)
theorem ok_key {l : List Hold} (h : holdsOk l = true) {i : Nat} (hi : i < l.length) : keyOk (hold l i).order (hold l i).line (hold l i).bin := (fine_iff.1 (ok_at h hi)).1
theorem ok_n {l : List Hold} (h : holdsOk l = true) {i : Nat} (hi : i < l.length) : 1 ≤ (hold l i).n ∧ (hold l i).n ≤ 200 := (fine_iff.1 (ok_at h hi)).2
end Wh
namespace Wh

theorem ok_len72 {l : List Hold} (h : holdsOk l = true) : l.length ≤ 72 := by
  have hr := (holdsOk_iff.1 h).2
  have hf := (holdsOk_iff.1 h).1
  have hp : ∀ x ∈ l, 0 ≤ place x ∧ place x < 72 := fun x hx => by
    have := (fine_iff.1 (hf x hx)).1
    unfold keyOk at this
    unfold place
    omega
  have hn : (l.map fun x => (place x).toNat).Nodup := by
    rw [List.Nodup, List.pairwise_map]
    refine List.Pairwise.imp_of_mem ?_ hr
    intro a b ha hb hab
    have h1 := hp a ha
    have h2 := hp b hb
    omega
  have hs : (l.map fun x => (place x).toNat) ⊆ List.range 72 := fun n hn' => by
    obtain ⟨x, hx, rfl⟩ := List.mem_map.1 hn'
    have := hp x hx
    exact List.mem_range.2 (by omega)
  have := hn.length_le_of_subset hs
  simpa using this
/-- A state that is as it must be, but maybe for the sums. -/
structure Sane (p : Plan) (s : State) : Prop where
  shelf : checkShelf p s.on = 0
  many : manyOk s = true
  form : formed p s = true

theorem all_at {α : Type} {P : α → Bool} {l : List α} (d : α) (h : l.all P = true) {k : Nat} (hk : k < l.length) : P (l.getD k d) = true := by
  have e : l.getD k d = l[k] := by simp [hk]
  rw [e]
  exact List.all_eq_true.1 h _ (List.getElem_mem hk)
theorem all_of {α : Type} {P : α → Bool} {l : List α} (d : α) (h : ∀ k, k < l.length → P (l.getD k d) = true) : l.all P = true := by
  rw [List.all_eq_true]
  intro x hx
  obtain ⟨k, hk, rfl⟩ := List.getElem_of_mem hx
  have := h k hk
  have e : l.getD k d = l[k] := by simp [hk]
  rwa [e] at this
theorem all_no {α : Type} {P : α → Bool} {l : List α} (d : α) {k : Nat} (hk : k < l.length) (h : P (l.getD k d) = false) : l.all P = false := by
  cases ha : l.all P
  · rfl
  · rw [all_at d ha hk] at h; cases h
theorem any_not {α : Type} (P : α → Bool) (l : List α) : (l.any fun x => !P x) = !(l.all P) := by
  induction l with
  | nil => rfl
  | cons x l ih => rw [List.any_cons, List.all_cons, ih, Bool.not_and]

theorem manyOk_iff {s : State} : manyOk s = true ↔ s.orders.length ≤ 4 ∧ s.moves.length ≤ 8 ∧ s.orders.all (fun o => within o.lines.length 1 3) = true := by
  unfold manyOk
  simp only [Bool.and_eq_true, decide_eq_true_eq, and_assoc]
theorem formed_iff {p : Plan} {s : State} : formed p s = true ↔ s.orders.all (orderOk p) = true ∧ holdsOk s.holds = true ∧ s.holds.all (holdIn p s) = true ∧ s.moves.all (moveOk p) = true ∧
    sumsOk p s.inn 0 = true ∧ sumsOk p s.out 0 = true ∧ sumsOk p s.fixed (-1048576) = true := by
  unfold formed
  simp only [Bool.and_eq_true, and_assoc]

theorem lineOk_iff {p : Plan} {x : Line} : lineOk p x = true ↔ (0 ≤ x.good ∧ x.good < p.sizes.length) ∧ (1 ≤ x.want ∧ x.want ≤ 200) ∧ (0 ≤ x.got ∧ x.got ≤ x.want) ∧ (0 ≤ x.back ∧ x.back ≤ x.want) := by
  unfold lineOk
  simp only [Bool.and_eq_true, within_iff, isGood_iff, and_assoc]
theorem moveOk_iff {p : Plan} {x : Move} : moveOk p x = true ↔ (0 ≤ x.good ∧ x.good < p.sizes.length) ∧ (0 ≤ x.src ∧ x.src < p.bins.length) ∧ (0 ≤ x.dst ∧ x.dst < p.bins.length) ∧ x.src ≠ x.dst ∧ 1 ≤ x.n ∧ x.n ≤ 200 := by
  unfold moveOk
  simp only [Bool.and_eq_true, within_iff, isGood_iff, isBin_iff, and_assoc, decide_eq_true_eq]
theorem orderOk_iff {p : Plan} {o : Order} : orderOk p o = true ↔ (0 ≤ o.kind ∧ o.kind ≤ 2) ∧ o.lines.all (lineOk p) = true := by
  unfold orderOk
  simp only [Bool.and_eq_true, within_iff]
theorem sumsOk_iff {p : Plan} {l : List Int} {lo : Int} : sumsOk p l lo = true ↔ l.length = p.sizes.length ∧ l.all (within · lo 1048576) = true := by
  unfold sumsOk
  simp only [Bool.and_eq_true, decide_eq_true_eq]
theorem holdIn_iff {p : Plan} {s : State} {h : Hold} : holdIn p s h = true ↔ h.order < s.orders.length ∧ h.line < (s.order h.order.toNat).lines.length ∧ h.bin < p.bins.length := by
  unfold holdIn
  simp only [Bool.and_eq_true, decide_eq_true_eq, and_assoc]

namespace Sane
variable {p : Plan} {s : State} (h : Sane p s)
include h
theorem plan : checkPlan p = 0 := (checkShelf_zero.1 h.shelf).1
theorem orders4 : s.orders.length ≤ 4 := (manyOk_iff.1 h.many).1
theorem moves8 : s.moves.length ≤ 8 := (manyOk_iff.1 h.many).2.1
theorem lines3 {o : Nat} (ho : o < s.orders.length) : 1 ≤ (s.order o).lines.length ∧ (s.order o).lines.length ≤ 3 := by
  have := all_at dOrder (manyOk_iff.1 h.many).2.2 ho
  have := within_iff.1 this
  unfold State.order orderAt
  omega
theorem orderOk {o : Nat} (ho : o < s.orders.length) : Wh.orderOk p (s.order o) = true := all_at dOrder (formed_iff.1 h.form).1 ho
theorem kind {o : Nat} (ho : o < s.orders.length) : 0 ≤ (s.order o).kind ∧ (s.order o).kind ≤ 2 := (orderOk_iff.1 (h.orderOk ho)).1
theorem line {o k : Nat} (ho : o < s.orders.length) (hk : k < (s.order o).lines.length) :
    (0 ≤ (s.line o k).good ∧ (s.line o k).good < p.sizes.length) ∧ (1 ≤ (s.line o k).want ∧ (s.line o k).want ≤ 200) ∧ (0 ≤ (s.line o k).got ∧ (s.line o k).got ≤ (s.line o k).want) ∧ (0 ≤ (s.line o k).back ∧ (s.line o k).back ≤ (s.line o k).want) :=
  lineOk_iff.1 (all_at dLine (orderOk_iff.1 (h.orderOk ho)).2 hk)
theorem holds : holdsOk s.holds = true := (formed_iff.1 h.form).2.1
theorem holdAt {k : Nat} (hk : k < s.holds.length) : (0 ≤ (hold s.holds k).order ∧ (hold s.holds k).order < s.orders.length) ∧ (0 ≤ (hold s.holds k).line ∧ (hold s.holds k).line < (s.order (hold s.holds k).order.toNat).lines.length) ∧
    (0 ≤ (hold s.holds k).bin ∧ (hold s.holds k).bin < p.bins.length) ∧ (1 ≤ (hold s.holds k).n ∧ (hold s.holds k).n ≤ 200) := by
  have h1 := ok_key h.holds hk
  have h2 := ok_n h.holds hk
  have h3 := holdIn_iff.1 (all_at dHold (formed_iff.1 h.form).2.2.1 hk)
  unfold keyOk at h1
  change (hold s.holds k).order < _ ∧ _ at h3
  obtain ⟨a, b, c⟩ := h3
  exact ⟨⟨h1.1.1, a⟩, ⟨h1.2.1.1, b⟩, ⟨h1.2.2.1, c⟩, h2⟩
theorem moveAt {k : Nat} (hk : k < s.moves.length) : (0 ≤ (moveAt s.moves k).good ∧ (moveAt s.moves k).good < p.sizes.length) ∧ (0 ≤ (Wh.moveAt s.moves k).src ∧ (Wh.moveAt s.moves k).src < p.bins.length) ∧
    (0 ≤ (Wh.moveAt s.moves k).dst ∧ (Wh.moveAt s.moves k).dst < p.bins.length) ∧ (Wh.moveAt s.moves k).src ≠ (Wh.moveAt s.moves k).dst ∧ 1 ≤ (Wh.moveAt s.moves k).n ∧ (Wh.moveAt s.moves k).n ≤ 200 :=
  moveOk_iff.1 (all_at dMove (formed_iff.1 h.form).2.2.2.1 hk)
theorem inn : s.inn.length = p.sizes.length ∧ ∀ {g}, g < p.sizes.length → 0 ≤ intAt s.inn g ∧ intAt s.inn g ≤ 1048576 := by
  obtain ⟨h1, h2⟩ := sumsOk_iff.1 (formed_iff.1 h.form).2.2.2.2.1
  exact ⟨h1, fun hg => within_iff.1 (all_at 0 h2 (by omega))⟩
theorem out : s.out.length = p.sizes.length ∧ ∀ {g}, g < p.sizes.length → 0 ≤ intAt s.out g ∧ intAt s.out g ≤ 1048576 := by
  obtain ⟨h1, h2⟩ := sumsOk_iff.1 (formed_iff.1 h.form).2.2.2.2.2.1
  exact ⟨h1, fun hg => within_iff.1 (all_at 0 h2 (by omega))⟩
theorem fixed : s.fixed.length = p.sizes.length ∧ ∀ {g}, g < p.sizes.length → -1048576 ≤ intAt s.fixed g ∧ intAt s.fixed g ≤ 1048576 := by
  obtain ⟨h1, h2⟩ := sumsOk_iff.1 (formed_iff.1 h.form).2.2.2.2.2.2
  exact ⟨h1, fun hg => within_iff.1 (all_at 0 h2 (by omega))⟩
theorem onLen : s.on.length = p.bins.length := right_len h.shelf
theorem rowLen {b : Nat} (hb : b < p.bins.length) : (rowAt s.on b).length = p.sizes.length := right_row h.shelf (by rw [h.onLen]; exact hb)
theorem cell {b g : Nat} (hb : b < p.bins.length) (hg : g < p.sizes.length) : 0 ≤ cell s.on b g ∧ Wh.cell s.on b g ≤ 200 := right_cell h.shelf (by rw [h.onLen]; exact hb) hg
theorem counts : 1 ≤ p.bins.length ∧ p.bins.length ≤ 6 ∧ 1 ≤ p.sizes.length ∧ p.sizes.length ≤ 3 := right_counts h.plan
end Sane

theorem checkState_shelf {p : Plan} {s : State} (h : checkShelf p s.on ≠ 0) : checkState p s = checkShelf p s.on := by unfold checkState; rw [if_pos h]
theorem checkState_many {p : Plan} {s : State} (h : checkShelf p s.on = 0) (h2 : manyOk s = false) : checkState p s = 2 := by
  unfold checkState
  rw [if_neg (fun hn => hn h), h2]; rfl
theorem checkState_form {p : Plan} {s : State} (h : checkShelf p s.on = 0) (h2 : manyOk s = true) (h3 : formed p s = false) : checkState p s = 1 := by
  unfold checkState
  rw [if_neg (fun hn => hn h), h2, h3]; rfl
theorem checkState_sum {p : Plan} {s : State} (h : Sane p s) (h4 : summed p s = false) : checkState p s = 7 := by
  unfold checkState
  rw [if_neg (fun hn => hn h.shelf), h.many, h.form, h4]; rfl
theorem checkState_ok {p : Plan} {s : State} (h : Sane p s) (h4 : summed p s = true) : checkState p s = 0 := by
  unfold checkState
  rw [if_neg (fun hn => hn h.shelf), h.many, h.form, h4]; rfl
theorem checkState_zero {p : Plan} {s : State} : checkState p s = 0 ↔ Sane p s ∧ summed p s = true := by
  constructor
  · intro h
    unfold checkState at h
    split at h
    · rename_i h1; exact absurd h h1
    · rename_i h1
      cases h2 : manyOk s
      · rw [h2] at h; simp at h
      · cases h3 : formed p s
        · rw [h2, h3] at h; simp at h
        · cases h4 : summed p s
          · rw [h2, h3, h4] at h; simp at h
          · exact ⟨⟨by simpa using h1, h2, h3⟩, rfl⟩
  · rintro ⟨h, h4⟩
    exact checkState_ok h h4

-- sums over what was seen so far
def heldTo (s : State) (b g : Int) (k : Nat) : Int := ((s.holds.take k).map (heldN s b g)).sum
def goingTo (l : List Move) (b g : Int) (k : Nat) : Int := ((l.take k).map (fromN b g)).sum
def comingTo (l : List Move) (b g : Int) (k : Nat) : Int := ((l.take k).map (toN b g)).sum
theorem sum_take {α : Type} (f : α → Int) (l : List α) (d : α) {k : Nat} (hk : k < l.length) : ((l.take (k + 1)).map f).sum = ((l.take k).map f).sum + f (l.getD k d) := by
  rw [List.take_succ_eq_append_getElem hk, List.map_append, List.sum_append]
  simp [hk]
theorem heldTo_succ {s : State} {b g : Int} {k : Nat} (hk : k < s.holds.length) : heldTo s b g (k + 1) = heldTo s b g k + heldN s b g (hold s.holds k) := sum_take _ _ dHold hk
theorem goingTo_succ {l : List Move} {b g : Int} {k : Nat} (hk : k < l.length) : goingTo l b g (k + 1) = goingTo l b g k + fromN b g (moveAt l k) := sum_take _ _ dMove hk
theorem comingTo_succ {l : List Move} {b g : Int} {k : Nat} (hk : k < l.length) : comingTo l b g (k + 1) = comingTo l b g k + toN b g (moveAt l k) := sum_take _ _ dMove hk
theorem heldTo_all (s : State) (b g : Int) : heldTo s b g s.holds.length = heldIn s b g := by unfold heldTo heldIn; rw [List.take_length]
theorem goingTo_all (l : List Move) (b g : Int) : goingTo l b g l.length = goingOf l b g := by unfold goingTo goingOf; rw [List.take_length]
theorem comingTo_all (l : List Move) (b g : Int) : comingTo l b g l.length = comingOf l b g := by unfold comingTo comingOf; rw [List.take_length]
theorem list_sum_range {l : List Int} {m : Int} (h : ∀ x ∈ l, 0 ≤ x ∧ x ≤ m) : 0 ≤ l.sum ∧ l.sum ≤ l.length * m := by
  induction l with
  | nil => simp
  | cons x l ih =>
    have h1 := h x (by simp)
    have h2 := ih (fun y hy => h y (by simp [hy]))
    rw [List.sum_cons, List.length_cons, Int.natCast_add, Int.add_mul]
    omega
theorem heldTo_range {p : Plan} {s : State} (h : Sane p s) (b g : Int) (k : Nat) : 0 ≤ heldTo s b g k ∧ heldTo s b g k ≤ 14400 := by
  have h72 := ok_len72 h.holds
  have hr := list_sum_range (l := (s.holds.take k).map (heldN s b g)) (m := 200) (fun x hx => by
    obtain ⟨y, hy, rfl⟩ := List.mem_map.1 hx
    obtain ⟨i, hi, rfl⟩ := List.getElem_of_mem (List.mem_of_mem_take hy)
    have := ok_n h.holds hi
    rw [hold_get hi] at this
    unfold heldN
    split <;> omega)
  rw [List.length_map, List.length_take] at hr
  unfold heldTo
  omega
theorem goingTo_range {p : Plan} {s : State} (h : Sane p s) (b g : Int) (k : Nat) : 0 ≤ goingTo s.moves b g k ∧ goingTo s.moves b g k ≤ 1600 := by
  have h8 := h.moves8
  have hr := list_sum_range (l := (s.moves.take k).map (fromN b g)) (m := 200) (fun x hx => by
    obtain ⟨y, hy, rfl⟩ := List.mem_map.1 hx
    obtain ⟨i, hi, rfl⟩ := List.getElem_of_mem (List.mem_of_mem_take hy)
    have := h.moveAt hi
    rw [Wh.moveAt_eq hi] at this
    unfold fromN
    split <;> omega)
  rw [List.length_map, List.length_take] at hr
  unfold goingTo
  omega
theorem comingTo_range {p : Plan} {s : State} (h : Sane p s) (b g : Int) (k : Nat) : 0 ≤ comingTo s.moves b g k ∧ comingTo s.moves b g k ≤ 1600 := by
  have h8 := h.moves8
  have hr := list_sum_range (l := (s.moves.take k).map (toN b g)) (m := 200) (fun x hx => by
    obtain ⟨y, hy, rfl⟩ := List.mem_map.1 hx
    obtain ⟨i, hi, rfl⟩ := List.getElem_of_mem (List.mem_of_mem_take hy)
    have := h.moveAt hi
    rw [Wh.moveAt_eq hi] at this
    unfold toN
    split <;> omega)
  rw [List.length_map, List.length_take] at hr
  unfold comingTo
  omega
theorem bound_range {p : Plan} {s : State} (h : Sane p s) (b g : Int) : 0 ≤ bound s b g ∧ bound s b g ≤ 16000 := by
  have h1 := heldTo_range h b g s.holds.length
  have h2 := goingTo_range h b g s.moves.length
  rw [heldTo_all] at h1
  rw [goingTo_all] at h2
  unfold bound
  omega
theorem coming_range {p : Plan} {s : State} (h : Sane p s) (b g : Int) : 0 ≤ coming s b g ∧ coming s b g ≤ 1600 := by
  have h2 := comingTo_range h b g s.moves.length
  rw [comingTo_all] at h2
  exact h2
end Wh
namespace Wh
open Go Go.RowKit Go.Proofs

/-- The slices of a state; the rows' and the orders' lines'. -/
structure SV where
  on : Value
  orders : Value
  holds : Value
  moves : Value
  inn : Value
  out : Value
  fixed : Value
  rows : List Value
  lines : List Value
def SV.cells (V : SV) : List Value := [V.on, V.orders, V.holds, V.moves, V.inn, V.out, V.fixed]
def SV.val (V : SV) : Value := .agg #[V.on, V.orders, V.holds, V.moves, V.inn, V.out, V.fixed]
def nilV : Value := .slice none 0 0
def SV.row (V : SV) (b : Nat) : Value := V.rows.getD b nilV
def SV.line (V : SV) (o : Nat) : Value := V.lines.getD o nilV
def cOrd (x : Int × Value) : List Value := [.int .i64 x.1, x.2]
def ords (l : List Order) (vs : List Value) : List (Int × Value) := List.zipWith (fun o u => (o.kind, u)) l vs
/-- No two of these slices lie in one block. -/
def apartL (vs : List Value) : Prop := vs.Pairwise fun a b => ∀ g, a.ownBlock = some g → b.ownBlock ≠ some g

structure OwnSt (w : World) (base : Nat) (V : SV) (s : State) : Prop where
  on : Own (fun u : Value => [u]) 1 23 w base V.on V.rows
  rlen : V.rows.length = s.on.length
  row : ∀ b, b < s.on.length → Own cInt 1 3 w base (V.row b) (rowAt s.on b)
  orders : Own cOrd 2 58 w base V.orders (ords s.orders V.lines)
  llen : V.lines.length = s.orders.length
  line : ∀ o, o < s.orders.length → Own cLine 4 70 w base (V.line o) (s.order o).lines
  holds : Own cHold 4 65 w base V.holds s.holds
  moves : Own cMove 4 42 w base V.moves s.moves
  inn : Own cInt 1 3 w base V.inn s.inn
  out : Own cInt 1 3 w base V.out s.out
  fixed : Own cInt 1 3 w base V.fixed s.fixed
  apart : apartL (V.rows ++ [V.inn, V.out, V.fixed])
  apartl : apartL V.lines

theorem ords_length {l : List Order} {vs : List Value} (h : vs.length = l.length) : (ords l vs).length = l.length := by
  unfold ords
  rw [List.length_zipWith]
  omega
theorem ords_get {l : List Order} {vs : List Value} {i : Nat} (h : vs.length = l.length) (hi : i < l.length) : (ords l vs)[i]? = some ((orderAt l i).kind, vs.getD i nilV) := by
  unfold ords
  rw [List.getElem?_zipWith, List.getElem?_eq_getElem hi, List.getElem?_eq_getElem (by omega), orderAt_eq hi]
  simp [show i < vs.length by omega]
theorem apart_at {vs : List Value} (h : apartL vs) {i j : Nat} (hi : i < vs.length) (hj : j < vs.length) (hne : i ≠ j) {g : Nat} (hg : (vs.getD i nilV).ownBlock = some g) : (vs.getD j nilV).ownBlock ≠ some g := by
  have e1 : vs.getD i nilV = vs[i] := by simp [hi]
  have e2 : vs.getD j nilV = vs[j] := by simp [hj]
  rw [e1] at hg
  rw [e2]
  rcases Nat.lt_or_gt_of_ne hne with h1 | h1
  · exact List.pairwise_iff_getElem.1 h i j hi hj h1 g hg
  · intro he
    exact List.pairwise_iff_getElem.1 h j i hj hi h1 g he hg
/-- Two slices of one list, seen from a block that is written. -/
theorem apart_or {vs : List Value} (h : apartL vs) {i j : Nat} (hi : i < vs.length) (hj : j < vs.length) (hne : i ≠ j) : (vs.getD i nilV).ownBlock = none ∨ (vs.getD i nilV).ownBlock ≠ (vs.getD j nilV).ownBlock := by
  cases hb : (vs.getD i nilV).ownBlock with
  | none => exact .inl rfl
  | some g => exact .inr fun he => apart_at h hi hj hne hb he.symm

namespace OwnSt
variable {w w' : World} {base : Nat} {V : SV} {s : State}
theorem below (h : OwnSt w base V s) (hb : Below w.heap.size w w') : OwnSt w' base V s :=
  ⟨h.on.below hb, h.rlen, fun b hlt => (h.row b hlt).below hb, h.orders.below hb, h.llen, fun o ho => (h.line o ho).below hb, h.holds.below hb, h.moves.below hb, h.inn.below hb, h.out.below hb, h.fixed.below hb, h.apart, h.apartl⟩
theorem alloc (h : OwnSt w base V s) (o : Obj) : OwnSt (w.alloc o) base V s := h.below ((Below.refl _ _).alloc (Nat.le_refl _) _)
theorem drew (h : OwnSt w base V s) : OwnSt w.drew base V s := h.below (Below.refl _ _).drew
theorem from_ (h : OwnSt w base V s) {base' : Nat} (hb : base' ≤ base) : OwnSt w base' V s :=
  ⟨h.on.from_ hb, h.rlen, fun b hlt => (h.row b hlt).from_ hb, h.orders.from_ hb, h.llen, fun o ho => (h.line o ho).from_ hb, h.holds.from_ hb, h.moves.from_ hb, h.inn.from_ hb, h.out.from_ hb, h.fixed.from_ hb, h.apart, h.apartl⟩

theorem rowGet (h : OwnSt w base V s) {b : Nat} (hb : b < s.on.length) : V.rows[b]? = some (V.row b) := by
  unfold SV.row
  simp [show b < V.rows.length by rw [h.rlen]; exact hb]
theorem lineGet (h : OwnSt w base V s) {o : Nat} (ho : o < s.orders.length) : V.lines[o]? = some (V.line o) := by
  unfold SV.line
  simp [show o < V.lines.length by rw [h.llen]; exact ho]

/-- It reads as the state. -/
theorem view (h : OwnSt w base V s) {p : Plan} (hs : Sane p s) : StateV w w.heap.size V.val s := by
  have h72 := ok_len72 hs.holds
  have h8 := hs.moves8
  have h4 := hs.orders4
  have hc := hs.counts
  have hon := hs.onLen
  obtain ⟨A, c, hv, _, hA⟩ := h.on.sl (by rw [h.rlen]; omega)
  obtain ⟨A1, c1, hv1, _, hA1⟩ := h.orders.sl (by rw [ords_length h.llen]; omega)
  refine ⟨_, _, _, _, _, _, _, rfl, ⟨A, c, V.rows, by rw [hv, h.rlen], by omega, h.rlen, ?_, fun i x hi => ?_⟩, ⟨A1, c1, V.lines, by rw [hv1, ords_length h.llen], by omega, h.llen, ?_, fun i x hi => ?_⟩, h.holds.sl (by omega), h.moves.sl (by omega), h.inn.sl (by rw [hs.inn.1]; omega), h.out.sl (by rw [hs.out.1]; omega), h.fixed.sl (by rw [hs.fixed.1]; omega)⟩
  · have : V.rows.flatMap (fun u => [u]) = V.rows := by simp
    rw [this] at hA
    exact hA
  · have hil : i < s.on.length := (List.getElem?_eq_some_iff.1 hi).1
    have hx : rowAt s.on i = x := by rw [rowAt_eq hil]; exact (List.getElem?_eq_some_iff.1 hi).2
    exact ⟨_, h.rowGet hil, by rw [← hx]; exact (h.row i hil).sl (by rw [hs.rowLen (by omega)]; omega)⟩
  · have e : (s.orders.zip V.lines).flatMap (fun x => [Value.int .i64 x.1.kind, x.2]) = (ords s.orders V.lines).flatMap cOrd := by
      unfold ords cOrd
      rw [List.zip_eq_zipWith, List.flatMap_def, List.flatMap_def, List.map_zipWith, List.map_zipWith]
    rw [e]
    exact hA1
  · have hil : i < s.orders.length := (List.getElem?_eq_some_iff.1 hi).1
    have hx : s.order i = x := by unfold State.order; rw [orderAt_eq hil]; exact (List.getElem?_eq_some_iff.1 hi).2
    have := hs.lines3 hil
    rw [hx] at this
    exact ⟨_, h.lineGet hil, by rw [← hx]; exact (h.line i hil).sl (by rw [hx]; omega)⟩

-- which slices lie apart
theorem innAt (V : SV) : (V.rows ++ [V.inn, V.out, V.fixed]).getD (V.rows.length + 0) nilV = V.inn := by simp
theorem outAt (V : SV) : (V.rows ++ [V.inn, V.out, V.fixed]).getD (V.rows.length + 1) nilV = V.out := by simp
theorem fixedAt (V : SV) : (V.rows ++ [V.inn, V.out, V.fixed]).getD (V.rows.length + 2) nilV = V.fixed := by simp
theorem rowAtV (V : SV) {b : Nat} (hb : b < V.rows.length) : (V.rows ++ [V.inn, V.out, V.fixed]).getD b nilV = V.row b := by
  unfold SV.row
  simp [List.getD_eq_getElem?_getD, List.getElem?_append_left hb]
theorem lenV (V : SV) : (V.rows ++ [V.inn, V.out, V.fixed]).length = V.rows.length + 3 := by simp

/-- Another slice of moves; the old one's block may have been written. -/
theorem newMoves (h : OwnSt w base V s) (hg : w.grownBy w' V.moves.ownBlock) {v : Value} {l : List Move} (hv : Own cMove 4 42 w' base v l) : OwnSt w' base { V with moves := v } { s with moves := l } :=
  ⟨h.on.kept hg (h.on.apart h.moves (by decide)), h.rlen, fun b hb => (h.row b hb).kept hg ((h.row b hb).apart h.moves (by decide)), h.orders.kept hg (h.orders.apart h.moves (by decide)), h.llen, fun o ho => (h.line o ho).kept hg ((h.line o ho).apart h.moves (by decide)),
    h.holds.kept hg (h.holds.apart h.moves (by decide)), hv, h.inn.kept hg (h.inn.apart h.moves (by decide)), h.out.kept hg (h.out.apart h.moves (by decide)), h.fixed.kept hg (h.fixed.apart h.moves (by decide)), h.apart, h.apartl⟩
theorem order_set {s : State} {o o' : Nat} {x : Order} (ho : o < s.orders.length) : orderAt (s.orders.set o x) o' = if o' = o then x else s.order o' := by
  unfold State.order orderAt
  by_cases h : o' = o
  · subst h
    simp [ho]
  · rw [if_neg h]
    simp [Ne.symm h]
theorem ords_set {l : List Order} {vs : List Value} {o : Nat} {x : Order} (hx : x.kind = (orderAt l o).kind) : ords (l.set o x) vs = ords l vs := by
  unfold ords
  apply List.ext_getElem?
  intro i
  rw [List.getElem?_zipWith, List.getElem?_zipWith, List.getElem?_set]
  by_cases h : o = i
  · subst h
    rw [if_pos rfl]
    by_cases hl : o < l.length
    · rw [if_pos hl, List.getElem?_eq_getElem hl]
      cases vs[o]? with
      | none => rfl
      | some u =>
        simp only
        rw [hx, orderAt_eq hl]
    · rw [if_neg hl, List.getElem?_eq_none (show l.length ≤ o by omega)]
  · rw [if_neg h]

/-- A number of a line. -/
theorem setLine (h : OwnSt w base V s) {o k : Nat} (ho : o < s.orders.length) (hk : k < (s.order o).lines.length) {gl n c : Nat} (hv : V.line o = .slice (some ⟨gl, 0, none⟩) n c) {j : Nat} (hj : j < 4) {y : Line} {u : Value}
    (hy : cLine y = (cLine (s.line o k)).set j u) : OwnSt (w.setCell ⟨gl, k * 4 + j, none⟩ u) base V (s.setLine o k y) ∧ w.grownBy (w.setCell ⟨gl, k * 4 + j, none⟩ u) (some gl) := by
  have hl := h.line o ho
  have hl' := hl
  rw [hv] at hl'
  have hlk : s.line o k = (s.order o).lines[k] := by unfold State.line; rw [lineAt_eq hk]
  obtain ⟨o1, hg⟩ := hl'.store (fun _ => rfl) hk hj (y := y) (u := u) (by rw [hy, hlk])
  have hob : (V.line o).ownBlock = some gl := by rw [hv]; rfl
  have hg' : w.grownBy (w.setCell ⟨gl, k * 4 + j, none⟩ u) (V.line o).ownBlock := by rw [hob]; exact hg
  have hlen : (s.setLine o k y).orders.length = s.orders.length := by unfold State.setLine; simp
  have hor : ∀ o', (s.setLine o k y).order o' = if o' = o then { s.order o with lines := (s.order o).lines.set k y } else s.order o' := fun o' => order_set ho
  refine ⟨⟨h.on.kept hg' (h.on.apart hl (by decide)), h.rlen, fun b hb => (h.row b hb).kept hg' ((h.row b hb).apart hl (by decide)), ?_, by rw [hlen]; exact h.llen, fun o' ho' => ?_, h.holds.kept hg' (h.holds.apart hl (by decide)),
    h.moves.kept hg' (h.moves.apart hl (by decide)), h.inn.kept hg' (h.inn.apart hl (by decide)), h.out.kept hg' (h.out.apart hl (by decide)), h.fixed.kept hg' (h.fixed.apart hl (by decide)), h.apart, h.apartl⟩, hg⟩
  · have e : ords (s.setLine o k y).orders V.lines = ords s.orders V.lines := ords_set rfl
    rw [e]
    exact h.orders.kept hg' (h.orders.apart hl (by decide))
  · rw [hlen] at ho'
    rw [hor]
    by_cases he : o' = o
    · subst he
      rw [if_pos rfl, hv]
      exact o1
    · rw [if_neg he]
      exact (h.line o' ho').kept hg' (apart_or h.apartl (by rw [h.llen]; exact ho') (by rw [h.llen]; exact ho) he)
/-- A number of a shelf. -/
theorem setOn (h : OwnSt w base V s) {b g : Nat} (hb : b < s.on.length) (hgl : g < (rowAt s.on b).length) {gr n c : Nat} (hv : V.row b = .slice (some ⟨gr, 0, none⟩) n c) (q : Int) :
    OwnSt (w.setCell ⟨gr, g, none⟩ (.int .i64 q)) base V { s with on := setCell s.on b g q } ∧ w.grownBy (w.setCell ⟨gr, g, none⟩ (.int .i64 q)) (some gr) := by
  have hl := h.row b hb
  have hl' := hl
  rw [hv] at hl'
  obtain ⟨o1, hg⟩ := hl'.store (i := g) (fun _ => rfl) hgl (show 0 < 1 by omega) (y := q) (u := .int .i64 q) rfl
  rw [Nat.mul_one, Nat.add_zero] at o1 hg
  have hob : (V.row b).ownBlock = some gr := by rw [hv]; rfl
  have hg' : w.grownBy (w.setCell ⟨gr, g, none⟩ (.int .i64 q)) (V.row b).ownBlock := by rw [hob]; exact hg
  have hbV : b < V.rows.length := by rw [h.rlen]; exact hb
  have key : ∀ i, i < V.rows.length + 3 → i ≠ b → ((V.rows ++ [V.inn, V.out, V.fixed]).getD i nilV).ownBlock = none ∨ ((V.rows ++ [V.inn, V.out, V.fixed]).getD i nilV).ownBlock ≠ (V.row b).ownBlock := fun i hi hne => by
    have := apart_or h.apart (i := i) (j := b) (by rw [lenV]; exact hi) (by rw [lenV]; omega) hne
    rw [rowAtV V hbV] at this
    exact this
  refine ⟨⟨h.on.kept hg' (h.on.apart hl (by decide)), by rw [length_setCell]; exact h.rlen, fun i hi => ?_, h.orders.kept hg' (h.orders.apart hl (by decide)), h.llen, fun o ho => (h.line o ho).kept hg' ((h.line o ho).apart hl (by decide)), h.holds.kept hg' (h.holds.apart hl (by decide)),
    h.moves.kept hg' (h.moves.apart hl (by decide)), h.inn.kept hg' ?_, h.out.kept hg' ?_, h.fixed.kept hg' ?_, h.apart, h.apartl⟩, hg⟩
  · rw [length_setCell] at hi
    unfold Wh.setCell
    rw [rowAt_set hb]
    by_cases he : i = b
    · subst he
      rw [if_pos rfl, hv]
      exact o1
    · rw [if_neg he]
      have := key i (by rw [h.rlen]; omega) he
      rw [rowAtV V (by rw [h.rlen]; exact hi)] at this
      exact (h.row i hi).kept hg' this
  · have := key (V.rows.length + 0) (by omega) (by omega)
    rw [innAt] at this
    exact this
  · have := key (V.rows.length + 1) (by omega) (by omega)
    rw [outAt] at this
    exact this
  · have := key (V.rows.length + 2) (by omega) (by omega)
    rw [fixedAt] at this
    exact this
end OwnSt
end Wh
