/- Texts of the claim, joined: MemK. -/
import Derived.Laws.CopyRow
import Derived.Lib.AppendZerosOnto
import Derived.Lib.Overlaps
import Derived.Laws.Externs
import Derived.Test.YtnjgkhcnialplaaP04
namespace Wh
open Go Go.RowKit

/-- The block g holds just these cells. -/
def Blk (w : World) (g : Nat) (e : TypeId) (cur : List Value) : Prop := w.heap[g]? = some (.cells cur.toArray e (0, 0))
def spl (L : List Value) (o : Nat) (cs : List Value) : List Value := L.take o ++ cs ++ L.drop (o + cs.length)
theorem spl_length {L : List Value} {o : Nat} {cs : List Value} (h : o + cs.length ≤ L.length) : (spl L o cs).length = L.length := by
  unfold spl
  simp only [List.length_append, List.length_take, List.length_drop]
  omega
theorem spl_lo {L : List Value} {o : Nat} {cs : List Value} (h : o ≤ L.length) : (spl L o cs).take o = L.take o := by
  unfold spl
  rw [List.append_assoc, List.take_append_of_le_length (by rw [List.length_take]; omega), List.take_take, Nat.min_self]
theorem spl_hi {L : List Value} {o : Nat} {cs : List Value} (h : o ≤ L.length) : (spl L o cs).take (o + cs.length) = L.take o ++ cs := by
  unfold spl
  rw [List.take_append_of_le_length (by rw [List.length_append, List.length_take]; omega), List.take_of_length_le (by rw [List.length_append, List.length_take]; omega)]

section
variable {w : World} {g : Nat} {e : TypeId} {cur : List Value}
theorem Blk.lt (h : Blk w g e cur) : g < w.heap.size := (Array.getElem?_eq_some_iff.1 h).1
theorem Blk.cell (h : Blk w g e cur) {j : Nat} {v : Value} (hj : cur[j]? = some v) : w.cell? ⟨g, j, none⟩ = some v := by
  unfold Blk at h
  simp [World.cell?, h, hj]
theorem Blk.row (h : Blk w g e cur) (cs : List Value) : Blk (w.setRow g cs.toArray) g e cs := setRow_heap w g _ _ _ _ h
theorem Blk.other (h : Blk w g e cur) {g' : Nat} (hne : g ≠ g') (cs : Array Value) : Blk (w.setRow g' cs) g e cur := by
  unfold Blk at *
  rw [setRow_other w g' g cs hne]
  exact h
theorem Blk.drew (h : Blk w g e cur) : Blk w.drew g e cur := h
theorem Blk.alloc (h : Blk w g e cur) (o : Obj) : Blk (w.alloc o) g e cur := by
  unfold Blk at *
  rw [Below.heap_alloc _ _ _ (Array.getElem?_eq_some_iff.1 h).1]
  exact h
theorem Blk.new (w : World) (e : TypeId) (cs : Array Value) : Blk (w.alloc (.cells cs e)) w.heap.size e cs.toList := by
  show (w.heap.push (.cells cs e))[w.heap.size]? = _
  rw [Array.getElem?_push_size]
theorem Blk.below (h : Blk w g e cur) {B : Nat} {w' : World} (hb : Below B w w') (hg : g < B) : Blk w' g e cur := (hb.block g hg).trans h
theorem Blk.grown (h : Blk w g e cur) {w' : World} {row : Option Nat} (hg : w.grownBy w' row) (hne : some g ≠ row) : Blk w' g e cur := (hg.block g h.lt hne).trans h
theorem Blk.shape (h : Blk w g e cur) : w.shape? g = some (e, cur.length) := by
  unfold Blk at h
  simp [World.shape?, h]
theorem Blk.frozen (h : Blk w g e cur) (o : Nat) : w.frozen? ⟨g, o, none⟩ = false := by
  unfold Blk at h
  simp [World.frozen?, h]
theorem grown_row (w : World) (g : Nat) (cs : Array Value) : w.grownBy (w.setRow g cs) (some g) :=
  ⟨rfl, rfl, rfl, by simp [World.setRow], fun k _ hne => setRow_other w g k cs (fun e => hne (by rw [e]))⟩
theorem below_row {B g : Nat} {w0 w : World} (hb : Below B w0 w) (hBg : B ≤ g) (cs : Array Value) : Below B w0 (w.setRow g cs) :=
  hb.trans ⟨rfl, rfl, rfl, by simp [World.setRow], fun k hk => setRow_other w g k cs (by omega)⟩
end

section
variable {P : Program} (w : World)
theorem run_copy_blk (dT sT ty elem : TypeId) (k g o dLen dCap : Nat) (a : Addr) (sLen sCap : Nat) (cur : List Value) (t : TypeId) (cs : List Value)
    (hu : P.underlying dT = some (.slice elem)) (hs : (P.info? elem).map (·.size) = some k)
    (hg : Blk w g t cur) (n : Nat) (hm : Nat.min sLen dLen = n) (hn : cs.length = n * k)
    (hsrc : ∀ j v, cs[j]? = some v → w.cell? (a.add j) = some v) (hfit : o + cs.length ≤ cur.length) (h1 : ∀ v ∈ cs, v.oneCell' = true) :
    (Builtin.copy_ #[dT, sT] ty #[.slice (some ⟨g, o, none⟩) dLen dCap, .slice (some a) sLen sCap]).run P w =
      .ok (goInt n) (w.setRow g (spl cur o cs).toArray) := by
  have hl := run_firstCells_some (P := P) w k n a sLen sCap cs hn hsrc
  have hst := run_storeCells_at P g o t cs 0 cur.toArray w hg (by simpa using hfit) h1
  cases hq : P.info? elem with
  | none => simp [hq] at hs
  | some i =>
    have hi : i.size = k := by simpa [hq] using hs
    subst hi
    simp only [Builtin.copy_, Sem.run_bind, run_underlying hu, Result.andThen_ok, Builtin.lenOf, Sem.run_pure, Go.sizeOf, typeInfo, List.getElem?_toArray, List.getElem?_cons_zero, List.getElem?_cons_succ, run_program, hq, hm, hl, hst]
    simp [spl]
/-- append with room: in place. -/
theorem run_append_blk (t ty e : TypeId) (i : TypeInfo) (ht : P.underlying t = some (.slice e)) (hi : P.info? e = some i) (g n cap : Nat) (x : Value) (m : Nat) (cs : List Value) (cur : List Value)
    (hg : Blk w g e cur) (hlen : Builtin.lenOf x = Sem.pure m) (hx : (Builtin.firstCells i.size m x).run P w = .ok cs.toArray w) (hroom : n + m ≤ cap) (hfit : n * i.size + cs.length ≤ cur.length) (h1 : ∀ v ∈ cs, v.oneCell' = true) :
    (Builtin.append_ #[t, t] ty #[.slice (some ⟨g, 0, none⟩) n cap, x]).run P w = .ok (.slice (some ⟨g, 0, none⟩) (n + m) cap) (w.setRow g (spl cur (n * i.size) cs).toArray) := by
  have hst := run_storeCells_at P g (n * i.size) e cs 0 cur.toArray w hg (by simpa using hfit) h1
  simp [Builtin.append_, run_underlying ht, Go.sizeOf, typeInfo, hi, hlen, hroom, hx, Addr.add_lit, hst, spl]
theorem zeroCells_length (z : Array Value) (n : Nat) : (Builtin.zeroCells z n).size = n * z.size := by simp [Builtin.zeroCells]
theorem zeroCells_one {z : Array Value} (h : ∀ v ∈ z, v.oneCell' = true) (n : Nat) : ∀ v ∈ (Builtin.zeroCells z n).toList, v.oneCell' = true := by
  intro v hv
  simp only [Builtin.zeroCells, Array.toList_map, List.mem_map, Array.mem_toList_iff, Array.mem_range] at hv
  obtain ⟨j, hj, rfl⟩ := hv
  have hz : 0 < z.size := by
    rcases Nat.eq_zero_or_pos z.size with h0 | h0
    · rw [h0] at hj; simp at hj
    · exact h0
  have hjm := Nat.mod_lt j hz
  rw [getElem!_pos z (j % z.size) hjm]
  exact h _ (Array.getElem_mem hjm)
theorem run_clear_blk (t e ty : TypeId) (z : Value) (ht : P.underlying t = some (.slice e)) (hv : ∀ w, (zeroValue e).run P w = .ok z w) (h1 : ∀ v ∈ z.cells, v.oneCell' = true) (g o n c : Nat) (cur : List Value)
    (hg : Blk w g e cur) (hn : 0 < n) (hfit : o + n * z.cells.size ≤ cur.length) :
    (Builtin.clear_ #[t] ty #[.slice (some ⟨g, o, none⟩) n c]).run P w = .ok (.tuple #[]) (w.setRow g (spl cur o (Builtin.zeroCells z.cells n).toList).toArray) := by
  have hst := run_storeCells_at P g o e (Builtin.zeroCells z.cells n).toList 0 cur.toArray w hg (by simpa [zeroCells_length] using hfit) (zeroCells_one h1 n)
  obtain ⟨m, rfl⟩ : ∃ m, n = m + 1 := ⟨n - 1, by omega⟩
  simp only [Builtin.clear_, Sem.run_bind, List.getElem?_toArray, List.getElem?_cons_zero, run_underlying ht, Result.andThen_ok, hv, hst]
  simp [spl]

/-- A builtin append, copy whose run is known, as a step of a region that draws and in a plain region. -/
theorem step_append_at {ops : Array Oper} {o : Oper} {a : Act} {K : Act → World → Prop} {Q : Exit → Act → World → Prop} {E : Prop}
    (hg : o.guard = none) (d x : Operand) (dT sT : TypeId) (hop : o.op = Op.call { callee := Callee.builtin Builtin.append, args := #[d, x], argTypes := #[dT, sT] })
    (v u : Value) (hd : a.eval d = v) (hx : a.eval x = u) {v' : Value} {w' : World} (hr : (Builtin.append_ #[dT, sT] o.type #[v, u]).run P w = .ok v' w') (hK : K (a.put o.dst v') w') :
    if Region.wanted o (yielded ops a.tmps) = true then Oper.wp P o a w K Q else E := by
  have hw : Region.wanted o (yielded ops a.tmps) = true := by simp [Region.wanted, hg]
  rw [if_pos hw]
  unfold Oper.wp
  simp [execOp, hop, resolve, invoke, builtin, hd, hx, hr, Result.andThen]
  exact hK
theorem step_copy_at {ops : Array Oper} {o : Oper} {a : Act} {K : Act → World → Prop} {Q : Exit → Act → World → Prop} {E : Prop}
    (hg : o.guard = none) (d x : Operand) (dT sT : TypeId) (hop : o.op = Op.call { callee := Callee.builtin Builtin.copy, args := #[d, x], argTypes := #[dT, sT] })
    (v u : Value) (hd : a.eval d = v) (hx : a.eval x = u) {v' : Value} {w' : World} (hr : (Builtin.copy_ #[dT, sT] o.type #[v, u]).run P w = .ok v' w') (hK : K (a.put o.dst v') w') :
    if Region.wanted o (yielded ops a.tmps) = true then Oper.wp P o a w K Q else E := by
  have hw : Region.wanted o (yielded ops a.tmps) = true := by simp [Region.wanted, hg]
  rw [if_pos hw]
  unfold Oper.wp
  simp [execOp, hop, resolve, invoke, builtin, hd, hx, hr, Result.andThen]
  exact hK
theorem wpList_copy_at {ops : Array Oper} {rest : List Oper} {o : Oper} {a : Act} {Q : Exit → Act → World → Prop} (hgd : o.guard = none) (d s : Operand) (t t' : TypeId)
    (ho : o.op = .call { callee := .builtin .copy, args := #[d, s], argTypes := #[t, t'] }) (v u : Value) (hd : a.eval d = v) (hs : a.eval s = u) {v' : Value} {w' : World}
    (hr : (Builtin.copy_ #[t, t'] o.type #[v, u]).run P w = .ok v' w') (h : wpList P ops Q rest (a.put o.dst v') w') : wpList P ops Q (o :: rest) a w :=
  wpList_plain hgd fun K hK => by
    unfold Oper.wp execOp
    simp only [ho, resolve, invoke, builtin, Sem.run_bind, Sem.run_pure, Result.andThen_ok, List.map_toArray, List.map_cons, List.map_nil, hd, hs, hr]
    exact hK _ _ h
end

theorem flat_take {α : Type} (enc : α → List Value) (k : Nat) (hk : ∀ x, (enc x).length = k) : ∀ (l : List α) (i : Nat), (l.flatMap enc).take (i * k) = (l.take i).flatMap enc
  | [], i => by simp
  | x :: l, 0 => by simp
  | x :: l, i + 1 => by
    rw [List.flatMap_cons, List.take_succ_cons, List.flatMap_cons, ← flat_take enc k hk l i, List.take_append, List.take_of_length_le (by rw [hk, Nat.add_mul]; omega), hk]
    congr 2
    rw [Nat.add_mul]; omega
theorem flat_drop {α : Type} (enc : α → List Value) (k : Nat) (hk : ∀ x, (enc x).length = k) : ∀ (l : List α) (i : Nat), (l.flatMap enc).drop (i * k) = (l.drop i).flatMap enc
  | [], i => by simp
  | x :: l, 0 => by simp
  | x :: l, i + 1 => by
    rw [List.flatMap_cons, List.drop_succ_cons, ← flat_drop enc k hk l i, List.drop_append, List.drop_of_length_le (by rw [hk, Nat.add_mul]; omega), hk, List.nil_append]
    congr 1
    rw [Nat.add_mul]; omega

section
variable {α : Type} {enc : α → List Value} {size : Nat} {e : TypeId} {w : World} {base : Nat} {v : Value} {l : List α}
theorem Own.row (h : Own enc size e w base v l) (hl : 0 < l.length) :
    ∃ g cap cur, v = .slice (some ⟨g, 0, none⟩) l.length cap ∧ base ≤ g ∧ Blk w g e cur ∧ l.length ≤ cap ∧ cap ≤ maxLen ∧ cur.length = cap * size ∧ cur.take (l.length * size) = l.flatMap enc := by
  rcases h.2 with ⟨_, h0⟩ | ⟨g, cap, cur, h1, h2, h3, h4, h5, h6, h7⟩
  · omega
  · exact ⟨g, cap, cur.toList, h1, h2, by unfold Blk; simpa using h3, h4, h5, by simpa using h6, h7⟩
theorem Own.of_row (hk : ∀ x, (enc x).length = size) {g cap : Nat} {cur : List Value} (hb : base ≤ g) (hg : Blk w g e cur) (h1 : l.length ≤ cap) (h2 : cap ≤ maxLen) (h3 : cur.length = cap * size) (h4 : cur.take (l.length * size) = l.flatMap enc) :
    Own enc size e w base (.slice (some ⟨g, 0, none⟩) l.length cap) l :=
  ⟨flat_length enc size hk l, .inr ⟨g, cap, cur.toArray, rfl, hb, hg, h1, h2, by simpa using h3, by simpa using h4⟩⟩
end

theorem flat_set {α : Type} (enc : α → List Value) (k : Nat) (hk : ∀ x, (enc x).length = k) {l : List α} {i j : Nat} (hi : i < l.length) (hj : j < k) {y : α} {u : Value} (hy : enc y = (enc l[i]).set j u) : (l.set i y).flatMap enc = (l.flatMap enc).set (i * k + j) u := by
  induction l generalizing i with
  | nil => simp at hi
  | cons x l ih =>
    cases i with
    | zero =>
      simp only [List.set_cons_zero, List.flatMap_cons, Nat.zero_mul, Nat.zero_add]
      simp only [List.getElem_cons_zero] at hy
      rw [hy, List.set_append_left _ _ (by rw [hk]; exact hj)]
    | succ i =>
      simp only [List.set_cons_succ, List.flatMap_cons]
      simp only [List.getElem_cons_succ] at hy
      rw [ih (by simpa using hi) hy, List.set_append_right _ _ (by rw [hk, Nat.add_mul]; omega), hk]
      congr 2
      rw [Nat.add_mul]; omega
theorem Own.store {α : Type} {enc : α → List Value} {size : Nat} {e : TypeId} {w : World} {base : Nat} {l : List α} {g n c : Nat} (h : Own enc size e w base (.slice (some ⟨g, 0, none⟩) n c) l) (hk : ∀ x, (enc x).length = size)
    {i j : Nat} (hi : i < l.length) (hj : j < size) {y : α} {u : Value} (hy : enc y = (enc l[i]).set j u) :
    Own enc size e (w.setCell ⟨g, i * size + j, none⟩ u) base (.slice (some ⟨g, 0, none⟩) n c) (l.set i y) ∧ w.grownBy (w.setCell ⟨g, i * size + j, none⟩ u) (some g) := by
  obtain ⟨A, c', hv⟩ := h.isSlice
  injection hv with h1 h2 h3
  subst h2
  obtain ⟨s1, s2⟩ := World.ownsRow.stored h (i * size + j) u
  refine ⟨?_, s2⟩
  unfold Own
  rw [List.length_set, flat_set enc size hk hi hj hy]
  exact s1
/-- The cells of a block that was just made. -/
theorem cells_new (w : World) (cs : Array Value) (e : TypeId) : ∀ j u, cs.toList[j]? = some u → (w.alloc (.cells cs e)).cell? ((⟨w.heap.size, 0, none⟩ : Addr).add j) = some u := fun j u hj => by
  rw [Addr.add_lit, Nat.zero_add]
  exact (Blk.new w e cs).cell hj
end Wh
