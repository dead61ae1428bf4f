/- Texts of the claim, joined: MemK, PlainB, PlainD. -/
import Derived.Laws.CopyRow
import Derived.Lib.AppendZerosOnto
import Derived.Lib.Overlaps
import Derived.Laws.Externs
import Derived.Test.YtfhfkijmebhgmaaGreatQ02
namespace Wh
open Go Go.RowKit

/-- The block g holds just these cells. -/
def Blk (w : World) (g : Nat) (e : TypeId) (cur : List Value) : Prop := w.heap[g]? = some (.cells cur.toArray e (0, 0))
def spl (L : List Value) (o : Nat) (cs : List Value) : List Value := L.take o ++ cs ++ L.drop (o + cs.length)
theorem spl_length {L : List Value} {o : Nat} {cs : List Value} (h : o + cs.length ≤ L.length) : (spl L o cs).length = L.length := by
  unfold spl
  simp only [List.length_append, List.length_take, List.length_drop]
  omega
theorem spl_lo {L : List Value} {o : Nat} {cs : List Value} (h : o ≤ L.length) : (spl L o cs).take o = L.take o := by
  unfold spl
  rw [List.append_assoc, List.take_append_of_le_length (by rw [List.length_take]; omega), List.take_take, Nat.min_self]
theorem spl_hi {L : List Value} {o : Nat} {cs : List Value} (h : o ≤ L.length) : (spl L o cs).take (o + cs.length) = L.take o ++ cs := by
  unfold spl
  rw [List.take_append_of_le_length (by rw [List.length_append, List.length_take]; omega), List.take_of_length_le (by rw [List.length_append, List.length_take]; omega)]

section
variable {w : World} {g : Nat} {e : TypeId} {cur : List Value}
theorem Blk.lt (h : Blk w g e cur) : g < w.heap.size := (Array.getElem?_eq_some_iff.1 h).1
theorem Blk.cell (h : Blk w g e cur) {j : Nat} {v : Value} (hj : cur[j]? = some v) : w.cell? ⟨g, j, none⟩ = some v := by
  unfold Blk at h
  simp [World.cell?, h, hj]
theorem Blk.row (h : Blk w g e cur) (cs : List Value) : Blk (w.setRow g cs.toArray) g e cs := setRow_heap w g _ _ _ _ h
theorem Blk.other (h : Blk w g e cur) {g' : Nat} (hne : g ≠ g') (cs : Array Value) : Blk (w.setRow g' cs) g e cur := by
  unfold Blk at *
  rw [setRow_other w g' g cs hne]
  exact h
theorem Blk.drew (h : Blk w g e cur) : Blk w.drew g e cur := h
theorem Blk.alloc (h : Blk w g e cur) (o : Obj) : Blk (w.alloc o) g e cur := by
  unfold Blk at *
  rw [Below.heap_alloc _ _ _ (Array.getElem?_eq_some_iff.1 h).1]
  exact h
theorem Blk.new (w : World) (e : TypeId) (cs : Array Value) : Blk (w.alloc (.cells cs e)) w.heap.size e cs.toList := by
  show (w.heap.push (.cells cs e))[w.heap.size]? = _
  rw [Array.getElem?_push_size]
theorem Blk.below (h : Blk w g e cur) {B : Nat} {w' : World} (hb : Below B w w') (hg : g < B) : Blk w' g e cur := (hb.block g hg).trans h
theorem Blk.grown (h : Blk w g e cur) {w' : World} {row : Option Nat} (hg : w.grownBy w' row) (hne : some g ≠ row) : Blk w' g e cur := (hg.block g h.lt hne).trans h
theorem Blk.shape (h : Blk w g e cur) : w.shape? g = some (e, cur.length) := by
  unfold Blk at h
  simp [World.shape?, h]
theorem Blk.frozen (h : Blk w g e cur) (o : Nat) : w.frozen? ⟨g, o, none⟩ = false := by
  unfold Blk at h
  simp [World.frozen?, h]
theorem grown_row (w : World) (g : Nat) (cs : Array Value) : w.grownBy (w.setRow g cs) (some g) :=
  ⟨rfl, rfl, rfl, by simp [World.setRow], fun k _ hne => setRow_other w g k cs (fun e => hne (by rw [e]))⟩
theorem below_row {B g : Nat} {w0 w : World} (hb : Below B w0 w) (hBg : B ≤ g) (cs : Array Value) : Below B w0 (w.setRow g cs) :=
  hb.trans ⟨rfl, rfl, rfl, by simp [World.setRow], fun k hk => setRow_other w g k cs (by omega)⟩
end

section
variable {P : Program} (w : World)
theorem run_copy_blk (dT sT ty elem : TypeId) (k g o dLen dCap : Nat) (a : Addr) (sLen sCap : Nat) (cur : List Value) (t : TypeId) (cs : List Value)
    (hu : P.underlying dT = some (.slice elem)) (hs : (P.info? elem).map (·.size) = some k)
    (hg : Blk w g t cur) (n : Nat) (hm : Nat.min sLen dLen = n) (hn : cs.length = n * k)
    (hsrc : ∀ j v, cs[j]? = some v → w.cell? (a.add j) = some v) (hfit : o + cs.length ≤ cur.length) (h1 : ∀ v ∈ cs, v.oneCell' = true) :
    (Builtin.copy_ #[dT, sT] ty #[.slice (some ⟨g, o, none⟩) dLen dCap, .slice (some a) sLen sCap]).run P w =
      .ok (goInt n) (w.setRow g (spl cur o cs).toArray) := by
  have hl := run_firstCells_some (P := P) w k n a sLen sCap cs hn hsrc
  have hst := run_storeCells_at P g o t cs 0 cur.toArray w hg (by simpa using hfit) h1
  cases hq : P.info? elem with
  | none => simp [hq] at hs
  | some i =>
    have hi : i.size = k := by simpa [hq] using hs
    subst hi
    simp only [Builtin.copy_, Sem.run_bind, run_underlying hu, Result.andThen_ok, Builtin.lenOf, Sem.run_pure, Go.sizeOf, typeInfo, List.getElem?_toArray, List.getElem?_cons_zero, List.getElem?_cons_succ, run_program, hq, hm, hl, hst]
    simp [spl]
/-- append with room: in place. -/
theorem run_append_blk (t ty e : TypeId) (i : TypeInfo) (ht : P.underlying t = some (.slice e)) (hi : P.info? e = some i) (g n cap : Nat) (x : Value) (m : Nat) (cs : List Value) (cur : List Value)
    (hg : Blk w g e cur) (hlen : Builtin.lenOf x = Sem.pure m) (hx : (Builtin.firstCells i.size m x).run P w = .ok cs.toArray w) (hroom : n + m ≤ cap) (hfit : n * i.size + cs.length ≤ cur.length) (h1 : ∀ v ∈ cs, v.oneCell' = true) :
    (Builtin.append_ #[t, t] ty #[.slice (some ⟨g, 0, none⟩) n cap, x]).run P w = .ok (.slice (some ⟨g, 0, none⟩) (n + m) cap) (w.setRow g (spl cur (n * i.size) cs).toArray) := by
  have hst := run_storeCells_at P g (n * i.size) e cs 0 cur.toArray w hg (by simpa using hfit) h1
  simp [Builtin.append_, run_underlying ht, Go.sizeOf, typeInfo, hi, hlen, hroom, hx, Addr.add_lit, hst, spl]
theorem zeroCells_length (z : Array Value) (n : Nat) : (Builtin.zeroCells z n).size = n * z.size := by simp [Builtin.zeroCells]
theorem zeroCells_one {z : Array Value} (h : ∀ v ∈ z, v.oneCell' = true) (n : Nat) : ∀ v ∈ (Builtin.zeroCells z n).toList, v.oneCell' = true := by
  intro v hv
  simp only [Builtin.zeroCells, Array.toList_map, List.mem_map, Array.mem_toList_iff, Array.mem_range] at hv
  obtain ⟨j, hj, rfl⟩ := hv
  have hz : 0 < z.size := by
    rcases Nat.eq_zero_or_pos z.size with h0 | h0
    · rw [h0] at hj; simp at hj
    · exact h0
  have hjm := Nat.mod_lt j hz
  rw [getElem!_pos z (j % z.size) hjm]
  exact h _ (Array.getElem_mem hjm)
theorem run_clear_blk (t e ty : TypeId) (z : Value) (ht : P.underlying t = some (.slice e)) (hv : ∀ w, (zeroValue e).run P w = .ok z w) (h1 : ∀ v ∈ z.cells, v.oneCell' = true) (g o n c : Nat) (cur : List Value)
    (hg : Blk w g e cur) (hn : 0 < n) (hfit : o + n * z.cells.size ≤ cur.length) :
    (Builtin.clear_ #[t] ty #[.slice (some ⟨g, o, none⟩) n c]).run P w = .ok (.tuple #[]) (w.setRow g (spl cur o (Builtin.zeroCells z.cells n).toList).toArray) := by
  have hst := run_storeCells_at P g o e (Builtin.zeroCells z.cells n).toList 0 cur.toArray w hg (by simpa [zeroCells_length] using hfit) (zeroCells_one h1 n)
  obtain ⟨m, rfl⟩ : ∃ m, n = m + 1 := ⟨n - 1, by omega⟩
  simp only [Builtin.clear_, Sem.run_bind, List.getElem?_toArray, List.getElem?_cons_zero, run_underlying ht, Result.andThen_ok, hv, hst]
  simp [spl]

/-- A builtin append, copy whose run is known, as a step of a region that draws and in a plain region. -/
theorem step_append_at {ops : Array Oper} {o : Oper} {a : Act} {K : Act → World → Prop} {Q : Exit → Act → World → Prop} {E : Prop}
    (hg : o.guard = none) (d x : Operand) (dT sT : TypeId) (hop : o.op = Op.call { callee := Callee.builtin Builtin.append, args := #[d, x], argTypes := #[dT, sT] })
    (v u : Value) (hd : a.eval d = v) (hx : a.eval x = u) {v' : Value} {w' : World} (hr : (Builtin.append_ #[dT, sT] o.type #[v, u]).run P w = .ok v' w') (hK : K (a.put o.dst v') w') :
    if Region.wanted o (yielded ops a.tmps) = true then Oper.wp P o a w K Q else E := by
  have hw : Region.wanted o (yielded ops a.tmps) = true := by simp [Region.wanted, hg]
  rw [if_pos hw]
  unfold Oper.wp
  simp [execOp, hop, resolve, invoke, builtin, hd, hx, hr, Result.andThen]
  exact hK
theorem step_copy_at {ops : Array Oper} {o : Oper} {a : Act} {K : Act → World → Prop} {Q : Exit → Act → World → Prop} {E : Prop}
    (hg : o.guard = none) (d x : Operand) (dT sT : TypeId) (hop : o.op = Op.call { callee := Callee.builtin Builtin.copy, args := #[d, x], argTypes := #[dT, sT] })
    (v u : Value) (hd : a.eval d = v) (hx : a.eval x = u) {v' : Value} {w' : World} (hr : (Builtin.copy_ #[dT, sT] o.type #[v, u]).run P w = .ok v' w') (hK : K (a.put o.dst v') w') :
    if Region.wanted o (yielded ops a.tmps) = true then Oper.wp P o a w K Q else E := by
  have hw : Region.wanted o (yielded ops a.tmps) = true := by simp [Region.wanted, hg]
  rw [if_pos hw]
  unfold Oper.wp
  simp [execOp, hop, resolve, invoke, builtin, hd, hx, hr, Result.andThen]
  exact hK
theorem wpList_copy_at {ops : Array Oper} {rest : List Oper} {o : Oper} {a : Act} {Q : Exit → Act → World → Prop} (hgd : o.guard = none) (d s : Operand) (t t' : TypeId)
    (ho : o.op = .call { callee := .builtin .copy, args := #[d, s], argTypes := #[t, t'] }) (v u : Value) (hd : a.eval d = v) (hs : a.eval s = u) {v' : Value} {w' : World}
    (hr : (Builtin.copy_ #[t, t'] o.type #[v, u]).run P w = .ok v' w') (h : wpList P ops Q rest (a.put o.dst v') w') : wpList P ops Q (o :: rest) a w :=
  wpList_plain hgd fun K hK => by
    unfold Oper.wp execOp
    simp only [ho, resolve, invoke, builtin, Sem.run_bind, Sem.run_pure, Result.andThen_ok, List.map_toArray, List.map_cons, List.map_nil, hd, hs, hr]
    exact hK _ _ h
end

theorem flat_take {α : Type} (enc : α → List Value) (k : Nat) (hk : ∀ x, (enc x).length = k) : ∀ (l : List α) (i : Nat), (l.flatMap enc).take (i * k) = (l.take i).flatMap enc
  | [], i => by simp
  | x :: l, 0 => by simp
  | x :: l, i + 1 => by
    rw [List.flatMap_cons, List.take_succ_cons, List.flatMap_cons, ← flat_take enc k hk l i, List.take_append, List.take_of_length_le (by rw [hk, Nat.add_mul]; omega), hk]
    congr 2
    rw [Nat.add_mul]; omega
theorem flat_drop {α : Type} (enc : α → List Value) (k : Nat) (hk : ∀ x, (enc x).length = k) : ∀ (l : List α) (i : Nat), (l.flatMap enc).drop (i * k) = (l.drop i).flatMap enc
  | [], i => by simp
  | x :: l, 0 => by simp
  | x :: l, i + 1 => by
    rw [List.flatMap_cons, List.drop_succ_cons, ← flat_drop enc k hk l i, List.drop_append, List.drop_of_length_le (by rw [hk, Nat.add_mul]; omega), hk, List.nil_append]
    congr 1
    rw [Nat.add_mul]; omega

section
variable {α : Type} {enc : α → List Value} {size : Nat} {e : TypeId} {w : World} {base : Nat} {v : Value} {l : List α}
theorem Own.row (h : Own enc size e w base v l) (hl : 0 < l.length) :
    ∃ g cap cur, v = .slice (some ⟨g, 0, none⟩) l.length cap ∧ base ≤ g ∧ Blk w g e cur ∧ l.length ≤ cap ∧ cap ≤ maxLen ∧ cur.length = cap * size ∧ cur.take (l.length * size) = l.flatMap enc := by
  rcases h.2 with ⟨_, h0⟩ | ⟨g, cap, cur, h1, h2, h3, h4, h5, h6, h7⟩
  · omega
  · exact ⟨g, cap, cur.toList, h1, h2, by unfold Blk; simpa using h3, h4, h5, by simpa using h6, h7⟩
theorem Own.of_row (hk : ∀ x, (enc x).length = size) {g cap : Nat} {cur : List Value} (hb : base ≤ g) (hg : Blk w g e cur) (h1 : l.length ≤ cap) (h2 : cap ≤ maxLen) (h3 : cur.length = cap * size) (h4 : cur.take (l.length * size) = l.flatMap enc) :
    Own enc size e w base (.slice (some ⟨g, 0, none⟩) l.length cap) l :=
  ⟨flat_length enc size hk l, .inr ⟨g, cap, cur.toArray, rfl, hb, hg, h1, h2, by simpa using h3, by simpa using h4⟩⟩
end

theorem flat_set {α : Type} (enc : α → List Value) (k : Nat) (hk : ∀ x, (enc x).length = k) {l : List α} {i j : Nat} (hi : i < l.length) (hj : j < k) {y : α} {u : Value} (hy : enc y = (enc l[i]).set j u) : (l.set i y).flatMap enc = (l.flatMap enc).set (i * k + j) u := by
  induction l generalizing i with
  | nil => simp at hi
  | cons x l ih =>
    cases i with
    | zero =>
      simp only [List.set_cons_zero, List.flatMap_cons, Nat.zero_mul, Nat.zero_add]
      simp only [List.getElem_cons_zero] at hy
      rw [hy, List.set_append_left _ _ (by rw [hk]; exact hj)]
    | succ i =>
      simp only [List.set_cons_succ, List.flatMap_cons]
      simp only [List.getElem_cons_succ] at hy
      rw [ih (by simpa using hi) hy, List.set_append_right _ _ (by rw [hk, Nat.add_mul]; omega), hk]
      congr 2
      rw [Nat.add_mul]; omega
theorem Own.store {α : Type} {enc : α → List Value} {size : Nat} {e : TypeId} {w : World} {base : Nat} {l : List α} {g n c : Nat} (h : Own enc size e w base (.slice (some ⟨g, 0, none⟩) n c) l) (hk : ∀ x, (enc x).length = size)
    {i j : Nat} (hi : i < l.length) (hj : j < size) {y : α} {u : Value} (hy : enc y = (enc l[i]).set j u) :
    Own enc size e (w.setCell ⟨g, i * size + j, none⟩ u) base (.slice (some ⟨g, 0, none⟩) n c) (l.set i y) ∧ w.grownBy (w.setCell ⟨g, i * size + j, none⟩ u) (some g) := by
  obtain ⟨A, c', hv⟩ := h.isSlice
  injection hv with h1 h2 h3
  subst h2
  obtain ⟨s1, s2⟩ := World.ownsRow.stored h (i * size + j) u
  refine ⟨?_, s2⟩
  unfold Own
  rw [List.length_set, flat_set enc size hk hi hj hy]
  exact s1
/-- The cells of a block that was just made. -/
theorem cells_new (w : World) (cs : Array Value) (e : TypeId) : ∀ j u, cs.toList[j]? = some u → (w.alloc (.cells cs e)).cell? ((⟨w.heap.size, 0, none⟩ : Addr).add j) = some u := fun j u hj => by
  rw [Addr.add_lit, Nat.zero_add]
  exact (Blk.new w e cs).cell hj
end Wh
namespace Wh

def rises (l : List Hold) : Prop := l.Pairwise fun a b => place a < place b
def fine (l : List Hold) : Prop := ∀ h ∈ l, holdFine h = true
/-- A key that a right hold may have. -/
def keyOk (o ln b : Int) : Prop := (0 ≤ o ∧ o ≤ 3) ∧ (0 ≤ ln ∧ ln ≤ 2) ∧ (0 ≤ b ∧ b ≤ 5)
theorem fine_iff {h : Hold} : holdFine h = true ↔ keyOk h.order h.line h.bin ∧ 1 ≤ h.n ∧ h.n ≤ 200 := by
  simp only [holdFine, Bool.and_eq_true, within_iff, keyOk]
  omega
theorem place_inj {a b : Hold} (ha : keyOk a.order a.line a.bin) (hb : keyOk b.order b.line b.bin) (h : place a = place b) : a.order = b.order ∧ a.line = b.line ∧ a.bin = b.bin := by
  unfold keyOk at ha hb
  unfold place at h
  omega
theorem place_congr {a b : Hold} (h : a.order = b.order ∧ a.line = b.line ∧ a.bin = b.bin) : place a = place b := by
  unfold place
  rw [h.1, h.2.1, h.2.2]

theorem hold_get {l : List Hold} {k : Nat} (hk : k < l.length) : hold l k = l[k] := by simp [hold, hk]
theorem holdsOk_iff {l : List Hold} : holdsOk l = true ↔ fine l ∧ rises l := by
  simp only [holdsOk, List.all_eq_true, List.mem_range, Bool.and_eq_true, Bool.or_eq_true, decide_eq_true_eq]
  constructor
  · intro h
    have hstep : ∀ k, k + 1 < l.length → place (hold l k) < place (hold l (k + 1)) := fun k hk => by
      rcases (h (k + 1) hk).2 with h1 | h1
      · omega
      · simpa using h1
    have hmono : ∀ d i, i + d + 1 < l.length → place (hold l i) < place (hold l (i + d + 1)) := by
      intro d
      induction d with
      | zero => exact fun i hi => hstep i (by omega)
      | succ d ih =>
        intro i hi
        have h1 := ih i (by omega)
        have h2 := hstep (i + d + 1) (by omega)
        rw [show i + (d + 1) + 1 = i + d + 1 + 1 by omega]
        omega
    refine ⟨fun x hx => ?_, ?_⟩
    · obtain ⟨k, hk, rfl⟩ := List.getElem_of_mem hx
      rw [← hold_get hk]
      exact (h k hk).1
    · refine List.pairwise_iff_getElem.2 fun i j hi hj hij => ?_
      have := hmono (j - i - 1) i (by omega)
      rw [show i + (j - i - 1) + 1 = j by omega, hold_get hi, hold_get hj] at this
      exact this
  · rintro ⟨h1, h2⟩ k hk
    refine ⟨by rw [hold_get hk]; exact h1 _ (List.getElem_mem hk), ?_⟩
    by_cases h0 : k = 0
    · exact .inl h0
    · refine .inr ?_
      rw [hold_get hk, hold_get (show k - 1 < l.length by omega)]
      exact List.pairwise_iff_getElem.1 h2 (k - 1) k (by omega) hk (by omega)

theorem sameKey_iff {o ln b : Int} {h : Hold} : sameKey o ln b h = true ↔ h.order = o ∧ h.line = ln ∧ h.bin = b := by
  simp [sameKey, and_assoc]
theorem keptAt_mem {l : List Hold} (_hf : fine l) (hr : rises l) {h : Hold} (hm : h ∈ l) : keptAt l h.order h.line h.bin = h.n := by
  unfold keptAt
  cases hx : l.find? (sameKey h.order h.line h.bin) with
  | none =>
    have := List.find?_eq_none.1 hx h hm
    simp [sameKey] at this
  | some x =>
    have h1 := sameKey_iff.1 (List.find?_some hx)
    have h2 := List.mem_of_find?_eq_some hx
    have h3 : place x = place h := place_congr h1
    have h4 : x = h := by
      obtain ⟨i, hi, rfl⟩ := List.getElem_of_mem h2
      obtain ⟨j, hj, rfl⟩ := List.getElem_of_mem hm
      rcases Nat.lt_trichotomy i j with h5 | rfl | h5
      · have := List.pairwise_iff_getElem.1 hr i j hi hj h5; omega
      · rfl
      · have := List.pairwise_iff_getElem.1 hr j i hj hi h5; omega
    rw [h4]
theorem keptAt_none {l : List Hold} {o ln b : Int} (h : ∀ x ∈ l, ¬ (x.order = o ∧ x.line = ln ∧ x.bin = b)) : keptAt l o ln b = 0 := by
  unfold keptAt
  cases hx : l.find? (sameKey o ln b) with
  | none => rfl
  | some x => exact absurd (sameKey_iff.1 (List.find?_some hx)) (h x (List.mem_of_find?_eq_some hx))
theorem keptAt_or {l : List Hold} (hf : fine l) (hr : rises l) (o ln b : Int) :
    (∃ h ∈ l, h.order = o ∧ h.line = ln ∧ h.bin = b ∧ keptAt l o ln b = h.n) ∨ ((∀ x ∈ l, ¬ (x.order = o ∧ x.line = ln ∧ x.bin = b)) ∧ keptAt l o ln b = 0) := by
  by_cases h : ∃ x ∈ l, x.order = o ∧ x.line = ln ∧ x.bin = b
  · obtain ⟨x, hx, rfl, rfl, rfl⟩ := h
    exact .inl ⟨x, hx, rfl, rfl, rfl, keptAt_mem hf hr hx⟩
  · refine .inr ⟨fun x hx he => h ⟨x, hx, he⟩, keptAt_none fun x hx he => h ⟨x, hx, he⟩⟩
theorem keptAt_range {l : List Hold} (hf : fine l) (hr : rises l) (o ln b : Int) : 0 ≤ keptAt l o ln b ∧ keptAt l o ln b ≤ 200 := by
  rcases keptAt_or hf hr o ln b with ⟨h, hm, _, _, _, he⟩ | ⟨_, he⟩
  · have := fine_iff.1 (hf h hm); omega
  · omega
theorem keptAt_key {l : List Hold} (hf : fine l) (hr : rises l) {o ln b : Int} (h : keptAt l o ln b ≠ 0) : keyOk o ln b ∧ ⟨o, ln, b, keptAt l o ln b⟩ ∈ l := by
  rcases keptAt_or hf hr o ln b with ⟨h', hm, rfl, rfl, rfl, he⟩ | ⟨_, he⟩
  · exact ⟨(fine_iff.1 (hf h' hm)).1, by rw [he]; exact hm⟩
  · exact absurd he h
theorem with_mem {l : List Hold} {h x : Hold} : x ∈ withHold l h ↔ (x ∈ l ∧ place x ≠ place h) ∨ (x = h ∧ h.n ≠ 0) := by
  unfold withHold
  simp only [List.mem_append, List.mem_filter, decide_eq_true_eq]
  by_cases h0 : h.n = 0
  · simp only [h0, ite_true, List.not_mem_nil, or_false, ne_eq, not_true_eq_false, and_false, or_false]
    constructor
    · rintro (⟨h1, h2⟩ | ⟨h1, h2⟩)
      · exact ⟨h1, by omega⟩
      · exact ⟨h1, by omega⟩
    · rintro ⟨h1, h2⟩
      rcases Int.lt_or_lt_of_ne h2 with h3 | h3
      · exact .inl ⟨h1, h3⟩
      · exact .inr ⟨h1, h3⟩
  · simp only [h0, ite_false, List.mem_singleton, ne_eq, not_false_eq_true, and_true]
    constructor
    · rintro ((⟨h1, h2⟩ | h1) | ⟨h1, h2⟩)
      · exact .inl ⟨h1, by omega⟩
      · exact .inr h1
      · exact .inl ⟨h1, by omega⟩
    · rintro (⟨h1, h2⟩ | h1)
      · rcases Int.lt_or_lt_of_ne h2 with h3 | h3
        · exact .inl (.inl ⟨h1, h3⟩)
        · exact .inr ⟨h1, h3⟩
      · exact .inl (.inr h1)
theorem with_rises {l : List Hold} {h : Hold} (hr : rises l) : rises (withHold l h) := by
  unfold withHold rises
  rw [List.pairwise_append, List.pairwise_append]
  refine ⟨⟨hr.filter _, ?_, ?_⟩, hr.filter _, ?_⟩
  · split <;> simp
  · intro a ha b hb
    simp only [List.mem_filter, decide_eq_true_eq] at ha
    split at hb
    · simp at hb
    · obtain rfl := List.mem_singleton.1 hb
      exact ha.2
  · intro a ha b hb
    simp only [List.mem_filter, decide_eq_true_eq] at hb
    rcases List.mem_append.1 ha with ha | ha
    · simp only [List.mem_filter, decide_eq_true_eq] at ha
      omega
    · split at ha
      · simp at ha
      · obtain rfl := List.mem_singleton.1 ha
        exact hb.2
theorem with_ok {l : List Hold} {h : Hold} (hl : holdsOk l = true) (hk : keyOk h.order h.line h.bin) (hn : 0 ≤ h.n ∧ h.n ≤ 200) : holdsOk (withHold l h) = true := by
  rw [holdsOk_iff] at hl ⊢
  refine ⟨fun x hx => ?_, with_rises hl.2⟩
  rcases with_mem.1 hx with ⟨h1, _⟩ | ⟨rfl, h1⟩
  · exact hl.1 x h1
  · exact fine_iff.2 ⟨hk, by omega, hn.2⟩
theorem keptAt_with {l : List Hold} {h : Hold} (hl : holdsOk l = true) (hk : keyOk h.order h.line h.bin) (hn : 0 ≤ h.n ∧ h.n ≤ 200) (o ln b : Int) :
    keptAt (withHold l h) o ln b = if h.order = o ∧ h.line = ln ∧ h.bin = b then h.n else keptAt l o ln b := by
  have hw := with_ok hl hk hn
  rw [holdsOk_iff] at hw hl
  split
  · rename_i he
    obtain ⟨rfl, rfl, rfl⟩ := he
    by_cases h0 : h.n = 0
    · rw [h0]
      refine keptAt_none fun x hx he => ?_
      rcases with_mem.1 hx with ⟨_, h2⟩ | ⟨_, h2⟩
      · exact h2 (place_congr he)
      · exact h2 h0
    · exact keptAt_mem hw.1 hw.2 (with_mem.2 (.inr ⟨rfl, h0⟩))
  · rename_i he
    rcases keptAt_or hl.1 hl.2 o ln b with ⟨x, hx, rfl, rfl, rfl, e⟩ | ⟨h1, e⟩
    · rw [e]
      refine keptAt_mem hw.1 hw.2 (with_mem.2 (.inl ⟨hx, fun hp => ?_⟩))
      have := place_inj (fine_iff.1 (hl.1 x hx)).1 hk hp
      exact he ⟨this.1.symm, this.2.1.symm, this.2.2.symm⟩
    · rw [e]
      refine keptAt_none fun x hx hxe => ?_
      rcases with_mem.1 hx with ⟨h2, _⟩ | ⟨rfl, _⟩
      · exact h1 x h2 hxe
      · exact he hxe

/-- How many all of a line have together: bin by bin. -/
theorem kept_bins {l : List Hold} (hl : holdsOk l = true) (o ln : Int) : kept l o ln = sumTo (fun b => keptAt l o ln b) 6 := by
  have key : ∀ l : List Hold, fine l → rises l → kept l o ln = sumTo (fun b => keptAt l o ln b) 6 := by
    intro l
    induction l with
    | nil => intro _ _; simp [kept, keptAt, sumTo]
    | cons x l ih =>
      intro hf hr
      have hf' : fine l := fun h hm => hf h (List.mem_cons_of_mem _ hm)
      have hr' := List.pairwise_cons.1 hr
      have ih' := ih hf' hr'.2
      have hx := fine_iff.1 (hf x (List.mem_cons_self ..))
      have hcons : ∀ b, keptAt (x :: l) o ln b = if x.order = o ∧ x.line = ln ∧ x.bin = b then x.n else keptAt l o ln b := by
        intro b
        unfold keptAt
        rw [List.find?_cons]
        by_cases hk : x.order = o ∧ x.line = ln ∧ x.bin = b
        · rw [if_pos hk, sameKey_iff.2 hk]
        · rw [if_neg hk, show sameKey o ln b x = false by rw [← Bool.not_eq_true, sameKey_iff]; exact hk]
      by_cases hs : x.order = o ∧ x.line = ln
      · have h0 : keptAt l o ln x.bin = 0 := keptAt_none fun y hy he => by
          have h1 := hr'.1 y hy
          rw [place_congr ⟨hs.1.trans he.1.symm, hs.2.trans he.2.1.symm, he.2.2.symm⟩] at h1
          omega
        have hk1 : kept (x :: l) o ln = kept l o ln + x.n := by
          unfold kept
          rw [List.filter_cons_of_pos (by simp [sameLine, hs.1, hs.2])]
          simp [Int.add_comm]
        rw [hk1, ih']
        refine (sumTo_one (f := fun b => keptAt l o ln b) (g := fun b => keptAt (x :: l) o ln b) (i := x.bin.toNat) (d := x.n) ?_ ?_ ?_).symm
        · have := hx.1.2.2; omega
        · intro b _ hb
          show keptAt (x :: l) o ln b = keptAt l o ln b
          rw [hcons, if_neg (by have := hx.1.2.2; omega)]
        · have hb := hx.1.2.2
          show keptAt (x :: l) o ln (x.bin.toNat : Int) = keptAt l o ln (x.bin.toNat : Int) + x.n
          rw [Int.toNat_of_nonneg hb.1, hcons, if_pos ⟨hs.1, hs.2, rfl⟩, h0]
          omega
      · have hk1 : kept (x :: l) o ln = kept l o ln := by
          unfold kept
          rw [List.filter_cons_of_neg (by simp [sameLine]; exact fun h => fun h' => hs ⟨h, h'⟩)]
        rw [hk1, ih']
        refine sumTo_congr fun b _ => ?_
        show _ = keptAt (x :: l) o ln b
        rw [hcons, if_neg (fun he => hs ⟨he.1, he.2.1⟩)]
  rw [holdsOk_iff] at hl
  exact key l hl.1 hl.2
theorem kept_with {l : List Hold} {h : Hold} (hl : holdsOk l = true) (hk : keyOk h.order h.line h.bin) (hn : 0 ≤ h.n ∧ h.n ≤ 200) (o ln : Int) :
    kept (withHold l h) o ln = kept l o ln + if h.order = o ∧ h.line = ln then h.n - keptAt l h.order h.line h.bin else 0 := by
  rw [kept_bins (with_ok hl hk hn), kept_bins hl]
  by_cases hs : h.order = o ∧ h.line = ln
  · rw [if_pos hs]
    obtain ⟨rfl, rfl⟩ := hs
    refine sumTo_one (i := h.bin.toNat) (by have := hk.2.2; omega) (fun b _ hb => ?_) ?_
    · show keptAt (withHold l h) _ _ _ = _
      rw [keptAt_with hl hk hn, if_neg (by have := hk.2.2; omega)]
    · show keptAt (withHold l h) _ _ _ = _
      rw [keptAt_with hl hk hn, if_pos ⟨rfl, rfl, by have := hk.2.2; omega⟩]
      rw [show ((h.bin.toNat : Nat) : Int) = h.bin by have := hk.2.2; omega]
      omega
  · rw [if_neg hs, Int.add_zero]
    refine sumTo_congr fun b _ => ?_
    show keptAt (withHold l h) _ _ _ = _
    rw [keptAt_with hl hk hn, if_neg (fun he => hs ⟨he.1, he.2.1⟩)]
theorem kept_range {l : List Hold} (hl : holdsOk l = true) (o ln : Int) : 0 ≤ kept l o ln ∧ kept l o ln ≤ 1200 := by
  rw [kept_bins hl]
  rw [holdsOk_iff] at hl
  have := sumTo_bounds (f := fun b => keptAt l o ln b) (n := 6) (m := 200) fun b _ => keptAt_range hl.1 hl.2 o ln b
  omega

end Wh
namespace Wh

def cmp3 (a b : Int) : Int := if a < b then -1 else if b < a then 1 else 0
def ord (a b : Hold) : Int :=
  if cmp3 a.order b.order ≠ 0 then cmp3 a.order b.order else if cmp3 a.line b.line ≠ 0 then cmp3 a.line b.line else cmp3 a.bin b.bin

theorem cmp3_cases (a b : Int) : (a < b ∧ cmp3 a b = -1) ∨ (b < a ∧ cmp3 a b = 1) ∨ (a = b ∧ cmp3 a b = 0) := by
  unfold cmp3
  rcases Int.lt_trichotomy a b with h | h | h
  · exact .inl ⟨h, if_pos h⟩
  · exact .inr (.inr ⟨h, by rw [if_neg (by omega), if_neg (by omega)]⟩)
  · exact .inr (.inl ⟨h, by rw [if_neg (by omega), if_pos h]⟩)
theorem ord_cases (a b : Hold) : (ord a b = -1 ∧ (a.order < b.order ∨ a.order = b.order ∧ (a.line < b.line ∨ a.line = b.line ∧ a.bin < b.bin))) ∨
    (ord a b = 1 ∧ (b.order < a.order ∨ a.order = b.order ∧ (b.line < a.line ∨ a.line = b.line ∧ b.bin < a.bin))) ∨ (ord a b = 0 ∧ a.order = b.order ∧ a.line = b.line ∧ a.bin = b.bin) := by
  unfold ord
  rcases cmp3_cases a.order b.order with ⟨h1, e1⟩ | ⟨h1, e1⟩ | ⟨h1, e1⟩ <;> rcases cmp3_cases a.line b.line with ⟨h2, e2⟩ | ⟨h2, e2⟩ | ⟨h2, e2⟩ <;>
    rcases cmp3_cases a.bin b.bin with ⟨h3, e3⟩ | ⟨h3, e3⟩ | ⟨h3, e3⟩ <;> simp only [e1, e2, e3] <;> simp <;> omega
theorem ord_neg {a b : Hold} : ord a b < 0 ↔ (a.order < b.order ∨ a.order = b.order ∧ (a.line < b.line ∨ a.line = b.line ∧ a.bin < b.bin)) := by
  rcases ord_cases a b with ⟨h, h'⟩ | ⟨h, h'⟩ | ⟨h, h'⟩ <;> rw [h] <;> omega
theorem ord_zero {a b : Hold} : ord a b = 0 ↔ (a.order = b.order ∧ a.line = b.line ∧ a.bin = b.bin) := by
  rcases ord_cases a b with ⟨h, h'⟩ | ⟨h, h'⟩ | ⟨h, h'⟩ <;> rw [h] <;> omega
theorem ord_place {a b : Hold} (ha : keyOk a.order a.line a.bin) (hb : keyOk b.order b.line b.bin) : ord a b < 0 ↔ place a < place b := by
  rw [ord_neg]
  unfold keyOk at ha hb
  unfold place
  omega
theorem ord_place0 {a b : Hold} (ha : keyOk a.order a.line a.bin) (hb : keyOk b.order b.line b.bin) : ord a b = 0 ↔ place a = place b := by
  rw [ord_zero]
  unfold keyOk at ha hb
  unfold place
  omega

/-- How many stand ahead of it. -/
def pos (l : List Hold) (h : Hold) : Nat := (l.takeWhile fun x => decide (ord x h < 0)).length
def found (l : List Hold) (h : Hold) : Bool := decide (pos l h < l.length) && decide (ord (hold l (pos l h)) h = 0)

theorem takeWhile_length {α : Type} (p : α → Bool) : ∀ (l : List α) (k : Nat), k ≤ l.length → (∀ i (hi : i < l.length), i < k → p l[i] = true) → (∀ (hk : k < l.length), p l[k] = false) → (l.takeWhile p).length = k
  | [], k, hk, _, _ => by simp at hk; simp [hk]
  | x :: l, 0, _, _, h2 => by
    have := h2 (by simp)
    simp at this
    simp [this]
  | x :: l, k + 1, hk, h1, h2 => by
    have h0 := h1 0 (by simp) (by omega)
    simp at h0
    rw [List.takeWhile_cons, h0, if_pos rfl, List.length_cons, takeWhile_length p l k (by simpa using hk) (fun i hi hik => h1 (i + 1) (by simpa using hi) (by omega)) (fun hk' => h2 (by simpa using hk'))]
theorem takeWhile_spec {α : Type} (p : α → Bool) : ∀ (l : List α), (l.takeWhile p).length ≤ l.length ∧ (∀ i (hi : i < l.length), i < (l.takeWhile p).length → p l[i] = true) ∧ ∀ (hk : (l.takeWhile p).length < l.length), p l[(l.takeWhile p).length] = false
  | [] => by simp
  | x :: l => by
    obtain ⟨h1, h2, h3⟩ := takeWhile_spec p l
    by_cases hx : p x = true
    · have e : (x :: l).takeWhile p = x :: l.takeWhile p := by rw [List.takeWhile_cons, if_pos hx]
      rw [e]
      refine ⟨by simpa using h1, fun i hi hik => ?_, fun hk => ?_⟩
      · cases i with
        | zero => simpa using hx
        | succ i => simpa using h2 i (by simpa using hi) (by simpa using hik)
      · have := h3 (by simpa using hk)
        simpa using this
    · have e : (x :: l).takeWhile p = [] := by rw [List.takeWhile_cons, if_neg hx]
      rw [e]
      exact ⟨by simp, fun i hi hik => by simp at hik, fun hk => by simpa using hx⟩
theorem pos_eq {l : List Hold} {h : Hold} {k : Nat} (hk : k ≤ l.length) (h1 : ∀ i, i < k → ord (hold l i) h < 0) (h2 : k < l.length → 0 ≤ ord (hold l k) h) : pos l h = k :=
  takeWhile_length _ l k hk (fun i hi hik => by have := h1 i hik; rw [hold_get hi] at this; simpa using this) (fun hk' => by have := h2 hk'; rw [hold_get hk'] at this; simpa using this)
theorem pos_spec (l : List Hold) (h : Hold) : pos l h ≤ l.length ∧ (∀ i, i < pos l h → ord (hold l i) h < 0) ∧ (pos l h < l.length → 0 ≤ ord (hold l (pos l h)) h) := by
  obtain ⟨h1, h2, h3⟩ := takeWhile_spec (fun x => decide (ord x h < 0)) l
  refine ⟨h1, fun i hi => ?_, fun hk => ?_⟩
  · have := h2 i (Nat.lt_of_lt_of_le hi h1) hi
    rw [hold_get (Nat.lt_of_lt_of_le hi h1)]
    simpa using this
  · have := h3 hk
    rw [hold_get hk]
    exact Int.not_lt.1 (of_decide_eq_false this)

theorem ok_at {l : List Hold} (h : holdsOk l = true) {i : Nat} (hi : i < l.length) : holdFine (hold l i) = true := by
  rw [hold_get hi]
  exact (holdsOk_iff.1 h).1 _ (List.getElem_mem hi)
theorem ok_key {l : List Hold} (h : holdsOk l = true) {i : Nat} (hi : i < l.length) : keyOk (hold l i).order (hold l i).line (hold l i).bin := (fine_iff.1 (ok_at h hi)).1
theorem ok_n {l : List Hold} (h : holdsOk l = true) {i : Nat} (hi : i < l.length) : 1 ≤ (hold l i).n ∧ (hold l i).n ≤ 200 := (fine_iff.1 (ok_at h hi)).2
theorem ok_lt {l : List Hold} (h : holdsOk l = true) {i j : Nat} (hij : i < j) (hj : j < l.length) : ord (hold l i) (hold l j) < 0 := by
  rw [ord_place (ok_key h (by omega)) (ok_key h hj), hold_get hj, hold_get (show i < l.length by omega)]
  exact List.pairwise_iff_getElem.1 (holdsOk_iff.1 h).2 i j (by omega) hj hij
theorem ord_trans {a b c : Hold} (h1 : ord a b < 0) (h2 : ord b c ≤ 0) : ord a c < 0 := by
  rw [ord_neg] at *
  rcases ord_cases b c with ⟨h, h'⟩ | ⟨h, h'⟩ | ⟨h, h'⟩ <;> omega
/-- The search's order: what stands ahead of one that is less is less. -/
theorem ok_less {l : List Hold} (h : holdsOk l = true) {x : Hold} {i j : Nat} (hij : i ≤ j) (hj : j < l.length) (hx : ord (hold l j) x < 0) : ord (hold l i) x < 0 := by
  rcases Nat.lt_or_eq_of_le hij with h1 | rfl
  · exact ord_trans (ok_lt h h1 hj) (by omega)
  · exact hx

theorem found_iff {l : List Hold} {h : Hold} : found l h = true ↔ pos l h < l.length ∧ ord (hold l (pos l h)) h = 0 := by
  unfold found
  simp
theorem found_kept {l : List Hold} (hl : holdsOk l = true) {h : Hold} (hf : found l h = true) : keptAt l h.order h.line h.bin = (hold l (pos l h)).n := by
  obtain ⟨h1, h2⟩ := found_iff.1 hf
  obtain ⟨e1, e2, e3⟩ := ord_zero.1 h2
  obtain ⟨g1, g2⟩ := holdsOk_iff.1 hl
  rw [← e1, ← e2, ← e3]
  exact keptAt_mem g1 g2 (by rw [hold_get h1]; exact List.getElem_mem h1)
theorem notFound_kept {l : List Hold} (hl : holdsOk l = true) {h : Hold} (hf : found l h = false) : keptAt l h.order h.line h.bin = 0 := by
  refine keptAt_none fun x hx hk => ?_
  obtain ⟨i, hi, rfl⟩ := List.getElem_of_mem hx
  have h0 : ord (hold l i) h = 0 := by rw [hold_get hi]; exact ord_zero.2 hk
  obtain ⟨p1, p2, p3⟩ := pos_spec l h
  have hip : pos l h ≤ i := Nat.le_of_not_lt fun hn => by have := p2 i hn; omega
  have hp : pos l h = i := by
    rcases Nat.lt_or_eq_of_le hip with h1 | h1
    · have := ord_trans (ok_lt hl h1 hi) (by omega : ord (hold l i) h ≤ 0)
      have := p3 (by omega)
      omega
    · exact h1
  have : found l h = true := found_iff.2 ⟨by omega, by rw [hp]; exact h0⟩
  rw [hf] at this
  cases this

/-- What withHold comes to, by the place where it stands. -/
theorem filter_lt {l : List Hold} (hl : holdsOk l = true) {h : Hold} (hk : keyOk h.order h.line h.bin) : l.filter (fun x => decide (place x < place h)) = l.take (pos l h) := by
  obtain ⟨p1, p2, p3⟩ := pos_spec l h
  have key : ∀ i (hi : i < l.length), (place l[i] < place h ↔ i < pos l h) := fun i hi => by
    have hki := ok_key hl hi
    rw [hold_get hi] at hki
    rw [← ord_place hki hk, ← hold_get hi]
    constructor
    · intro hlt
      exact Nat.lt_of_not_le fun hn => by have := ok_less hl hn hi hlt; have := p3 (by omega); omega
    · exact p2 i
  conv => lhs; rw [← List.take_append_drop (pos l h) l]
  rw [List.filter_append, List.filter_eq_self.2, List.filter_eq_nil_iff.2, List.append_nil]
  · intro x hx
    obtain ⟨i, hi, rfl⟩ := List.getElem_of_mem hx
    rw [List.getElem_drop]
    rw [List.length_drop] at hi
    simp only [decide_eq_true_eq]
    intro hc
    have := (key (pos l h + i) (by omega)).1 hc
    omega
  · intro x hx
    obtain ⟨i, hi, rfl⟩ := List.getElem_of_mem hx
    rw [List.getElem_take]
    rw [List.length_take] at hi
    simp only [decide_eq_true_eq]
    exact (key i (by omega)).2 (by omega)
theorem filter_gt {l : List Hold} (hl : holdsOk l = true) {h : Hold} (hk : keyOk h.order h.line h.bin) :
    l.filter (fun x => decide (place h < place x)) = l.drop (if found l h then pos l h + 1 else pos l h) := by
  obtain ⟨p1, p2, p3⟩ := pos_spec l h
  have key : ∀ i (hi : i < l.length), (place h < place l[i] ↔ (if found l h then pos l h + 1 else pos l h) ≤ i) := fun i hi => by
    have hki := ok_key hl hi
    have a1 := ord_place hki hk
    have a2 := ord_place0 hki hk
    rw [← hold_get hi]
    have e : place h < place (hold l i) ↔ 0 < ord (hold l i) h := by omega
    rw [e]
    constructor
    · intro hlt
      have hge : pos l h ≤ i := Nat.le_of_not_lt fun hn => by have := p2 i hn; omega
      split
      · rename_i hf
        obtain ⟨f1, f2⟩ := found_iff.1 hf
        rcases Nat.lt_or_eq_of_le hge with h1 | h1
        · omega
        · rw [← h1] at hlt; omega
      · exact hge
    · intro hge
      split at hge
      · rename_i hf
        obtain ⟨f1, f2⟩ := found_iff.1 hf
        have h1 := ok_lt hl (show pos l h < i by omega) hi
        rw [ord_zero] at f2
        rw [ord_neg] at h1
        rcases ord_cases (hold l i) h with ⟨h, h'⟩ | ⟨h, h'⟩ | ⟨h, h'⟩ <;> omega
      · rename_i hf
        have hp3 := p3 (by omega)
        have hnz : ord (hold l (pos l h)) h ≠ 0 := fun h0 => hf (found_iff.2 ⟨by omega, h0⟩)
        rcases Nat.lt_or_eq_of_le hge with h1 | h1
        · have h2 := ok_lt hl h1 hi
          rw [ord_neg] at h2
          rcases ord_cases (hold l (pos l h)) h with ⟨q, q'⟩ | ⟨q, q'⟩ | ⟨q, q'⟩ <;> rcases ord_cases (hold l i) h with ⟨g, g'⟩ | ⟨g, g'⟩ | ⟨g, g'⟩ <;> omega
        · rw [← h1]; omega
  generalize (if found l h then pos l h + 1 else pos l h) = q at key ⊢
  conv => lhs; rw [← List.take_append_drop q l]
  rw [List.filter_append, List.filter_eq_nil_iff.2, List.filter_eq_self.2, List.nil_append]
  · intro x hx
    obtain ⟨i, hi, rfl⟩ := List.getElem_of_mem hx
    rw [List.getElem_drop]
    rw [List.length_drop] at hi
    simp only [decide_eq_true_eq]
    exact (key (q + i) (by omega)).2 (by omega)
  · intro x hx
    obtain ⟨i, hi, rfl⟩ := List.getElem_of_mem hx
    rw [List.getElem_take]
    rw [List.length_take] at hi
    simp only [decide_eq_true_eq]
    intro hc
    have := (key i (by omega)).1 hc
    omega
theorem with_new {l : List Hold} (hl : holdsOk l = true) {h : Hold} (hk : keyOk h.order h.line h.bin) (hn : h.n ≠ 0) (hf : found l h = false) : withHold l h = l.take (pos l h) ++ h :: l.drop (pos l h) := by
  unfold withHold
  rw [filter_lt hl hk, filter_gt hl hk, hf, if_neg hn]
  simp
theorem pos_n (l : List Hold) (h : Hold) (n : Int) : pos l { h with n := n } = pos l h := rfl
theorem found_n (l : List Hold) (h : Hold) (n : Int) : found l { h with n := n } = found l h := rfl
theorem with_more {l : List Hold} (hl : holdsOk l = true) {h : Hold} (hk : keyOk h.order h.line h.bin) (hn : h.n ≠ 0) (hf : found l h = true) : withHold l h = l.set (pos l h) h := by
  unfold withHold
  obtain ⟨f1, f2⟩ := found_iff.1 hf
  rw [filter_lt hl hk, filter_gt hl hk, hf, if_neg hn, List.set_eq_take_append_cons_drop, if_pos f1]
  simp
theorem with_less {l : List Hold} (hl : holdsOk l = true) {h : Hold} (hk : keyOk h.order h.line h.bin) (hn : h.n = 0) (hf : found l h = true) : withHold l h = l.eraseIdx (pos l h) := by
  unfold withHold
  rw [filter_lt hl hk, filter_gt hl hk, hf, if_pos hn, List.eraseIdx_eq_take_drop_succ]
  simp
theorem found_key {l : List Hold} (hl : holdsOk l = true) {h : Hold} (hf : found l h = true) : keyOk h.order h.line h.bin := by
  obtain ⟨f1, f2⟩ := found_iff.1 hf
  obtain ⟨e1, e2, e3⟩ := ord_zero.1 f2
  rw [← e1, ← e2, ← e3]
  exact ok_key hl f1
end Wh
