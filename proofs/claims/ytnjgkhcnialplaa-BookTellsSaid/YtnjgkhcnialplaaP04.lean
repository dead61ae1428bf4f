/- Texts of the claim, joined: Own. -/
import Derived.Test.YtnjgkhcnialplaaP02
import Derived.Test.YtnjgkhcnialplaaP03
namespace Wh
open Go Go.RowKit

section
variable {P : Program} (w : World)
theorem run_append_nil (base : Nat) (t ty e : TypeId) (i : TypeInfo) (size : Nat) (ht : P.underlying t = some (.slice e)) (hi : P.info? e = some i)
    (v : Value) (n : Nat) (xs : List Value) (hown : w.ownsRow base e size v n xs) (c : Nat) : (Builtin.append_ #[t, t] ty #[v, .slice none 0 c]).run P w = .ok v w := by
  rcases hown.2 with ⟨rfl, rfl⟩ | ⟨g, cap, cur, rfl, _, _, hnc, _⟩
  · simp [Builtin.append_, run_underlying ht, Go.sizeOf, typeInfo, hi, Builtin.lenOf, Builtin.firstCells]
  · simp [Builtin.append_, run_underlying ht, Go.sizeOf, typeInfo, hi, Builtin.lenOf, Builtin.firstCells, hnc, storeCells]

/-- 'v = append(v, xs...)': whatever slice xs is. -/
theorem wpList_all {α : Type} {enc : α → List Value} {ops : Array Oper} {rest : List Oper} {o : Oper} {a : Go.Act} {Q : Exit → Go.Act → World → Prop} (hgd : o.guard = none) (s x : Operand) (t e : TypeId)
    (ho : o.op = .call { callee := .builtin .append, args := #[s, x], argTypes := #[t, t] }) (base : Nat) (z : Value) (size bytes : Nat) (ht : P.underlying t = some (.slice e)) (hi : Elem P e z size bytes)
    (hzs : z.cells.size = size) (hsz : 0 < size) (hby : bytes ≤ 64) (v : Value) (l m : List α) (hs : a.eval s = v) (hown : Own enc size e w base v l)
    (A : Option Addr) (c B : Nat) (hx : a.eval x = .slice A m.length c) (hk : ∀ y, (enc y).length = size) (hA : At w B A (m.flatMap enc)) (h1 : ∀ y, ∀ u ∈ enc y, u.oneCell' = true)
    (hn : l.length + m.length ≤ 1000000) (hbase : base ≤ w.heap.size)
    (h : ∀ v' w', Own enc size e w' base v' (l ++ m) → w.grownBy w' v.ownBlock → (v'.ownBlock = v.ownBlock ∨ v'.ownBlock = some w.heap.size) → Below base w w' → wpList P ops Q rest (a.put o.dst v') w') :
    wpList P ops Q (o :: rest) a w := by
  obtain ⟨i, hi, hz, hsize, hbytes⟩ := hi
  have hb : (l.length + m.length) * bytes ≤ 140737488355328 := Nat.le_trans (Nat.mul_le_mul hn hby) (by decide)
  have hsplit : (A = none ∧ m.length = 0) ∨ ∃ ad : Addr, A = some ad ∧ ∀ j u, (m.flatMap enc)[j]? = some u → w.cell? (ad.add j) = some u := by
    rcases Nat.eq_zero_or_pos m.length with h0 | h0
    · obtain rfl : m = [] := List.eq_nil_of_length_eq_zero h0
      cases A with
      | none => exact .inl ⟨rfl, rfl⟩
      | some ad => exact .inr ⟨ad, rfl, by simp⟩
    · have hp : 0 < (m.flatMap enc).length := by rw [flat_length enc size hk]; exact Nat.mul_pos h0 hsz
      have he := (hA.ok hp).eq
      refine .inr ⟨_, he, fun j u hj => ?_⟩
      rw [Addr.add_lit]
      exact hA.cell hj
  rcases hsplit with ⟨rfl, h0⟩ | ⟨ad, rfl, hcells⟩
  · obtain rfl : m = [] := List.eq_nil_of_length_eq_zero h0
    refine wpList_plain hgd fun K hK => ?_
    have hr := run_append_nil (P := P) w base t o.type e i size ht hi v l.length _ hown c
    unfold Oper.wp execOp
    simp only [List.length_nil] at hx
    simp only [ho, resolve, invoke, builtin, Sem.run_bind, Sem.run_pure, Result.andThen_ok, List.map_toArray, List.map_cons, List.map_nil, hs, hx, hr]
    exact hK _ _ (h v w (by rw [List.append_nil]; exact hown) (World.grownBy.refl w _) (.inl rfl) (Below.refl _ _))
  · refine wpList_append_own_at w hgd s x t ho base e i z size bytes ht hi hz hsize hbytes hzs hsz v l.length _ hs hown ad m.length c (m.flatMap enc) hx (flat_length enc size hk m) hcells
      (fun u hu => by obtain ⟨y, _, hy⟩ := List.mem_flatMap.1 hu; exact h1 y u hy) (by unfold maxLen; omega) hb hbase ?_
    intro v' w' h2 h3 _ h5
    refine h v' w' ?_ h3 h5 ((Below.refl _ _).grown h3 hbase fun k hk => (World.ownsRow.lt hown k hk).1)
    unfold Own
    rw [List.length_append, List.flatMap_append]
    exact h2
end

section
variable {α : Type} {enc : α → List Value} {size : Nat} {e : TypeId} {w w' : World} {base : Nat} {v : Value} {l : List α}
/-- An empty row, made by a literal. -/
theorem Own.made0 (w : World) (e : TypeId) (hb : base ≤ w.heap.size) : Own enc size e (w.alloc (.cells #[] e)) base (.slice (some ⟨w.heap.size, 0, none⟩) 0 0) [] :=
  World.ownsRow_made w #[] 0 hb (Nat.zero_le _) (by simp)
/-- A row that a literal makes. -/
theorem Own.lit (w : World) (e : TypeId) (cs : Array Value) (l : List α) (hb : base ≤ w.heap.size) (hm : l.length ≤ 1000000) (hk : ∀ x, (enc x).length = size) (hc : cs.toList = l.flatMap enc) :
    Own enc size e (w.alloc (.cells cs e)) base (.slice (some ⟨w.heap.size, 0, none⟩) l.length l.length) l := by
  have hs : cs.size = l.length * size := by rw [← Array.length_toList, hc, flat_length enc size hk]
  have := World.ownsRow_lit (e := e) w cs l.length hb (by unfold maxLen; omega) hs
  rw [hc] at this
  exact this
theorem Own.kept {row : Option Nat} (h : Own enc size e w base v l) (hg : w.grownBy w' row) (hne : v.ownBlock = none ∨ v.ownBlock ≠ row) : Own enc size e w' base v l := World.ownsRow.kept h hg hne
/-- The block in which it lies, its cells and their type. -/
theorem Own.block (h : Own enc size e w base v l) {g : Nat} (hg : v.ownBlock = some g) : ∃ cur, w.heap[g]? = some (.cells cur e (0, 0)) := by
  rcases h.2 with ⟨rfl, _⟩ | ⟨g', cap, cur, rfl, _, hh, _⟩
  · simp [Value.ownBlock] at hg
  · simp [Value.ownBlock] at hg
    subst hg
    exact ⟨cur, hh⟩
theorem Own.some_ (h : Own enc size e w base v l) (hl : 0 < l.length) : ∃ g c, v = .slice (some ⟨g, 0, none⟩) l.length c ∧ base ≤ g ∧ g < w.heap.size := by
  rcases h.2 with ⟨_, h0⟩ | ⟨g, cap, cur, h1, h2, h3, _⟩
  · omega
  · exact ⟨g, cap, h1, h2, (Array.getElem?_eq_some_iff.1 h3).1⟩
/-- Rows whose elements differ in type never share a block. -/
theorem Own.apart {β : Type} {enc' : β → List Value} {size' : Nat} {e' : TypeId} {base' : Nat} {v' : Value} {l' : List β} (h : Own enc size e w base v l) (h' : Own enc' size' e' w base' v' l') (hne : e ≠ e') :
    v.ownBlock = none ∨ v.ownBlock ≠ v'.ownBlock := by
  cases hv : v.ownBlock with
  | none => exact .inl rfl
  | some g =>
    refine .inr fun he => ?_
    obtain ⟨c1, h1⟩ := h.block hv
    obtain ⟨c2, h2⟩ := h'.block he.symm
    rw [h1] at h2
    injection h2 with h2
    injection h2 with _ h3
    exact hne h3
end

/-- Rows of numbers of the call's own: the outer row's elements have type E2, the numbers E1; gs: the rows' blocks. -/
def OwnOnV (E2 E1 : TypeId) (w : World) (base : Nat) (v : Value) (l : List (List Int)) (gs : List Nat) (vs : List Value) : Prop :=
  Own (fun u : Value => [u]) 1 E2 w base v vs ∧ vs.length = l.length ∧ gs.length = l.length ∧ gs.Nodup ∧
    ∀ (i : Nat) (x : List Int), l[i]? = some x → ∃ g c, vs[i]? = some (.slice (some ⟨g, 0, none⟩) x.length c) ∧ gs[i]? = some g ∧ Own cInt 1 E1 w base (.slice (some ⟨g, 0, none⟩) x.length c) x
def OwnOn (E2 E1 : TypeId) (w : World) (base : Nat) (v : Value) (l : List (List Int)) (gs : List Nat) : Prop := ∃ vs, OwnOnV E2 E1 w base v l gs vs

section
variable {E2 E1 : TypeId} {w w' : World} {base : Nat} {v : Value} {l : List (List Int)} {gs : List Nat}
theorem OwnOn.nil : OwnOn E2 E1 w base (.slice none 0 0) [] [] := ⟨[], Own.nil, rfl, rfl, List.nodup_nil, fun i x h => by simp at h⟩
theorem OwnOn.below (h : OwnOn E2 E1 w base v l gs) (hb : Below w.heap.size w w') : OwnOn E2 E1 w' base v l gs :=
  let ⟨vs, h1, h2, h3, h4, h5⟩ := h
  ⟨vs, h1.below hb, h2, h3, h4, fun i x hi => let ⟨g, c, e1, e2, e3⟩ := h5 i x hi; ⟨g, c, e1, e2, e3.below hb⟩⟩
theorem OwnOn.from_ {base' : Nat} (h : OwnOn E2 E1 w base v l gs) (hb : base' ≤ base) : OwnOn E2 E1 w base' v l gs :=
  let ⟨vs, h1, h2, h3, h4, h5⟩ := h
  ⟨vs, h1.from_ hb, h2, h3, h4, fun i x hi => let ⟨g, c, e1, e2, e3⟩ := h5 i x hi; ⟨g, c, e1, e2, e3.from_ hb⟩⟩
theorem OwnOn.drew (h : OwnOn E2 E1 w base v l gs) : OwnOn E2 E1 w.drew base v l gs := h
theorem OwnOn.mem (h : OwnOn E2 E1 w base v l gs) {g : Nat} (hg : g ∈ gs) : base ≤ g ∧ g < w.heap.size := by
  obtain ⟨vs, h1, h2, h3, h4, h5⟩ := h
  obtain ⟨i, hi, rfl⟩ := List.getElem_of_mem hg
  obtain ⟨g, c, e1, e2, e3⟩ := h5 i l[i] (by simp [← h3, hi])
  rw [List.getElem?_eq_getElem hi] at e2
  injection e2 with e2
  rw [e2]
  exact e3.size g rfl
theorem OwnOn.slsl (h : OwnOn E2 E1 w base v l gs) (hn : l.length ≤ 1000000) (hr : ∀ x ∈ l, x.length ≤ 1000000) : SlSl cInt w w.heap.size v l := by
  obtain ⟨vs, h1, h2, h3, h4, h5⟩ := h
  obtain ⟨A, c, hv, _, hA⟩ := h1.sl (by omega)
  refine ⟨A, c, vs, by rw [hv, h2], by omega, h2, ?_, fun i x hi => ?_⟩
  · have : vs.flatMap (fun u => [u]) = vs := by simp
    rw [this] at hA
    exact hA
  · obtain ⟨g, c, e1, e2, e3⟩ := h5 i x hi
    exact ⟨_, e1, e3.sl (by have := hr x (List.mem_of_getElem? hi); omega)⟩
/-- One row more. -/
theorem OwnOnV.push (hE : E1 ≠ E2) {vs : List Value} (h : OwnOnV E2 E1 w base v l gs vs) {w1 w2 : World} {v' : Value} {x : List Int} {g c : Nat} (hw : Below w.heap.size w w1) (hg : w.heap.size ≤ g)
    (hu : Own cInt 1 E1 w1 base (.slice (some ⟨g, 0, none⟩) x.length c) x) (hgrow : w1.grownBy w2 v.ownBlock)
    (hown : Own (fun u : Value => [u]) 1 E2 w2 base v' (vs ++ [.slice (some ⟨g, 0, none⟩) x.length c])) :
    OwnOn E2 E1 w2 base v' (l ++ [x]) (gs ++ [g]) := by
  have hmem := fun g' (hg' : g' ∈ gs) => OwnOn.mem ⟨vs, h⟩ hg'
  obtain ⟨h1, h2, h3, h4, h5⟩ := h
  have keep : ∀ {y : List Int} {g' c' : Nat}, Own cInt 1 E1 w1 base (.slice (some ⟨g', 0, none⟩) y.length c') y → Own cInt 1 E1 w2 base (.slice (some ⟨g', 0, none⟩) y.length c') y :=
    fun hy => hy.kept hgrow (Own.apart hy (h1.below hw) hE)
  refine ⟨_, hown, by simp [h2], by simp [h3], ?_, fun i y hi => ?_⟩
  · rw [List.nodup_append]
    refine ⟨h4, by simp, fun a ha b hb => ?_⟩
    obtain rfl := List.mem_singleton.1 hb
    have := (hmem a ha).2
    omega
  · by_cases hlt : i < l.length
    · rw [List.getElem?_append_left hlt] at hi
      obtain ⟨g', c', e1, e2, e3⟩ := h5 i y hi
      exact ⟨g', c', by rw [List.getElem?_append_left (by omega)]; exact e1, by rw [List.getElem?_append_left (by omega)]; exact e2, keep (e3.below hw)⟩
    · rw [List.getElem?_append_right (by omega)] at hi
      have hi0 : i - l.length = 0 := by
        rcases Nat.eq_zero_or_pos (i - l.length) with h0 | h0
        · exact h0
        · rw [List.getElem?_eq_none (by simp; omega)] at hi; simp at hi
      rw [hi0] at hi
      simp at hi
      subst hi
      exact ⟨g, c, by rw [List.getElem?_append_right (by omega)]; simp [h2, hi0], by rw [List.getElem?_append_right (by omega)]; simp [h3, hi0], keep hu⟩
/-- A number's cell: where it lies, and what comes of a store. -/
theorem OwnOn.open_ (h : OwnOn E2 E1 w base v l gs) {b k : Nat} (hb : b < l.length) (hk : k < (rowAt l b).length) (hE : E1 ≠ E2) :
    ∃ go co g c, v = .slice (some ⟨go, 0, none⟩) l.length co ∧ w.cell? ⟨go, b, none⟩ = some (.slice (some ⟨g, 0, none⟩) (rowAt l b).length c) ∧ w.cell? ⟨g, k, none⟩ = some (.int .i64 (cell l b k)) ∧
      w.frozen? ⟨g, k, none⟩ = false ∧ base ≤ g ∧ g < w.heap.size ∧ base ≤ go ∧ go < w.heap.size ∧ go ≠ g ∧ g ∈ gs ∧ ∀ n : Int, OwnOn E2 E1 (w.setCell ⟨g, k, none⟩ (.int .i64 n)) base v (setCell l b k n) gs := by
  have h' := h
  obtain ⟨vs, h1, h2, h3, h4, h5⟩ := h
  have hb' : b < vs.length := by omega
  obtain ⟨g, c, e1, e2, e3⟩ := h5 b l[b] (by simp [hb])
  have hrow : rowAt l b = l[b] := rowAt_eq hb
  rw [hrow] at hk ⊢
  rcases h1.2 with ⟨rfl, h0⟩ | ⟨go, co, cur, rfl, hbo, hgo, hnc, hcm, hcs, htake⟩
  · omega
  have hgl := e3.size g rfl
  have hcell : w.cell? ⟨go, b, none⟩ = some (.slice (some ⟨g, 0, none⟩) l[b].length c) := by
    have := World.ownsRow.cellAt h1 b (by omega)
    rw [this]
    simpa using e1
  have hne : go ≠ g := by
    have := Own.apart e3 h1 hE
    rcases this with h6 | h6
    · simp [Value.ownBlock] at h6
    · simpa [Value.ownBlock, eq_comm] using h6
  have hx : l[b].flatMap cInt = l[b].map (Value.int .i64) := by
    induction l[b] with
    | nil => rfl
    | cons y r ih => simp [cInt, ih]
  have hc2 : w.cell? ⟨g, k, none⟩ = some (.int .i64 (cell l b k)) := by
    rw [World.ownsRow.cellAt e3 k (by omega), hx]
    unfold cell
    rw [hrow, intAt_eq hk]
    simp [hk]
  refine ⟨go, co, g, c, by rw [h2], hcell, hc2, World.ownsRow.frozenAt e3 k, hgl.1, hgl.2, hbo, (Array.getElem?_eq_some_iff.1 hgo).1, hne, List.mem_of_getElem? e2, fun n => ?_⟩
  obtain ⟨s1, s2⟩ := World.ownsRow.stored e3 k (.int .i64 n)
  refine ⟨vs, h1.kept s2 (by right; simpa [Value.ownBlock] using hne), by rw [length_setCell]; exact h2, by rw [length_setCell]; exact h3, h4, fun i y hi => ?_⟩
  by_cases hib : i = b
  · subst hib
    have hy : y = l[i].set k n := by
      unfold setCell at hi
      rw [hrow, List.getElem?_set_self hb] at hi
      injection hi with hi
      exact hi.symm
    subst hy
    refine ⟨g, c, by rw [List.length_set]; exact e1, e2, ?_⟩
    unfold Own
    rw [List.length_set]
    have : (l[i].set k n).flatMap cInt = (l[i].flatMap cInt).set k (.int .i64 n) := by
      have hm : ∀ r : List Int, r.flatMap cInt = r.map (Value.int .i64) := by
        intro r
        induction r with
        | nil => rfl
        | cons y r ih => simp [cInt, ih]
      rw [hm, hm, List.map_set]
    rw [this]
    exact s1
  · have hi' : l[i]? = some y := by
      unfold setCell at hi
      rwa [List.getElem?_set_ne (Ne.symm hib)] at hi
    obtain ⟨g', c', f1, f2, f3⟩ := h5 i y hi'
    refine ⟨g', c', f1, f2, f3.kept s2 (.inr ?_)⟩
    intro he
    simp [Value.ownBlock] at he
    subst he
    have hil : i < gs.length := by rw [h3]; exact (List.getElem?_eq_some_iff.1 hi').1
    have hbl : b < gs.length := by omega
    rw [List.getElem?_eq_getElem hil] at f2
    rw [List.getElem?_eq_getElem hbl] at e2
    exact hib ((List.getElem_inj h4).1 ((Option.some.inj f2).trans (Option.some.inj e2).symm))
end
/-- Rows that literals make. -/
theorem SlSl.lit {enc : Int → List Value} (w : World) (e : TypeId) (cs : Array Value) (l : List (List Int)) (hl : cs.toList.length = l.length) (hm : l.length ≤ 1000000)
    (hr : ∀ (i : Nat) (x : List Int), l[i]? = some x → ∃ u, cs.toList[i]? = some u ∧ Sl enc w w.heap.size u x) :
    SlSl enc (w.alloc (.cells cs e)) (w.alloc (.cells cs e)).heap.size (.slice (some ⟨w.heap.size, 0, none⟩) l.length l.length) l := by
  refine ⟨_, _, cs.toList, rfl, by omega, hl, fun _ => ⟨okA_some _ _, by simp [ablk], fun j v hj => ?_⟩, fun i x hi => ?_⟩
  · show (w.alloc (.cells cs e)).cell? ⟨w.heap.size, 0 + j, none⟩ = some v
    rw [Nat.zero_add, World.cell?_alloc_new]
    simpa using hj
  · obtain ⟨u, hu, hs⟩ := hr i x hi
    exact ⟨u, hu, hs.up ((Below.refl _ _).alloc (Nat.le_refl _) _) (by simp)⟩

end Wh
