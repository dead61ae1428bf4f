/- Texts of the claim, joined: PlainG, Two, StateA, WalkE, WalkF, WalkG, WalkI. -/
import Derived.Test.YtbmklcloknpniaaQ04
import Derived.Test.YtbmklcloknpniaaQ03
namespace Wh

theorem range_all {n : Nat} {P : Nat → Bool} : (List.range n).all P = true ↔ ∀ k, k < n → P k = true := by
  rw [List.all_eq_true]
  exact ⟨fun h k hk => h k (List.mem_range.2 hk), fun h k hk => h k (List.mem_range.1 hk)⟩
theorem range_no {n : Nat} {P : Nat → Bool} {k : Nat} (hk : k < n) (h : P k = false) : (List.range n).all P = false := by
  cases ha : (List.range n).all P
  · rfl
  · rw [range_all.1 ha k hk] at h; cases h
theorem summed_iff {p : Plan} {s : State} : summed p s = true ↔ (∀ g, g < p.sizes.length → goodSummed p s g = true) ∧ ∀ o, o < s.orders.length → orderSummed s o = true := by
  unfold summed
  rw [Bool.and_eq_true, range_all, range_all]
theorem summed_good {p : Plan} {s : State} {g : Nat} (hg : g < p.sizes.length) (h : goodSummed p s g = false) : summed p s = false := by
  unfold summed
  rw [range_no hg h, Bool.false_and]
theorem summed_order {p : Plan} {s : State} {o : Nat} (ho : o < s.orders.length) (h : orderSummed s o = false) : summed p s = false := by
  unfold summed
  rw [range_no ho h, Bool.and_false]
theorem goodSummed_iff {p : Plan} {s : State} {g : Nat} : goodSummed p s g = true ↔ sumOf s.on g = intAt s.inn g - intAt s.out g + intAt s.fixed g ∧ ∀ b : Nat, b < p.bins.length → bound s b g ≤ cell s.on b g := by
  unfold goodSummed
  rw [Bool.and_eq_true, range_all]
  simp
theorem goodSummed_sum {p : Plan} {s : State} {g : Nat} (h : sumOf s.on g ≠ intAt s.inn g - intAt s.out g + intAt s.fixed g) : goodSummed p s g = false := by
  cases hq : goodSummed p s g
  · rfl
  · exact absurd (goodSummed_iff.1 hq).1 h
theorem goodSummed_bin {p : Plan} {s : State} {g b : Nat} (hb : b < p.bins.length) (h : cell s.on b g < bound s b g) : goodSummed p s g = false := by
  cases hq : goodSummed p s g
  · rfl
  · have := (goodSummed_iff.1 hq).2 b hb
    omega
theorem orderSummed_iff {s : State} {o : Nat} : orderSummed s o = true ↔ ¬ ((s.order o).kind = 1 ∧ allGot (s.order o) = true) ∧ ∀ k, k < (s.order o).lines.length → lineSummed s o k = true := by
  unfold orderSummed
  rw [Bool.and_eq_true, range_all]
  by_cases h1 : (s.order o).kind = 1 <;> simp [h1]
theorem orderSummed_got {s : State} {o : Nat} (h : (s.order o).kind = 1) (h2 : allGot (s.order o) = true) : orderSummed s o = false := by
  cases hq : orderSummed s o
  · rfl
  · exact absurd ⟨h, h2⟩ (orderSummed_iff.1 hq).1
theorem orderSummed_line {s : State} {o k : Nat} (hk : k < (s.order o).lines.length) (h : lineSummed s o k = false) : orderSummed s o = false := by
  cases hq : orderSummed s o
  · rfl
  · rw [(orderSummed_iff.1 hq).2 k hk] at h
    cases h
theorem lineSummed_iff {s : State} {o k : Nat} : lineSummed s o k = true ↔ (s.line o k).got + (s.line o k).back + kept s.holds o k = (if (s.order o).kind = 0 then 0 else (s.line o k).want) ∧ ¬ ((s.order o).kind = 2 ∧ 0 < kept s.holds o k) := by
  unfold lineSummed
  by_cases h1 : (s.order o).kind = 2 <;> simp [h1]
theorem allGot_any {p : Plan} {s : State} (h : Sane p s) {o : Nat} (ho : o < s.orders.length) : ((s.order o).lines.any fun x => decide (x.got < x.want)) = !(allGot (s.order o)) := by
  have hl : ∀ x ∈ (s.order o).lines, x.got ≤ x.want := fun x hx => by
    obtain ⟨k, hk, rfl⟩ := List.getElem_of_mem hx
    have := (h.line ho hk).2.2.1.2
    unfold State.line at this
    rwa [lineAt_eq hk] at this
  unfold allGot
  rw [← any_not]
  generalize (s.order o).lines = l at hl
  induction l with
  | nil => rfl
  | cons x l ih =>
    rw [List.any_cons, List.any_cons, ih (fun y hy => hl y (by simp [hy]))]
    congr 1
    have := hl x (by simp)
    rw [Bool.eq_iff_iff]
    simp
    omega
/-- Where not all was got, one is named. -/
theorem allGot_iff {o : Order} : allGot o = true ↔ ∀ k, k < o.lines.length → (lineAt o.lines k).got = (lineAt o.lines k).want := by
  unfold allGot
  constructor
  · intro h k hk
    have := all_at dLine h hk
    simpa [lineAt] using this
  · intro h
    refine all_of dLine fun k hk => ?_
    have := h k hk
    unfold lineAt at this
    simpa using this
theorem sumsOk_bad {p : Plan} (l : List Int) (lo : Int) (hn : 0 < p.sizes.length) : (l.length ≠ p.sizes.length ∧ sumsOk p l lo = false) ∨ (l.length = p.sizes.length ∧ lowest l < lo ∧ sumsOk p l lo = false) ∨
    (l.length = p.sizes.length ∧ lo ≤ lowest l ∧ 1048576 < greatest l ∧ sumsOk p l lo = false) ∨ (l.length = p.sizes.length ∧ lo ≤ lowest l ∧ greatest l ≤ 1048576 ∧ sumsOk p l lo = true) := by
  by_cases h1 : l.length = p.sizes.length
  · have hp : 0 < l.length := by omega
    have hlo : lo ≤ lowest l ↔ ∀ j, j < l.length → lo ≤ intAt l j := by
      unfold lowest
      rw [le_minTo]
      exact ⟨fun h j hj => h j (by omega), fun h j hj => h j (by omega)⟩
    have hhi : greatest l ≤ 1048576 ↔ ∀ j, j < l.length → intAt l j ≤ 1048576 := by
      unfold greatest
      rw [maxTo_le]
      exact ⟨fun h j hj => h j (by omega), fun h j hj => h j (by omega)⟩
    have hs : sumsOk p l lo = true ↔ lo ≤ lowest l ∧ greatest l ≤ 1048576 := by
      rw [sumsOk_iff, hlo, hhi]
      constructor
      · rintro ⟨_, h⟩
        exact ⟨fun j hj => (within_iff.1 (all_at 0 h hj)).1, fun j hj => (within_iff.1 (all_at 0 h hj)).2⟩
      · rintro ⟨h2, h3⟩
        exact ⟨h1, all_of 0 fun j hj => within_iff.2 ⟨h2 j hj, h3 j hj⟩⟩
    cases hq : sumsOk p l lo
    · rw [hq] at hs
      simp only [Bool.false_eq_true, false_iff] at hs
      simp only [h1, and_true, true_and, ne_eq, not_true_eq_false, false_or, reduceCtorEq, and_false, or_false]
      omega
    · rw [hq] at hs
      simp only [true_iff] at hs
      simp only [h1, and_true, true_and, ne_eq, not_true_eq_false, false_or, reduceCtorEq, and_false]
      omega
  · refine .inl ⟨h1, ?_⟩
    unfold sumsOk
    rw [decide_eq_false h1, Bool.false_and]
end Wh
namespace Wh
open Go Go.RowKit Go.Proofs

theorem openOne {w : World} {vs : Value} {s : State} (hv : StateV w w.heap.size vs s) : ∃ A0 c0 A1 c1 A2 c2 A3 c3 A4 c4 A5 c5 A6 c6, vs = .agg #[.slice A0 s.on.length c0, .slice A1 s.orders.length c1, .slice A2 s.holds.length c2, .slice A3 s.moves.length c3, .slice A4 s.inn.length c4, .slice A5 s.out.length c5, .slice A6 s.fixed.length c6] ∧ Hid (∀ W, Below w.heap.size w W → StateV W W.heap.size (.agg #[.slice A0 s.on.length c0, .slice A1 s.orders.length c1, .slice A2 s.holds.length c2, .slice A3 s.moves.length c3, .slice A4 s.inn.length c4, .slice A5 s.out.length c5, .slice A6 s.fixed.length c6]) s) ∧ Hid (∀ W, Below w.heap.size w W → SlSl cInt W W.heap.size (.slice A0 s.on.length c0) s.on) ∧ Hid (∀ W, Below w.heap.size w W → SlOrders W W.heap.size (.slice A1 s.orders.length c1) s.orders) ∧ Hid (∀ W, Below w.heap.size w W → Sl cHold W W.heap.size (.slice A2 s.holds.length c2) s.holds) ∧ Hid (∀ W, Below w.heap.size w W → Sl cMove W W.heap.size (.slice A3 s.moves.length c3) s.moves) ∧ Hid (∀ W, Below w.heap.size w W → Sl cInt W W.heap.size (.slice A4 s.inn.length c4) s.inn) ∧ Hid (∀ W, Below w.heap.size w W → Sl cInt W W.heap.size (.slice A5 s.out.length c5) s.out) ∧ Hid (∀ W, Below w.heap.size w W → Sl cInt W W.heap.size (.slice A6 s.fixed.length c6) s.fixed) ∧ s.on.length ≤ 140737488355232 ∧ s.orders.length ≤ 140737488355232 ∧ s.holds.length ≤ 140737488355232 ∧ s.moves.length ≤ 140737488355232 ∧ s.inn.length ≤ 140737488355232 ∧ s.out.length ≤ 140737488355232 ∧ s.fixed.length ≤ 140737488355232 := by
  have hS := hv
  obtain ⟨_, _, _, _, _, _, _, rfl, ⟨A0, c0, vs0, rfl, hl0, hm0, ha0, hr0⟩, ⟨A1, c1, vs1, rfl, hl1, hm1, ha1, hr1⟩, ⟨A2, c2, rfl, hl2, ha2⟩, ⟨A3, c3, rfl, hl3, ha3⟩, ⟨A4, c4, rfl, hl4, ha4⟩, ⟨A5, c5, rfl, hl5, ha5⟩, ⟨A6, c6, rfl, hl6, ha6⟩⟩ := hv
  exact ⟨A0, c0, A1, c1, A2, c2, A3, c3, A4, c4, A5, c5, A6, c6, rfl, Lib.hid (fun W hW => hS.up hW hW.size), Lib.hid (fun W hW => SlSl.up ⟨A0, c0, vs0, rfl, hl0, hm0, ha0, hr0⟩ hW hW.size), Lib.hid (fun W hW => SlOrders.up ⟨A1, c1, vs1, rfl, hl1, hm1, ha1, hr1⟩ hW hW.size), Lib.hid (fun W hW => Sl.up ⟨A2, c2, rfl, hl2, ha2⟩ hW hW.size), Lib.hid (fun W hW => Sl.up ⟨A3, c3, rfl, hl3, ha3⟩ hW hW.size), Lib.hid (fun W hW => Sl.up ⟨A4, c4, rfl, hl4, ha4⟩ hW hW.size), Lib.hid (fun W hW => Sl.up ⟨A5, c5, rfl, hl5, ha5⟩ hW hW.size), Lib.hid (fun W hW => Sl.up ⟨A6, c6, rfl, hl6, ha6⟩ hW hW.size), hl0, hl1, hl2, hl3, hl4, hl5, hl6⟩

theorem openPl {w : World} {v : Value} {p : Plan} (hp : PlanV w w.heap.size v p) : ∃ Ab cb As cs, v = .agg #[.slice Ab p.bins.length cb, .slice As p.sizes.length cs] ∧ Hid (∀ W, Below w.heap.size w W → PlanV W W.heap.size (.agg #[.slice Ab p.bins.length cb, .slice As p.sizes.length cs]) p) ∧ Hid (∀ W, Below w.heap.size w W → Sl cBin W W.heap.size (.slice Ab p.bins.length cb) p.bins) ∧ Hid (∀ W, Below w.heap.size w W → Sl cInt W W.heap.size (.slice As p.sizes.length cs) p.sizes) ∧ p.bins.length ≤ 140737488355232 ∧ p.sizes.length ≤ 140737488355232 := by
  have hP := hp
  obtain ⟨_, _, rfl, ⟨Ab, cb, rfl, hlb, hb⟩, ⟨As, cs, rfl, hls, hs⟩⟩ := hp
  exact ⟨Ab, cb, As, cs, rfl, Lib.hid (fun W hW => hP.up hW hW.size), Lib.hid (fun W hW => Sl.up ⟨Ab, cb, rfl, hlb, hb⟩ hW hW.size), Lib.hid (fun W hW => Sl.up ⟨As, cs, rfl, hls, hs⟩ hW hW.size), hlb, hls⟩

theorem boxesTwo (w : World) (p : Plan) (s : State) (Ab : Option Addr) (cb : Nat) (As : Option Addr) (cs : Nat) (A0 : Option Addr) (c0 : Nat) (A1 : Option Addr) (c1 : Nat) (A2 : Option Addr) (c2 : Nat) (A3 : Option Addr) (c3 : Nat) (A4 : Option Addr) (c4 : Nat) (A5 : Option Addr) (c5 : Nat) (A6 : Option Addr) (c6 : Nat) :
    ∃ W0 : World, (w.alloc (.cells #[.slice Ab p.bins.length cb, .slice As p.sizes.length cs] 25)).alloc (.cells #[.slice A0 s.on.length c0, .slice A1 s.orders.length c1, .slice A2 s.holds.length c2, .slice A3 s.moves.length c3, .slice A4 s.inn.length c4, .slice A5 s.out.length c5, .slice A6 s.fixed.length c6] 31) = W0 ∧ Below w.heap.size w W0 ∧ w.heap.size + 1 < W0.heap.size ∧ w.heap.size < W0.heap.size ∧ Hid (W0.heap.size = w.heap.size + 1 + 1) ∧
      Hid (∀ W, Below W0.heap.size W0 W → (W.cell? ⟨w.heap.size, 0, none⟩ = some (.slice Ab p.bins.length cb) ∧ W.cell? ⟨w.heap.size, 1, none⟩ = some (.slice As p.sizes.length cs)) ∧ W.cell? ⟨w.heap.size + 1, 0, none⟩ = some (.slice A0 s.on.length c0) ∧ W.cell? ⟨w.heap.size + 1, 1, none⟩ = some (.slice A1 s.orders.length c1) ∧ W.cell? ⟨w.heap.size + 1, 2, none⟩ = some (.slice A2 s.holds.length c2) ∧ W.cell? ⟨w.heap.size + 1, 3, none⟩ = some (.slice A3 s.moves.length c3) ∧ W.cell? ⟨w.heap.size + 1, 4, none⟩ = some (.slice A4 s.inn.length c4) ∧ W.cell? ⟨w.heap.size + 1, 5, none⟩ = some (.slice A5 s.out.length c5) ∧ W.cell? ⟨w.heap.size + 1, 6, none⟩ = some (.slice A6 s.fixed.length c6) ∧ w.heap.size + 1 < W.heap.size ∧ w.heap.size < W.heap.size) := by
  refine ⟨_, rfl, ((Below.refl _ _).alloc (Nat.le_refl _) _).alloc (by simp) _, by simp, by simp; omega, Lib.hid (by simp), Lib.hid fun W hW => ?_⟩
  have h1 : Blk ((w.alloc (.cells #[.slice Ab p.bins.length cb, .slice As p.sizes.length cs] 25)).alloc (.cells #[.slice A0 s.on.length c0, .slice A1 s.orders.length c1, .slice A2 s.holds.length c2, .slice A3 s.moves.length c3, .slice A4 s.inn.length c4, .slice A5 s.out.length c5, .slice A6 s.fixed.length c6] 31)) w.heap.size 25 [.slice Ab p.bins.length cb, .slice As p.sizes.length cs] := (Blk.new _ _ _).alloc _
  have h2 : Blk ((w.alloc (.cells #[.slice Ab p.bins.length cb, .slice As p.sizes.length cs] 25)).alloc (.cells #[.slice A0 s.on.length c0, .slice A1 s.orders.length c1, .slice A2 s.holds.length c2, .slice A3 s.moves.length c3, .slice A4 s.inn.length c4, .slice A5 s.out.length c5, .slice A6 s.fixed.length c6] 31)) (w.heap.size + 1) 31 [.slice A0 s.on.length c0, .slice A1 s.orders.length c1, .slice A2 s.holds.length c2, .slice A3 s.moves.length c3, .slice A4 s.inn.length c4, .slice A5 s.out.length c5, .slice A6 s.fixed.length c6] := by
    have := Blk.new (w.alloc (.cells #[.slice Ab p.bins.length cb, .slice As p.sizes.length cs] 25)) 31 #[.slice A0 s.on.length c0, .slice A1 s.orders.length c1, .slice A2 s.holds.length c2, .slice A3 s.moves.length c3, .slice A4 s.inn.length c4, .slice A5 s.out.length c5, .slice A6 s.fixed.length c6]
    rw [World.size_alloc] at this
    exact this
  have k1 := h1.below hW (by simp; omega)
  have k2 := h2.below hW (by simp)
  exact ⟨⟨k1.cell rfl, k1.cell rfl⟩, k2.cell rfl, k2.cell rfl, k2.cell rfl, k2.cell rfl, k2.cell rfl, k2.cell rfl, k2.cell rfl, k2.lt, k1.lt⟩

theorem boxesOne (w : World) (s : State) (A0 : Option Addr) (c0 : Nat) (A1 : Option Addr) (c1 : Nat) (A2 : Option Addr) (c2 : Nat) (A3 : Option Addr) (c3 : Nat) (A4 : Option Addr) (c4 : Nat) (A5 : Option Addr) (c5 : Nat) (A6 : Option Addr) (c6 : Nat) :
    ∃ W0 : World, w.alloc (.cells #[.slice A0 s.on.length c0, .slice A1 s.orders.length c1, .slice A2 s.holds.length c2, .slice A3 s.moves.length c3, .slice A4 s.inn.length c4, .slice A5 s.out.length c5, .slice A6 s.fixed.length c6] 31) = W0 ∧ Below w.heap.size w W0 ∧ w.heap.size < W0.heap.size ∧ w.heap.size < W0.heap.size ∧ Hid (W0.heap.size = w.heap.size + 1) ∧
      Hid (∀ W, Below W0.heap.size W0 W → (True ∧ True) ∧ W.cell? ⟨w.heap.size, 0, none⟩ = some (.slice A0 s.on.length c0) ∧ W.cell? ⟨w.heap.size, 1, none⟩ = some (.slice A1 s.orders.length c1) ∧ W.cell? ⟨w.heap.size, 2, none⟩ = some (.slice A2 s.holds.length c2) ∧ W.cell? ⟨w.heap.size, 3, none⟩ = some (.slice A3 s.moves.length c3) ∧ W.cell? ⟨w.heap.size, 4, none⟩ = some (.slice A4 s.inn.length c4) ∧ W.cell? ⟨w.heap.size, 5, none⟩ = some (.slice A5 s.out.length c5) ∧ W.cell? ⟨w.heap.size, 6, none⟩ = some (.slice A6 s.fixed.length c6) ∧ w.heap.size < W.heap.size ∧ w.heap.size < W.heap.size) := by
  refine ⟨_, rfl, (Below.refl _ _).alloc (Nat.le_refl _) _, by simp, by simp, Lib.hid (by simp), Lib.hid fun W hW => ?_⟩
  have h2 : Blk (w.alloc (.cells #[.slice A0 s.on.length c0, .slice A1 s.orders.length c1, .slice A2 s.holds.length c2, .slice A3 s.moves.length c3, .slice A4 s.inn.length c4, .slice A5 s.out.length c5, .slice A6 s.fixed.length c6] 31)) w.heap.size 31 [.slice A0 s.on.length c0, .slice A1 s.orders.length c1, .slice A2 s.holds.length c2, .slice A3 s.moves.length c3, .slice A4 s.inn.length c4, .slice A5 s.out.length c5, .slice A6 s.fixed.length c6] := Blk.new _ _ _
  have k2 := h2.below hW (by simp)
  exact ⟨⟨trivial, trivial⟩, k2.cell rfl, k2.cell rfl, k2.cell rfl, k2.cell rfl, k2.cell rfl, k2.cell rfl, k2.cell rfl, k2.lt, k2.lt⟩

/-- .. and the box of the state that comes. -/
theorem boxesAct (w : World) (p : Plan) (s : State) (Ab : Option Addr) (cb : Nat) (As : Option Addr) (cs : Nat) (A0 : Option Addr) (c0 : Nat) (A1 : Option Addr) (c1 : Nat) (A2 : Option Addr) (c2 : Nat) (A3 : Option Addr) (c3 : Nat) (A4 : Option Addr) (c4 : Nat) (A5 : Option Addr) (c5 : Nat) (A6 : Option Addr) (c6 : Nat) :
    ∃ W0 : World, ((w.alloc (.cells #[.slice Ab p.bins.length cb, .slice As p.sizes.length cs] 25)).alloc (.cells #[.slice A0 s.on.length c0, .slice A1 s.orders.length c1, .slice A2 s.holds.length c2, .slice A3 s.moves.length c3, .slice A4 s.inn.length c4, .slice A5 s.out.length c5, .slice A6 s.fixed.length c6] 31)).alloc (.cells #[.slice none 0 0, .slice none 0 0, .slice none 0 0, .slice none 0 0, .slice none 0 0, .slice none 0 0, .slice none 0 0] 31) = W0 ∧ Below w.heap.size w W0 ∧ w.heap.size + 1 < W0.heap.size ∧ w.heap.size < W0.heap.size ∧ Hid (W0.heap.size = w.heap.size + 1 + 1 + 1) ∧
      Hid (∀ W, Below W0.heap.size W0 W → (W.cell? ⟨w.heap.size, 0, none⟩ = some (.slice Ab p.bins.length cb) ∧ W.cell? ⟨w.heap.size, 1, none⟩ = some (.slice As p.sizes.length cs)) ∧ W.cell? ⟨w.heap.size + 1, 0, none⟩ = some (.slice A0 s.on.length c0) ∧ W.cell? ⟨w.heap.size + 1, 1, none⟩ = some (.slice A1 s.orders.length c1) ∧ W.cell? ⟨w.heap.size + 1, 2, none⟩ = some (.slice A2 s.holds.length c2) ∧ W.cell? ⟨w.heap.size + 1, 3, none⟩ = some (.slice A3 s.moves.length c3) ∧ W.cell? ⟨w.heap.size + 1, 4, none⟩ = some (.slice A4 s.inn.length c4) ∧ W.cell? ⟨w.heap.size + 1, 5, none⟩ = some (.slice A5 s.out.length c5) ∧ W.cell? ⟨w.heap.size + 1, 6, none⟩ = some (.slice A6 s.fixed.length c6) ∧ w.heap.size + 1 < W.heap.size ∧ w.heap.size < W.heap.size) ∧
      Hid (∀ W, Below W0.heap.size W0 W → Blk W (w.heap.size + 1 + 1) 31 [.slice none 0 0, .slice none 0 0, .slice none 0 0, .slice none 0 0, .slice none 0 0, .slice none 0 0, .slice none 0 0]) := by
  obtain ⟨W1, e1, b1, s1, s2, s3, hK⟩ := boxesTwo w p s Ab cb As cs A0 c0 A1 c1 A2 c2 A3 c3 A4 c4 A5 c5 A6 c6
  rw [e1]
  have e3 : W1.heap.size = w.heap.size + 1 + 1 := s3
  have ha : Below W1.heap.size W1 (W1.alloc (.cells #[.slice none 0 0, .slice none 0 0, .slice none 0 0, .slice none 0 0, .slice none 0 0, .slice none 0 0, .slice none 0 0] 31)) := (Below.refl _ _).alloc (Nat.le_refl _) _
  have h1 : Blk (W1.alloc (.cells #[.slice none 0 0, .slice none 0 0, .slice none 0 0, .slice none 0 0, .slice none 0 0, .slice none 0 0, .slice none 0 0] 31)) W1.heap.size 31 [.slice none 0 0, .slice none 0 0, .slice none 0 0, .slice none 0 0, .slice none 0 0, .slice none 0 0, .slice none 0 0] := Blk.new _ _ _
  rw [e3] at h1
  refine ⟨_, rfl, b1.trans (ha.mono b1.size), by simp; omega, by simp; omega, Lib.hid (by simp [e3]), Lib.hid fun W hW => ?_, Lib.hid fun W hW => h1.below hW (by simp; omega)⟩
  exact RowKit.Hid.out hK W (ha.trans (hW.mono ha.size))
end Wh
namespace Wh
open Go Go.RowKit Go.Shelf Go.Proofs
attribute [local go_sem] run_indexAt_letter

theorem held_cases (s : State) (b g : Int) (h : Hold) : ((h.bin == b) = false ∧ heldN s b g h = 0) ∨ ((h.bin == b) = true ∧ ((s.line h.order.toNat h.line.toNat).good == g) = false ∧ heldN s b g h = 0) ∨
    ((h.bin == b) = true ∧ ((s.line h.order.toNat h.line.toNat).good == g) = true ∧ heldN s b g h = h.n) := by
  unfold heldN
  by_cases h1 : h.bin = b <;> by_cases h2 : (s.line h.order.toNat h.line.toNat).good = g <;> simp [h1, h2]
theorem from_cases (b g : Int) (x : Move) : ((x.src == b) = false ∧ fromN b g x = 0) ∨ ((x.src == b) = true ∧ (x.good == g) = false ∧ fromN b g x = 0) ∨ ((x.src == b) = true ∧ (x.good == g) = true ∧ fromN b g x = x.n) := by
  unfold fromN
  by_cases h1 : x.src = b <;> by_cases h2 : x.good = g <;> simp [h1, h2]
theorem to_cases (b g : Int) (x : Move) : ((x.dst == b) = false ∧ toN b g x = 0) ∨ ((x.dst == b) = true ∧ (x.good == g) = false ∧ toN b g x = 0) ∨ ((x.dst == b) = true ∧ (x.good == g) = true ∧ toN b g x = x.n) := by
  unfold toN
  by_cases h1 : x.dst = b <;> by_cases h2 : x.good = g <;> simp [h1, h2]

set_option maxHeartbeats 4000000 in
set_option maxRecDepth 10000 in
theorem sBound (w : World) (v : Value) (p : Plan) (s : State) (b g : Int) (hv : StateV w w.heap.size v s) (hs : Sane p s) :
    Calls Try.prog 31 #[v, .int .i64 b, .int .i64 g] w fun e w' => e = .returned (.int .i64 (bound s b g)) ∧ Below w.heap.size w w' := by
  have hS := hv
  obtain ⟨_, _, _, _, _, _, _, rfl, ⟨A0, c0, vs0, rfl, hl0, hm0, ha0, hr0⟩, ⟨A1, c1, vs1, rfl, hl1, hm1, ha1, hr1⟩, ⟨A2, c2, rfl, hl2, ha2⟩, ⟨A3, c3, rfl, hl3, ha3⟩, ⟨A4, c4, rfl, hl4, ha4⟩, ⟨A5, c5, rfl, hl5, ha5⟩, ⟨A6, c6, rfl, hl6, ha6⟩⟩ := hv
  have hb0 : Below w.heap.size w (w.alloc (.cells #[.slice A0 s.on.length c0, .slice A1 s.orders.length c1, .slice A2 s.holds.length c2, .slice A3 s.moves.length c3, .slice A4 s.inn.length c4, .slice A5 s.out.length c5, .slice A6 s.fixed.length c6] 31)) := (Below.refl _ _).alloc (Nat.le_refl _) _
  have hsz0 : w.heap.size < (w.alloc (.cells #[.slice A0 s.on.length c0, .slice A1 s.orders.length c1, .slice A2 s.holds.length c2, .slice A3 s.moves.length c3, .slice A4 s.inn.length c4, .slice A5 s.out.length c5, .slice A6 s.fixed.length c6] 31)).heap.size := by simp
  have hz0 : (w.alloc (.cells #[.slice A0 s.on.length c0, .slice A1 s.orders.length c1, .slice A2 s.holds.length c2, .slice A3 s.moves.length c3, .slice A4 s.inn.length c4, .slice A5 s.out.length c5, .slice A6 s.fixed.length c6] 31)).cell? ⟨w.heap.size, 1, none⟩ = some (.slice A1 s.orders.length c1) ∧ (w.alloc (.cells #[.slice A0 s.on.length c0, .slice A1 s.orders.length c1, .slice A2 s.holds.length c2, .slice A3 s.moves.length c3, .slice A4 s.inn.length c4, .slice A5 s.out.length c5, .slice A6 s.fixed.length c6] 31)).cell? ⟨w.heap.size, 2, none⟩ = some (.slice A2 s.holds.length c2) ∧ (w.alloc (.cells #[.slice A0 s.on.length c0, .slice A1 s.orders.length c1, .slice A2 s.holds.length c2, .slice A3 s.moves.length c3, .slice A4 s.inn.length c4, .slice A5 s.out.length c5, .slice A6 s.fixed.length c6] 31)).cell? ⟨w.heap.size, 3, none⟩ = some (.slice A3 s.moves.length c3) := by simp
  have ho1 : ∀ W, Below w.heap.size w W → SlOrders W W.heap.size (.slice A1 s.orders.length c1) s.orders := fun W hW => SlOrders.up ⟨A1, c1, vs1, rfl, hl1, hm1, ha1, hr1⟩ hW hW.size
  have ho1' := Lib.hid ho1
  have hs72 := ok_len72 hs.holds
  have hs8 := hs.moves8
  have hs4 := hs.orders4
  have hsH := Lib.hid hs
  clear ho1 hs
  go_enter Try.func31, Try.ntmps31
  go_wp2_with fail
  generalize hW0 : w.alloc (.cells #[.slice A0 s.on.length c0, .slice A1 s.orders.length c1, .slice A2 s.holds.length c2, .slice A3 s.moves.length c3, .slice A4 s.inn.length c4, .slice A5 s.out.length c5, .slice A6 s.fixed.length c6] 31) = W0 at hb0 hsz0 hz0 ⊢
  obtain ⟨z1, z2, z3⟩ := hz0
  clear hW0
  go_loopw [7, 15, 9] (fun n i _ wr => ∃ k : Nat, k ≤ s.holds.length ∧ i = .int .i64 k ∧ n = .int .i64 (heldTo s b g k) ∧ Below W0.heap.size W0 wr) (fun n i _ _ => s.holds.length - (intOf i).toNat)
  case atStart => exact ⟨0, Nat.zero_le _, rfl, rfl, Below.refl _ _⟩
  case round =>
    obtain ⟨k, hk, rfl, rfl, hbw⟩ := hrel
    obtain ⟨r1, r2⟩ := heldTo_range hsH.out b g k
    have y1 := (hbw.cell (p := ⟨w.heap.size, 1, none⟩) hsz0).trans z1
    have y2 := (hbw.cell (p := ⟨w.heap.size, 2, none⟩) hsz0).trans z2
    have y3 := (hbw.cell (p := ⟨w.heap.size, 3, none⟩) hsz0).trans z3
    have hbz : w.heap.size < wr.heap.size := Nat.lt_of_lt_of_le hsz0 hbw.size
    have hB := hb0.trans (hbw.mono hb0.size)
    by_cases hlt : k < s.holds.length
    · obtain ⟨hok, hAb, b0, b1, b2, b3⟩ := (ha2.up hB hB.size).hold hlt
      obtain ⟨⟨i1, i2⟩, ⟨i3, i4⟩, _, i7, i8⟩ := hsH.out.holdAt hlt
      have hol : (hold s.holds k).order.toNat < s.orders.length := by omega
      obtain ⟨A', c', hok1, hAb1, _, d1, hsl⟩ := (ho1'.out wr hB).order hol
      have hll : (hold s.holds k).line.toNat < (orderAt s.orders (hold s.holds k).order.toNat).lines.length := by unfold State.order at i4; omega
      obtain ⟨hok2, hAb2, e0, _, _, _⟩ := hsl.at_.line hll
      have hsucc := heldTo_succ (s := s) (b := b) (g := g) hlt
      have i4' : (hold s.holds k).line < ((orderAt s.orders (hold s.holds k).order.toNat).lines.length : Int) := i4
      have hba : Below W0.heap.size W0 (wr.alloc (.cells #[.int .i64 (hold s.holds k).order, .int .i64 (hold s.holds k).line, .int .i64 (hold s.holds k).bin, .int .i64 (hold s.holds k).n] 65)) := hbw.alloc hbw.size _
      have hca : wr.heap.size < (wr.alloc (.cells #[.int .i64 (hold s.holds k).order, .int .i64 (hold s.holds k).line, .int .i64 (hold s.holds k).bin, .int .i64 (hold s.holds k).n] 65)).heap.size := by simp
      have q0 := fun o d os => cells_wld (w := wr.alloc (.cells #[.int .i64 (hold s.holds k).order, .int .i64 (hold s.holds k).line, .int .i64 (hold s.holds k).bin, .int .i64 (hold s.holds k).n] 65)) (b := w.heap.size) (by simp; omega) o d os
      have q1 := fun o d os => cells_wld (w := wr.alloc (.cells #[.int .i64 (hold s.holds k).order, .int .i64 (hold s.holds k).line, .int .i64 (hold s.holds k).bin, .int .i64 (hold s.holds k).n] 65)) (b := wr.heap.size) hca o d os
      have q2 := fun o d os => cells_wld (w := wr.alloc (.cells #[.int .i64 (hold s.holds k).order, .int .i64 (hold s.holds k).line, .int .i64 (hold s.holds k).bin, .int .i64 (hold s.holds k).n] 65)) (b := ablk A1) (by simp; omega) o d os
      have q3 := fun o d os => cells_wld (w := wr.alloc (.cells #[.int .i64 (hold s.holds k).order, .int .i64 (hold s.holds k).line, .int .i64 (hold s.holds k).bin, .int .i64 (hold s.holds k).n] 65)) (b := ablk A') (by simp; omega) o d os
      have hl : lineAt (orderAt s.orders (hold s.holds k).order.toNat).lines (hold s.holds k).line.toNat = s.line (hold s.holds k).order.toNat (hold s.holds k).line.toNat := rfl
      rw [hl] at e0
      have hll' := Lib.hid hll
      clear i4 hl hll
      rcases held_cases s b g (hold s.holds k) with ⟨g1, gh⟩ | ⟨g1, g2, gh⟩ | ⟨g1, g2, gh⟩
      all_goals
        rw [gh] at hsucc
        have hsu := Lib.hid hsucc
        clear hsucc gh
        go_wp2_with fail
        refine wp_region_wld (by kernel_rfl) (by kernel_rfl) ?_
        repeat (go_big_quiet_step (fail))
        refine wpQuiet_nil ?_
        intro W2 hw'
        have hb2 := below_of_cls hw'
        clear hw'
        obtain ⟨hc2, hf2⟩ := bcell hb2
        clear q0 q1 q2 q3
        go_wp2_with fail
        go_roundw
        case rel => exact ⟨k + 1, by omega, by go_num, by rw [hsu.out] <;> first | rfl | simp, hba.trans (hb2.mono hba.size)⟩
        case measure => simp [intOf]; omega
    · obtain rfl : k = s.holds.length := by omega
      rw [heldTo_all] at r1 r2 ⊢
      go_wp2_with fail
      go_loopw [7, 47, 11] (fun n i _ wr => ∃ k : Nat, k ≤ s.moves.length ∧ i = .int .i64 k ∧ n = .int .i64 (heldIn s b g + goingTo s.moves b g k) ∧ Below W0.heap.size W0 wr) (fun n i _ _ => s.moves.length - (intOf i).toNat)
      case atStart => exact ⟨0, Nat.zero_le _, rfl, by unfold goingTo; simp, hbw⟩
      case round =>
        clear hbw y1 y2 y3 hbz hB
        obtain ⟨k, hk, rfl, rfl, hbw⟩ := hrel
        obtain ⟨t1, t2⟩ := goingTo_range hsH.out b g k
        have y3 := (hbw.cell (p := ⟨w.heap.size, 3, none⟩) hsz0).trans z3
        have hbz : w.heap.size < wr.heap.size := Nat.lt_of_lt_of_le hsz0 hbw.size
        have hB := hb0.trans (hbw.mono hb0.size)
        by_cases hlt : k < s.moves.length
        · obtain ⟨hok, hAb, b0, b1, b2, b3⟩ := (ha3.up hB hB.size).move hlt
          obtain ⟨_, _, _, _, i7, i8⟩ := hsH.out.moveAt hlt
          have hsucc := goingTo_succ (b := b) (g := g) hlt
          rcases from_cases b g (moveAt s.moves k) with ⟨g1, gh⟩ | ⟨g1, g2, gh⟩ | ⟨g1, g2, gh⟩
          all_goals
            rw [gh] at hsucc
            have hsu := Lib.hid hsucc
            clear hsucc gh
            go_wp2_with fail
            go_roundw
            case rel => exact ⟨k + 1, by omega, by go_num, by rw [hsu.out] <;> first | rfl | (simp <;> omega), hbw.alloc hbw.size (.cells #[.int .i64 (moveAt s.moves k).good, .int .i64 (moveAt s.moves k).src, .int .i64 (moveAt s.moves k).dst, .int .i64 (moveAt s.moves k).n] 42)⟩
            case measure => simp [intOf]; omega
        · obtain rfl : k = s.moves.length := by omega
          have hall := goingTo_all s.moves b g
          rw [hall] at t1 t2 ⊢
          clear hall
          go_wp2_with fail
          go_ret
          exact ⟨rfl, hB⟩

set_option maxHeartbeats 4000000 in
set_option maxRecDepth 10000 in
theorem sComing (w : World) (v : Value) (p : Plan) (s : State) (b g : Int) (hv : StateV w w.heap.size v s) (hs : Sane p s) :
    Calls Try.prog 30 #[v, .int .i64 b, .int .i64 g] w fun e w' => e = .returned (.int .i64 (coming s b g)) ∧ Below w.heap.size w w' := by
  have hS := hv
  obtain ⟨_, _, _, _, _, _, _, rfl, ⟨A0, c0, vs0, rfl, hl0, hm0, ha0, hr0⟩, ⟨A1, c1, vs1, rfl, hl1, hm1, ha1, hr1⟩, ⟨A2, c2, rfl, hl2, ha2⟩, ⟨A3, c3, rfl, hl3, ha3⟩, ⟨A4, c4, rfl, hl4, ha4⟩, ⟨A5, c5, rfl, hl5, ha5⟩, ⟨A6, c6, rfl, hl6, ha6⟩⟩ := hv
  have hb0 : Below w.heap.size w (w.alloc (.cells #[.slice A0 s.on.length c0, .slice A1 s.orders.length c1, .slice A2 s.holds.length c2, .slice A3 s.moves.length c3, .slice A4 s.inn.length c4, .slice A5 s.out.length c5, .slice A6 s.fixed.length c6] 31)) := (Below.refl _ _).alloc (Nat.le_refl _) _
  have hsz0 : w.heap.size < (w.alloc (.cells #[.slice A0 s.on.length c0, .slice A1 s.orders.length c1, .slice A2 s.holds.length c2, .slice A3 s.moves.length c3, .slice A4 s.inn.length c4, .slice A5 s.out.length c5, .slice A6 s.fixed.length c6] 31)).heap.size := by simp
  have hz0 : (w.alloc (.cells #[.slice A0 s.on.length c0, .slice A1 s.orders.length c1, .slice A2 s.holds.length c2, .slice A3 s.moves.length c3, .slice A4 s.inn.length c4, .slice A5 s.out.length c5, .slice A6 s.fixed.length c6] 31)).cell? ⟨w.heap.size, 1, none⟩ = some (.slice A1 s.orders.length c1) ∧ (w.alloc (.cells #[.slice A0 s.on.length c0, .slice A1 s.orders.length c1, .slice A2 s.holds.length c2, .slice A3 s.moves.length c3, .slice A4 s.inn.length c4, .slice A5 s.out.length c5, .slice A6 s.fixed.length c6] 31)).cell? ⟨w.heap.size, 2, none⟩ = some (.slice A2 s.holds.length c2) ∧ (w.alloc (.cells #[.slice A0 s.on.length c0, .slice A1 s.orders.length c1, .slice A2 s.holds.length c2, .slice A3 s.moves.length c3, .slice A4 s.inn.length c4, .slice A5 s.out.length c5, .slice A6 s.fixed.length c6] 31)).cell? ⟨w.heap.size, 3, none⟩ = some (.slice A3 s.moves.length c3) := by simp
  have ho1 : ∀ W, Below w.heap.size w W → SlOrders W W.heap.size (.slice A1 s.orders.length c1) s.orders := fun W hW => SlOrders.up ⟨A1, c1, vs1, rfl, hl1, hm1, ha1, hr1⟩ hW hW.size
  have ho1' := Lib.hid ho1
  have hs72 := ok_len72 hs.holds
  have hs8 := hs.moves8
  have hs4 := hs.orders4
  have hsH := Lib.hid hs
  clear ho1 hs
  go_enter Try.func30, Try.ntmps30
  go_wp2_with fail
  generalize hW0 : w.alloc (.cells #[.slice A0 s.on.length c0, .slice A1 s.orders.length c1, .slice A2 s.holds.length c2, .slice A3 s.moves.length c3, .slice A4 s.inn.length c4, .slice A5 s.out.length c5, .slice A6 s.fixed.length c6] 31) = W0 at hb0 hsz0 hz0 ⊢
  obtain ⟨z1, z2, z3⟩ := hz0
  clear hW0
  go_loopw [7, 13, 9] (fun n i _ wr => ∃ k : Nat, k ≤ s.moves.length ∧ i = .int .i64 k ∧ n = .int .i64 (comingTo s.moves b g k) ∧ Below W0.heap.size W0 wr) (fun n i _ _ => s.moves.length - (intOf i).toNat)
  case atStart => exact ⟨0, Nat.zero_le _, rfl, rfl, Below.refl _ _⟩
  case round =>
    skip
    obtain ⟨k, hk, rfl, rfl, hbw⟩ := hrel
    obtain ⟨t1, t2⟩ := comingTo_range hsH.out b g k
    have y3 := (hbw.cell (p := ⟨w.heap.size, 3, none⟩) hsz0).trans z3
    have hbz : w.heap.size < wr.heap.size := Nat.lt_of_lt_of_le hsz0 hbw.size
    have hB := hb0.trans (hbw.mono hb0.size)
    by_cases hlt : k < s.moves.length
    · obtain ⟨hok, hAb, b0, b1, b2, b3⟩ := (ha3.up hB hB.size).move hlt
      obtain ⟨_, _, _, _, i7, i8⟩ := hsH.out.moveAt hlt
      have hsucc := comingTo_succ (b := b) (g := g) hlt
      rcases to_cases b g (moveAt s.moves k) with ⟨g1, gh⟩ | ⟨g1, g2, gh⟩ | ⟨g1, g2, gh⟩
      all_goals
        rw [gh] at hsucc
        have hsu := Lib.hid hsucc
        clear hsucc gh
        go_wp2_with fail
        go_roundw
        case rel => exact ⟨k + 1, by omega, by go_num, by rw [hsu.out] <;> first | rfl | (simp <;> omega), hbw.alloc hbw.size (.cells #[.int .i64 (moveAt s.moves k).good, .int .i64 (moveAt s.moves k).src, .int .i64 (moveAt s.moves k).dst, .int .i64 (moveAt s.moves k).n] 42)⟩
        case measure => simp [intOf]; omega
    · obtain rfl : k = s.moves.length := by omega
      have hall := comingTo_all s.moves b g
      rw [hall] at t1 t2 ⊢
      clear hall
      go_wp2_with fail
      go_ret
      exact ⟨rfl, hB⟩

end Wh
namespace Wh
open Go Go.RowKit Go.Shelf Go.Proofs
attribute [local go_sem] run_indexAt_letter

theorem there_parts (p : Plan) (b g : Int) : (b < 0 ∧ (isBin p b && isGood p g) = false) ∨ (0 ≤ b ∧ (p.bins.length : Int) ≤ b ∧ (isBin p b && isGood p g) = false) ∨
    (0 ≤ b ∧ b < p.bins.length ∧ g < 0 ∧ (isBin p b && isGood p g) = false) ∨ (0 ≤ b ∧ b < p.bins.length ∧ 0 ≤ g ∧ (p.sizes.length : Int) ≤ g ∧ (isBin p b && isGood p g) = false) ∨
    (0 ≤ b ∧ b < p.bins.length ∧ 0 ≤ g ∧ g < p.sizes.length ∧ (isBin p b && isGood p g) = true) := by
  have h1 := @isBin_iff p b
  have h2 := @isGood_iff p g
  cases hb : isBin p b <;> cases hg : isGood p g <;> simp [hb, hg] at h1 h2 ⊢ <;> omega

set_option maxHeartbeats 400000 in
theorem shThere (w : World) (v : Value) (p : Plan) (b g : Int) (hp : PlanV w w.heap.size v p) :
    Calls Try.prog 17 #[v, .int .i64 b, .int .i64 g] w fun e w' => e = .returned (.bool (isBin p b && isGood p g)) ∧ Below w.heap.size w w' := by
  obtain ⟨_, _, rfl, ⟨Ab, cb, rfl, hlb, hb⟩, ⟨As, cs, rfl, hls, hs⟩⟩ := hp
  go_enter Try.func17, Try.ntmps17
  rcases there_parts p b g with ⟨h1, h⟩ | ⟨h1, h2, h⟩ | ⟨h1, h2, h3, h⟩ | ⟨h1, h2, h3, h4, h⟩ | ⟨h1, h2, h3, h4, h⟩
  all_goals
    go_wp2
    go_ret
    exact ⟨ret_bool (by first | rfl | (simp <;> omega) | (rw [h] <;> first | rfl | (simp <;> omega))), (Below.refl _ _).alloc (Nat.le_refl _) _⟩

set_option maxHeartbeats 400000 in
theorem shelfBad (p : Plan) (row : List Int) (W : World) (B : Nat) (u : Value) (hn : 0 < p.sizes.length) (As : Option Addr) (cs : Nat) (hc : W.cell? ⟨B, 1, none⟩ = some (.slice As p.sizes.length cs)) (hu : Sl cInt W W.heap.size u row) :
    Calls Try.prog 33 #[u, .pointer (some ⟨B, 0, none⟩)] W fun e W' => e = .returned (.bool (!rowOk p row)) ∧ Below W.heap.size W W' := by
  have hu' := hu
  obtain ⟨A, c, rfl, hl, hA⟩ := hu
  go_enter Try.func33, Try.ntmps33
  rcases rowOk_bad row hn with ⟨h1, h⟩ | ⟨h1, h2, h⟩ | ⟨h1, h2, h3, h⟩ | ⟨h1, h2, h3, h⟩
  · go_wp2_with fail
    go_ret
    exact ⟨ret_bool (by rw [h]; rfl), Below.refl _ _⟩
  all_goals
    have hpos : 0 < row.length := by omega
    have hle1 := Nat.le_of_eq h1
    have hle2 := Nat.le_of_eq h1.symm
    clear h1
    go_wp2_with (first | (go_at_call 34; refine (slMin _ _ row hu' hpos).mono ?_; rintro e w' ⟨rfl, rfl⟩) | (go_at_call 35; refine (slMax _ _ row hu' hpos).mono ?_; rintro e w' ⟨rfl, rfl⟩))
    go_ret
    exact ⟨ret_bool (by first | rfl | (simp <;> omega) | (rw [h] <;> first | rfl | (simp <;> omega))), Below.refl _ _⟩
theorem entersShelfBad : Enters Try.prog 33 := enters_of Try.func33 (by kernel_rfl) rfl
end Wh
namespace Wh
open Go Go.RowKit Go.Shelf Go.Proofs
attribute [local go_sem] run_indexAt_letter

set_option maxHeartbeats 1000000 in
theorem shelfCheck (w : World) (v vo : Value) (p : Plan) (on : List (List Int)) (hp : PlanV w w.heap.size v p) (ho : SlSl cInt w w.heap.size vo on) :
    Calls Try.prog 18 #[v, vo] w fun e w' => e = .returned (.int .i64 (checkShelf p on)) ∧ Below w.heap.size w w' := by
  have hP := hp
  have hO := ho
  obtain ⟨_, _, rfl, ⟨Ab, cb, rfl, hlb, hb⟩, ⟨As, cs, rfl, hls, hs⟩⟩ := hp
  obtain ⟨A, c, vs, rfl, hl, hvl, hA, hrows⟩ := ho
  have hb0 : Below w.heap.size w (w.alloc (.cells #[.slice Ab p.bins.length cb, .slice As p.sizes.length cs] 25)) := (Below.refl _ _).alloc (Nat.le_refl _) _
  go_enter Try.func18, Try.ntmps18
  go_wp2_with fail
  refine (planCheck _ _ p (hP.up hb0 hb0.size)).mono ?_
  rintro e W1 ⟨rfl, hb1⟩
  have hbw := hb0.trans (hb1.mono (by simp))
  have hsz := hb1.size
  obtain ⟨hc1, hf1⟩ := bcell hb1
  by_cases hz : checkPlan p = 0
  · have hz' := checkPlan_zero.1 hz
    have hpos : 0 < p.sizes.length := hz'.2.1.1
    have hcell : W1.cell? ⟨w.heap.size, 1, none⟩ = some (.slice As p.sizes.length cs) := by rw [hc1 _ _ (by simp)]; simp
    by_cases hlen : on.length = p.bins.length
    · have hle1 := Nat.le_of_eq hlen
      have hle2 := Nat.le_of_eq hlen.symm
      have hlen' := Lib.hid hlen
      clear hlen
      go_wp2_with fail
      refine (containsFuncRow _ _ on 33 #[.pointer (some ⟨w.heap.size, 0, none⟩)] (fun r => !rowOk p r) entersShelfBad (hO.up hbw hbw.size) (fun k _ W hW u hu =>
        shelfBad p (rowAt on k) W w.heap.size u hpos As cs ((hW.cell (p := ⟨w.heap.size, 1, none⟩) (by simp at hsz ⊢; omega)).trans hcell) hu)).mono ?_
      rintro e W2 ⟨rfl, hb2⟩
      have hbw2 := hbw.trans (hb2.mono hbw.size)
      cases hbad : (on.any fun r => !rowOk p r)
      · go_wp2_with fail
        go_ret
        exact ⟨ret_int (checkShelf_good hz hlen'.out hbad).symm, hbw2⟩
      · go_wp2_with fail
        go_ret
        exact ⟨ret_int (checkShelf_bad hz hbad).symm, hbw2⟩
    · have hno := checkShelf_len hz hlen
      go_wp2_with fail
      go_ret
      exact ⟨ret_int hno.symm, hbw⟩
  · have hno := checkShelf_plan (on := on) hz
    go_wp2_with fail
    go_ret
    exact ⟨ret_int hno.symm, hbw⟩

end Wh
namespace Wh
open Go Go.RowKit Go.Shelf Go.Proofs
attribute [local go_sem] run_indexAt_letter

theorem shelfError_check {p : Plan} {on : List (List Int)} {b g : Int} (h : checkShelf p on ≠ 0) : shelfError p on b g = checkShelf p on := by
  unfold shelfError
  rw [if_pos h]
theorem shelfError_there {p : Plan} {on : List (List Int)} {b g : Int} (h : checkShelf p on = 0) (h2 : (isBin p b && isGood p g) = false) : shelfError p on b g = 3 := by
  unfold shelfError
  simp [h, h2]
theorem shelfError_ok {p : Plan} {on : List (List Int)} {b g : Int} (h : checkShelf p on = 0) (h2 : (isBin p b && isGood p g) = true) : shelfError p on b g = 0 := by
  unfold shelfError
  simp [h, h2]

set_option maxHeartbeats 1000000 in
theorem shelfAsked (w : World) (v vo : Value) (p : Plan) (on : List (List Int)) (b g : Int) (hp : PlanV w w.heap.size v p) (ho : SlSl cInt w w.heap.size vo on) :
    Calls Try.prog 61 #[v, vo, .int .i64 b, .int .i64 g] w fun e w' => e = .returned (.int .i64 (shelfError p on b g)) ∧ Below w.heap.size w w' := by
  have hP := hp
  have hO := ho
  obtain ⟨_, _, rfl, ⟨Ab, cb, rfl, hlb, hb⟩, ⟨As, cs, rfl, hls, hs⟩⟩ := hp
  have hb0 : Below w.heap.size w (w.alloc (.cells #[.slice Ab p.bins.length cb, .slice As p.sizes.length cs] 25)) := (Below.refl _ _).alloc (Nat.le_refl _) _
  go_enter Try.func61, Try.ntmps61
  go_wp2_with fail
  refine (shelfCheck _ _ vo p on (hP.up hb0 hb0.size) (hO.up hb0 hb0.size)).mono ?_
  rintro e W1 ⟨rfl, hb1⟩
  have hbw := hb0.trans (hb1.mono (by simp))
  have hsz := hb1.size
  obtain ⟨hc1, hf1⟩ := bcell hb1
  by_cases hz : checkShelf p on = 0
  · go_wp2_with fail
    refine (shThere _ _ p b g (hP.up hbw hbw.size)).mono ?_
    rintro e W2 ⟨rfl, hb2⟩
    have hbw2 := hbw.trans (hb2.mono hbw.size)
    cases ht : (isBin p b && isGood p g)
    · have hfin := Lib.hid (shelfError_there hz ht)
      go_wp2_with fail
      go_ret
      exact ⟨ret_int hfin.out.symm, hbw2⟩
    · have hfin := Lib.hid (shelfError_ok hz ht)
      go_wp2_with fail
      go_ret
      exact ⟨ret_int hfin.out.symm, hbw2⟩
  · have hfin := Lib.hid (shelfError_check (b := b) (g := g) hz)
    go_wp2_with fail
    go_ret
    exact ⟨ret_int hfin.out.symm, hbw⟩

end Wh
namespace Wh
open Go Go.RowKit Go.Shelf Go.Proofs
attribute [local go_sem] run_indexAt_letter

theorem sumE_ok {p : Plan} {on : List (List Int)} {g : Nat} (h : shelfError p on 0 g = 0) : sumE p on g = sumOf on g := by
  unfold sumE; rw [if_pos h, Int.toNat_natCast]
theorem sumE_no {p : Plan} {on : List (List Int)} {g : Int} (h : shelfError p on 0 g ≠ 0) : sumE p on g = 0 := by
  unfold sumE; rw [if_neg h]

set_option maxHeartbeats 1000000 in
theorem shelfSum (w : World) (v vo : Value) (p : Plan) (on : List (List Int)) (g : Int) (hp : PlanV w w.heap.size v p) (ho : SlSl cInt w w.heap.size vo on) :
    Calls Try.prog 49 #[v, vo, .int .i64 g] w fun e w' => e = .returned (.tuple #[.int .i64 (sumE p on g), .int .i64 (shelfError p on 0 g)]) ∧ Below w.heap.size w w' := by
  have hP := hp
  have hO := ho
  obtain ⟨_, _, rfl, ⟨Ab, cb, rfl, hlb, hb⟩, ⟨As, cs, rfl, hls, hs⟩⟩ := hp
  obtain ⟨A, c, vs, rfl, hl, hvl, hA, hrows⟩ := ho
  have hb0 : Below w.heap.size w (w.alloc (.cells #[.slice Ab p.bins.length cb, .slice As p.sizes.length cs] 25)) := (Below.refl _ _).alloc (Nat.le_refl _) _
  go_enter Try.func49, Try.ntmps49
  go_wp2_with fail
  refine (shelfAsked _ _ _ p on 0 g (hP.up hb0 hb0.size) (hO.up hb0 hb0.size)).mono ?_
  rintro e W1 ⟨rfl, hb1⟩
  have hbw := hb0.trans (hb1.mono (by simp))
  have hsz := hb1.size
  obtain ⟨hc1, hf1⟩ := bcell hb1
  by_cases hz : shelfError p on 0 g = 0
  · obtain ⟨hz1, hz2, hz3⟩ := shelfError_zero.1 hz
    have hbb := isGood_iff.1 hz3
    obtain ⟨g', rfl⟩ : ∃ n : Nat, g = n := ⟨g.toNat, by omega⟩
    have hgn : g' < p.sizes.length := by omega
    have hcnt := right_counts (checkShelf_zero.1 hz1).1
    have hlen := right_len hz1
    have hle := Nat.le_of_eq hlen
    clear hlen hbb hz2 hz3
    have hfin := Lib.hid (sumE_ok hz)
    have hz' := Lib.hid hz
    go_wp2_with fail
    clear hz
    go_loop [9, 21, 11] (fun n i _ => ∃ k : Nat, k ≤ on.length ∧ i = .int .i64 k ∧ n = .int .i64 (sumTo (fun b => cell on b g') k)) (fun _ i _ => on.length - (intOf i).toNat)
    case atStart => exact ⟨0, Nat.zero_le _, rfl, rfl⟩
    case round =>
      obtain ⟨k, hk, rfl, rfl⟩ := hrel
      by_cases hlt : k < on.length
      · obtain ⟨A', c', hok, hAb, hcu, hsu⟩ := (hO.up hbw hbw.size).row hlt
        have hgr : g' < (rowAt on k).length := by rw [right_row hz1 hlt]; exact hgn
        obtain ⟨hok2, hAb2, b2⟩ := hsu.at_.int hgr
        obtain ⟨u1, u2⟩ := sum_range hz1 hgn hk
        have hu2 : sumTo (fun b => cell on b g') k ≤ 9000 := by omega
        obtain ⟨q1, q2⟩ := right_cell hz1 hlt hgn
        unfold cell at q1 q2
        clear u2
        go_wp2_with fail
        go_round
        case rel => exact ⟨k + 1, by omega, by go_num, rfl⟩
        case measure => simp [intOf]; omega
      · obtain rfl : k = on.length := by omega
        go_wp2_with fail
        go_ret2
        exact ⟨ret2 (by rw [hfin.out]; rfl) (by rw [hz'.out]; rfl), hbw⟩
  · have hfin := Lib.hid (sumE_no hz)
    have hz' := Lib.hid hz
    go_wp2_with fail
    go_ret2
    exact ⟨ret2 (by rw [hfin.out]; rfl) rfl, hbw⟩
end Wh
