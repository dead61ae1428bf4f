/- Texts of the claim, joined: StateN, RecvL, AllocL, FillB. -/
import Derived.StillTailTactics
import Derived.Deep.RegionLaw
import Derived.Test.YtfhfkijmebhgmaaGreatQ19
import Derived.Test.YtfhfkijmebhgmaaGreatQ13
import Derived.Test.YtfhfkijmebhgmaaGreatQ10
import Derived.Test.YtfhfkijmebhgmaaGreatQ04
import Derived.Test.YtfhfkijmebhgmaaGreatQ08
import Derived.Test.YtfhfkijmebhgmaaGreatQ11
import Derived.Test.YtfhfkijmebhgmaaGreatQ23
import Derived.Test.YtfhfkijmebhgmaaGreatQ22
import Derived.Test.YtfhfkijmebhgmaaGreatQ24
import Derived.Test.YtfhfkijmebhgmaaGreatQ12
namespace Wh
open Go Go.RowKit Go.Shelf Go.Proofs
attribute [local go_sem] run_indexAt_letter evL_tmp evL_const evL_func

theorem Own.at_block {α : Type} {enc : α → List Value} {size : Nat} {e : TypeId} {w : World} {base g : Nat} {cs : Array Value} {l : List α} (hb : base ≤ g) (hg : w.heap[g]? = some (.cells cs e)) (hc : cs.toList = l.flatMap enc)
    (hk : ∀ x, (enc x).length = size) (hl : l.length ≤ 1000000) : Own enc size e w base (.slice (some ⟨g, 0, none⟩) l.length l.length) l := by
  refine ⟨by rw [flat_length enc size hk], .inr ⟨g, l.length, cs, rfl, hb, hg, Nat.le_refl _, by unfold maxLen; omega, ?_, ?_⟩⟩
  · rw [← Array.length_toList, hc, flat_length enc size hk]
  · rw [hc, ← flat_length enc size hk, List.take_length]

def busyS : State := ⟨[[9, 0], [3, 0], [0, 6]], [⟨1, [⟨0, 6, 1, 0⟩, ⟨1, 9, 0, 3⟩]⟩, ⟨0, [⟨0, 4, 0, 0⟩]⟩], [⟨0, 0, 0, 2⟩, ⟨0, 0, 1, 3⟩, ⟨0, 1, 2, 6⟩], [⟨0, 0, 1, 5⟩], [13, 6], [1, 0], [0, 0]⟩
def busyV (n : Nat) : SV :=
  ⟨.slice (some ⟨n + 4, 0, none⟩) 3 3, .slice (some ⟨n + 7, 0, none⟩) 2 2, .slice (some ⟨n + 8, 0, none⟩) 3 3, .slice (some ⟨n + 9, 0, none⟩) 1 1, .slice (some ⟨n + 10, 0, none⟩) 2 2, .slice (some ⟨n + 11, 0, none⟩) 2 2, .slice (some ⟨n + 12, 0, none⟩) 2 2,
   [.slice (some ⟨n + 1, 0, none⟩) 2 2, .slice (some ⟨n + 2, 0, none⟩) 2 2, .slice (some ⟨n + 3, 0, none⟩) 2 2], [.slice (some ⟨n + 5, 0, none⟩) 2 2, .slice (some ⟨n + 6, 0, none⟩) 1 1]⟩
def busyO (n : Nat) : List Obj := [
  .cells (busyV n).cells.toArray 31,
  .cells #[.int .i64 9, .int .i64 0] 3, .cells #[.int .i64 3, .int .i64 0] 3, .cells #[.int .i64 0, .int .i64 6] 3,
  .cells #[.slice (some ⟨n + 1, 0, none⟩) 2 2, .slice (some ⟨n + 2, 0, none⟩) 2 2, .slice (some ⟨n + 3, 0, none⟩) 2 2] 23,
  .cells #[.int .i64 0, .int .i64 6, .int .i64 1, .int .i64 0, .int .i64 1, .int .i64 9, .int .i64 0, .int .i64 3] 44,
  .cells #[.int .i64 0, .int .i64 4, .int .i64 0, .int .i64 0] 44,
  .cells #[.int .i64 1, .slice (some ⟨n + 5, 0, none⟩) 2 2, .int .i64 0, .slice (some ⟨n + 6, 0, none⟩) 1 1] 42,
  .cells #[.int .i64 0, .int .i64 0, .int .i64 0, .int .i64 2, .int .i64 0, .int .i64 0, .int .i64 1, .int .i64 3, .int .i64 0, .int .i64 1, .int .i64 2, .int .i64 6] 46,
  .cells #[.int .i64 0, .int .i64 0, .int .i64 1, .int .i64 5] 48,
  .cells #[.int .i64 13, .int .i64 6] 3, .cells #[.int .i64 1, .int .i64 0] 3, .cells #[.int .i64 0, .int .i64 0] 3]
def lay (w : World) (os : List Obj) : World := { w with heap := w.heap ++ os.toArray }
theorem lay_alloc (w : World) (os : List Obj) (o : Obj) : (lay w os).alloc o = lay w (os ++ [o]) := by
  unfold lay World.alloc
  simp
theorem lay_nil (w : World) : lay w [] = w := by unfold lay; simp
theorem lay_foldl (w : World) (os : List Obj) : lay w os = os.foldl World.alloc w := by
  suffices h : ∀ (os ps : List Obj), lay w (ps ++ os) = os.foldl World.alloc (lay w ps) by
    have := h os []
    rwa [lay_nil] at this
  intro os
  induction os with
  | nil => intro ps; simp
  | cons o os ih =>
    intro ps
    have := ih (ps ++ [o])
    rw [List.foldl_cons, lay_alloc, ← this]
    simp
theorem lay_below (w : World) (os : List Obj) : Below w.heap.size w (lay w os) := below_wld w w.drawn os.toArray
theorem lay_at (w : World) (os : List Obj) (i : Nat) : (lay w os).heap[w.heap.size + i]? = os[i]? := by
  unfold lay
  rw [Array.getElem?_append_right (by omega)]
  simp
theorem busyOwn (w : World) : OwnSt (lay w (busyO w.heap.size)) w.heap.size (busyV w.heap.size) busyS := by
  have H := lay_at w (busyO w.heap.size)
  refine ⟨Own.at_block (by omega) (H 4) rfl (fun _ => rfl) (by simp [busyV]), rfl, fun b hb => ?_, Own.at_block (by omega) (H 7) rfl (fun _ => rfl) (by simp [ords, busyS, busyV]), rfl, fun o ho => ?_, Own.at_block (by omega) (H 8) rfl (fun _ => rfl) (by decide), Own.at_block (by omega) (H 9) rfl (fun _ => rfl) (by decide),
    Own.at_block (by omega) (H 10) rfl (fun _ => rfl) (by decide), Own.at_block (by omega) (H 11) rfl (fun _ => rfl) (by decide), Own.at_block (by omega) (H 12) rfl (fun _ => rfl) (by decide), ?_, ?_⟩
  · match b, hb with
    | 0, _ => exact Own.at_block (l := ([9, 0] : List Int)) (by omega) (H 1) rfl (fun _ => rfl) (by decide)
    | 1, _ => exact Own.at_block (l := ([3, 0] : List Int)) (by omega) (H 2) rfl (fun _ => rfl) (by decide)
    | 2, _ => exact Own.at_block (l := ([0, 6] : List Int)) (by omega) (H 3) rfl (fun _ => rfl) (by decide)
    | b + 3, hb => simp [busyS] at hb; omega
  · match o, ho with
    | 0, _ => exact Own.at_block (l := ([⟨0, 6, 1, 0⟩, ⟨1, 9, 0, 3⟩] : List Line)) (by omega) (H 5) rfl (fun _ => rfl) (by decide)
    | 1, _ => exact Own.at_block (l := ([⟨0, 4, 0, 0⟩] : List Line)) (by omega) (H 6) rfl (fun _ => rfl) (by decide)
    | o + 2, ho => simp [busyS] at ho; omega
  · unfold apartL busyV
    simp [Value.ownBlock]
  · unfold apartL busyV
    simp [Value.ownBlock]

set_option maxHeartbeats 4000000 in
theorem lBusy (w : World) : Calls Tryz.prog 42 #[] w fun e w' => ∃ V, e = .returned V.val ∧ OwnSt w' w.heap.size V busyS ∧ Below w.heap.size w w' := by
  go_enter Tryz.func42, Tryz.ntmps42
  go_wp2_with fail
  have h1 := busyOwn w
  have h2 := lay_below w (busyO w.heap.size)
  rw [lay_foldl] at h1 h2
  refine bodyPost_ret (v := (busyV w.heap.size).val) ?_ rfl ⟨busyV w.heap.size, rfl, h1, h2⟩
  simp [results, Tryz.results42, go_sem, SV.val, busyV]

def small (s : State) : Bool := decide (s.on.length ≤ 1000) && s.on.all (fun r => decide (r.length ≤ 1000)) && decide (s.orders.length ≤ 1000) && s.orders.all (fun o => decide (o.lines.length ≤ 1000)) && decide (s.holds.length ≤ 1000) && decide (s.moves.length ≤ 1000) && decide (s.inn.length ≤ 1000) && decide (s.out.length ≤ 1000) && decide (s.fixed.length ≤ 1000)
/-- It reads as the state, however that is. -/
theorem OwnSt.view0 {w : World} {base : Nat} {V : SV} {s : State} (h : OwnSt w base V s) (hs : small s = true) : StateV w w.heap.size V.val s := by
  unfold small at hs
  simp only [Bool.and_eq_true, decide_eq_true_eq, List.all_eq_true] at hs
  obtain ⟨⟨⟨⟨⟨⟨⟨⟨s1, s2⟩, s3⟩, s4⟩, s5⟩, s6⟩, s7⟩, s8⟩, s9⟩ := hs
  obtain ⟨A, c, hv, _, hA⟩ := h.on.sl (by rw [h.rlen]; omega)
  obtain ⟨A1, c1, hv1, _, hA1⟩ := h.orders.sl (by rw [ords_length h.llen]; omega)
  refine ⟨_, _, _, _, _, _, _, rfl, ⟨A, c, V.rows, by rw [hv, h.rlen], by omega, h.rlen, ?_, fun i x hi => ?_⟩, ⟨A1, c1, V.lines, by rw [hv1, ords_length h.llen], by omega, h.llen, ?_, fun i x hi => ?_⟩, h.holds.sl (by omega), h.moves.sl (by omega), h.inn.sl (by omega), h.out.sl (by omega), h.fixed.sl (by omega)⟩
  · have : V.rows.flatMap (fun u => [u]) = V.rows := by simp
    rw [this] at hA
    exact hA
  · have hil : i < s.on.length := (List.getElem?_eq_some_iff.1 hi).1
    have hx : rowAt s.on i = x := by rw [rowAt_eq hil]; exact (List.getElem?_eq_some_iff.1 hi).2
    have := s2 x (List.mem_of_getElem? hi)
    exact ⟨_, h.rowGet hil, by rw [← hx]; exact (h.row i hil).sl (by rw [hx]; omega)⟩
  · have e : (s.orders.zip V.lines).flatMap (fun x => [Value.int .i64 x.1.kind, x.2]) = (ords s.orders V.lines).flatMap cOrd := by
      unfold ords cOrd
      rw [List.zip_eq_zipWith, List.flatMap_def, List.flatMap_def, List.map_zipWith, List.map_zipWith]
    rw [e]
    exact hA1
  · have hil : i < s.orders.length := (List.getElem?_eq_some_iff.1 hi).1
    have hx : s.order i = x := by unfold State.order; rw [orderAt_eq hil]; exact (List.getElem?_eq_some_iff.1 hi).2
    have := s4 x (List.mem_of_getElem? hi)
    exact ⟨_, h.lineGet hil, by rw [← hx]; exact (h.line i hil).sl (by rw [hx]; omega)⟩
end Wh
namespace Wh
open Go Go.RowKit Go.Shelf Go.Proofs
attribute [local go_sem] run_indexAt_letter evL_tmp evL_const evL_func

theorem sane_small {p : Plan} {s : State} (h : Sane p s) : small s = true := by
  have hc := h.counts
  have h4 := h.orders4
  have h8 := h.moves8
  have h72 := ok_len72 h.holds
  unfold small
  simp only [Bool.and_eq_true, decide_eq_true_eq, List.all_eq_true]
  refine ⟨⟨⟨⟨⟨⟨⟨⟨?_, fun r hr => ?_⟩, ?_⟩, fun o ho => ?_⟩, ?_⟩, ?_⟩, ?_⟩, ?_⟩, ?_⟩
  · rw [h.onLen]; omega
  · obtain ⟨i, hi, rfl⟩ := List.getElem_of_mem hr
    have h1 := h.rowLen (b := i) (by rw [← h.onLen]; exact hi)
    rw [rowAt_eq hi] at h1
    omega
  · omega
  · obtain ⟨i, hi, rfl⟩ := List.getElem_of_mem ho
    have h1 := h.lines3 hi
    unfold State.order at h1
    rw [orderAt_eq hi] at h1
    omega
  · omega
  · omega
  · rw [h.inn.1]; omega
  · rw [h.out.1]; omega
  · rw [h.fixed.1]; omega
theorem check_small {p : Plan} {s : State} (h : checkState p s = 0) : small s = true := sane_small (checkState_zero.1 h).1
theorem ActPost.at {r : State × Int} {c : Int} (hc : r.2 = c) {w : World} {e : Ending} {w' : World} (h : ActPost r w e w') : ∃ V, e = .returned (.tuple #[V.val, .int .i64 c]) ∧ OwnSt w' w.heap.size V r.1 ∧ Below w.heap.size w w' := by rw [← hc]; exact h
end Wh
namespace Wh
open Go Go.RowKit Go.Shelf Go.Proofs
attribute [local go_sem] run_indexAt_letter evL_tmp evL_const evL_func

theorem At.tail {w : World} {B g o : Nat} {xs ys : List Value} (h : At w B (some ⟨g, o, none⟩) (xs ++ ys)) : At w B (some ⟨g, o + xs.length, none⟩) ys := by
  intro hn
  obtain ⟨h1, h2, h3⟩ := h (by simp [hn])
  refine ⟨⟨g, _, rfl⟩, h2, fun j v hj => ?_⟩
  have := h3 (xs.length + j) v (by rw [List.getElem?_append_right (by omega), Nat.add_sub_cancel_left]; exact hj)
  rw [← Nat.add_assoc] at this
  exact this
end Wh
namespace Wh
open Go Go.RowKit Go.Shelf Go.Proofs
attribute [local go_sem] run_indexAt_letter evL_tmp evL_const evL_func

/-- The moves' slice has room for what it holds. -/
def MvCap (v : Value) : Prop := ∃ v0 v1 v2 A n c v4 v5 v6, v = .agg #[v0, v1, v2, .slice A n c, v4, v5, v6] ∧ n ≤ c
theorem MvCap.at {v0 v1 v2 v4 v5 v6 : Value} {A : Option Addr} {n c : Nat} (h : MvCap (.agg #[v0, v1, v2, .slice A n c, v4, v5, v6])) : n ≤ c := by
  obtain ⟨_, _, _, _, _, _, _, _, _, e, h⟩ := h
  injection e with e
  simp only [Array.mk.injEq, List.cons.injEq, and_true] at e
  obtain ⟨_, _, _, e3, _⟩ := e
  injection e3 with e1 e2 e3
  omega
theorem run_app_moves (w : World) (base : Nat) (v : Value) (l m : List Move) (hown : Own cMove 4 48 w base v l) (g o c B : Nat) (hA : At w B (some ⟨g, o, none⟩) (m.flatMap cMove)) (hn : l.length + m.length ≤ 1000) (hbase : base ≤ w.heap.size) :
    ∃ v' w', (Builtin.append_ #[29, 29] 29 #[v, .slice (some ⟨g, o, none⟩) m.length c]).run Tryz.prog w = .ok v' w' ∧ Own cMove 4 48 w' base v' (l ++ m) ∧ w.grownBy w' v.ownBlock ∧ Below base w w' := by
  obtain ⟨ii, hi, hz, hsize, hbytes⟩ := infoMove
  obtain ⟨v', w3, hr, hown3, hg3, _, _⟩ := run_append_own_at (P := Tryz.prog) w base 29 29 48 ii _ 4 32 Tryz.underlying29 hi hz hsize hbytes rfl (by decide) v _ _ hown ⟨g, o, none⟩ m.length c (m.flatMap cMove) (flat_length cMove 4 (fun _ => rfl) m)
    (fun j u hj => by rw [Addr.add_lit]; exact hA.cell hj) (fun u hu => by obtain ⟨y, _, hy⟩ := List.mem_flatMap.1 hu; exact oneMove y u hy) (by unfold maxLen; omega) (by omega) hbase
  refine ⟨v', w3, hr, ?_, hg3, (Below.refl _ _).grown hg3 hbase fun k hk => (World.ownsRow.lt hown k hk).1⟩
  unfold Own
  rw [List.length_append, List.flatMap_append]
  exact hown3
theorem At.head {w : World} {B : Nat} {A : Option Addr} {xs ys : List Value} (h : At w B A (xs ++ ys)) : At w B A xs := fun hn => by
  obtain ⟨h1, h2, h3⟩ := h (by simp [hn])
  refine ⟨h1, h2, fun j v hj => h3 j v ?_⟩
  rw [List.getElem?_append_left (by
    have := (List.getElem?_eq_some_iff.1 hj).1
    exact this)]
  exact hj

end Wh
