/- Texts of the claim, joined: StateN, StateP, RecvL, AllocL, FillB, PickB, FillF, Choose, FillX. -/
import Derived.StillTailTactics
import Derived.Deep.RegionLaw
import Derived.Test.YtbmklcloknpniaaChecked
import Derived.Test.YtbmklcloknpniaaQ11
import Derived.Test.YtbmklcloknpniaaQ08
import Derived.Test.YtbmklcloknpniaaQ05
import Derived.Test.YtbmklcloknpniaaQ06
import Derived.Test.YtbmklcloknpniaaQ07
import Derived.Test.YtbmklcloknpniaaQ13
import Derived.Test.YtbmklcloknpniaaQ12
import Derived.Test.YtbmklcloknpniaaQ03
import Derived.Test.YtbmklcloknpniaaQ04
import Derived.Test.YtbmklcloknpniaaQ14
import Derived.Test.YtbmklcloknpniaaQ15
import Derived.Test.YtbmklcloknpniaaQ01
import Derived.Test.YtbmklcloknpniaaQ02
namespace Wh
open Go Go.RowKit Go.Shelf Go.Proofs
attribute [local go_sem] run_indexAt_letter evL_tmp evL_const evL_func

theorem Own.at_block {α : Type} {enc : α → List Value} {size : Nat} {e : TypeId} {w : World} {base g : Nat} {cs : Array Value} {l : List α} (hb : base ≤ g) (hg : w.heap[g]? = some (.cells cs e)) (hc : cs.toList = l.flatMap enc)
    (hk : ∀ x, (enc x).length = size) (hl : l.length ≤ 1000000) : Own enc size e w base (.slice (some ⟨g, 0, none⟩) l.length l.length) l := by
  refine ⟨by rw [flat_length enc size hk], .inr ⟨g, l.length, cs, rfl, hb, hg, Nat.le_refl _, by unfold maxLen; omega, ?_, ?_⟩⟩
  · rw [← Array.length_toList, hc, flat_length enc size hk]
  · rw [hc, ← flat_length enc size hk, List.take_length]

def busyS : State := ⟨[[9, 0], [3, 0], [0, 6]], [⟨1, [⟨0, 6, 1, 0⟩, ⟨1, 9, 0, 3⟩]⟩, ⟨0, [⟨0, 4, 0, 0⟩]⟩], [⟨0, 0, 0, 2⟩, ⟨0, 0, 1, 3⟩, ⟨0, 1, 2, 6⟩], [⟨0, 0, 1, 5⟩], [13, 6], [1, 0], [0, 0]⟩
def busyV (n : Nat) : SV :=
  ⟨.slice (some ⟨n + 4, 0, none⟩) 3 3, .slice (some ⟨n + 7, 0, none⟩) 2 2, .slice (some ⟨n + 8, 0, none⟩) 3 3, .slice (some ⟨n + 9, 0, none⟩) 1 1, .slice (some ⟨n + 10, 0, none⟩) 2 2, .slice (some ⟨n + 11, 0, none⟩) 2 2, .slice (some ⟨n + 12, 0, none⟩) 2 2,
   [.slice (some ⟨n + 1, 0, none⟩) 2 2, .slice (some ⟨n + 2, 0, none⟩) 2 2, .slice (some ⟨n + 3, 0, none⟩) 2 2], [.slice (some ⟨n + 5, 0, none⟩) 2 2, .slice (some ⟨n + 6, 0, none⟩) 1 1]⟩
def busyO (n : Nat) : List Obj := [
  .cells (busyV n).cells.toArray 31,
  .cells #[.int .i64 9, .int .i64 0] 3, .cells #[.int .i64 3, .int .i64 0] 3, .cells #[.int .i64 0, .int .i64 6] 3,
  .cells #[.slice (some ⟨n + 1, 0, none⟩) 2 2, .slice (some ⟨n + 2, 0, none⟩) 2 2, .slice (some ⟨n + 3, 0, none⟩) 2 2] 23,
  .cells #[.int .i64 0, .int .i64 6, .int .i64 1, .int .i64 0, .int .i64 1, .int .i64 9, .int .i64 0, .int .i64 3] 70,
  .cells #[.int .i64 0, .int .i64 4, .int .i64 0, .int .i64 0] 70,
  .cells #[.int .i64 1, .slice (some ⟨n + 5, 0, none⟩) 2 2, .int .i64 0, .slice (some ⟨n + 6, 0, none⟩) 1 1] 58,
  .cells #[.int .i64 0, .int .i64 0, .int .i64 0, .int .i64 2, .int .i64 0, .int .i64 0, .int .i64 1, .int .i64 3, .int .i64 0, .int .i64 1, .int .i64 2, .int .i64 6] 65,
  .cells #[.int .i64 0, .int .i64 0, .int .i64 1, .int .i64 5] 42,
  .cells #[.int .i64 13, .int .i64 6] 3, .cells #[.int .i64 1, .int .i64 0] 3, .cells #[.int .i64 0, .int .i64 0] 3]
def lay (w : World) (os : List Obj) : World := { w with heap := w.heap ++ os.toArray }
theorem lay_alloc (w : World) (os : List Obj) (o : Obj) : (lay w os).alloc o = lay w (os ++ [o]) := by
  unfold lay World.alloc
  simp
theorem lay_nil (w : World) : lay w [] = w := by unfold lay; simp
theorem lay_foldl (w : World) (os : List Obj) : lay w os = os.foldl World.alloc w := by
  suffices h : ∀ (os ps : List Obj), lay w (ps ++ os) = os.foldl World.alloc (lay w ps) by
    have := h os []
    rwa [lay_nil] at this
  intro os
  induction os with
  | nil => intro ps; simp
  | cons o os ih =>
    intro ps
    have := ih (ps ++ [o])
    rw [List.foldl_cons, lay_alloc, ← this]
    simp
theorem lay_below (w : World) (os : List Obj) : Below w.heap.size w (lay w os) := below_wld w w.drawn os.toArray
theorem lay_at (w : World) (os : List Obj) (i : Nat) : (lay w os).heap[w.heap.size + i]? = os[i]? := by
  unfold lay
  rw [Array.getElem?_append_right (by omega)]
  simp
theorem busyOwn (w : World) : OwnSt (lay w (busyO w.heap.size)) w.heap.size (busyV w.heap.size) busyS := by
  have H := lay_at w (busyO w.heap.size)
  refine ⟨Own.at_block (by omega) (H 4) rfl (fun _ => rfl) (by simp [busyV]), rfl, fun b hb => ?_, Own.at_block (by omega) (H 7) rfl (fun _ => rfl) (by simp [ords, busyS, busyV]), rfl, fun o ho => ?_, Own.at_block (by omega) (H 8) rfl (fun _ => rfl) (by decide), Own.at_block (by omega) (H 9) rfl (fun _ => rfl) (by decide),
    Own.at_block (by omega) (H 10) rfl (fun _ => rfl) (by decide), Own.at_block (by omega) (H 11) rfl (fun _ => rfl) (by decide), Own.at_block (by omega) (H 12) rfl (fun _ => rfl) (by decide), ?_, ?_⟩
  · match b, hb with
    | 0, _ => exact Own.at_block (l := ([9, 0] : List Int)) (by omega) (H 1) rfl (fun _ => rfl) (by decide)
    | 1, _ => exact Own.at_block (l := ([3, 0] : List Int)) (by omega) (H 2) rfl (fun _ => rfl) (by decide)
    | 2, _ => exact Own.at_block (l := ([0, 6] : List Int)) (by omega) (H 3) rfl (fun _ => rfl) (by decide)
    | b + 3, hb => simp [busyS] at hb; omega
  · match o, ho with
    | 0, _ => exact Own.at_block (l := ([⟨0, 6, 1, 0⟩, ⟨1, 9, 0, 3⟩] : List Line)) (by omega) (H 5) rfl (fun _ => rfl) (by decide)
    | 1, _ => exact Own.at_block (l := ([⟨0, 4, 0, 0⟩] : List Line)) (by omega) (H 6) rfl (fun _ => rfl) (by decide)
    | o + 2, ho => simp [busyS] at ho; omega
  · unfold apartL busyV
    simp [Value.ownBlock]
  · unfold apartL busyV
    simp [Value.ownBlock]

set_option maxHeartbeats 4000000 in
theorem lBusy (w : World) : Calls Try.prog 16 #[] w fun e w' => ∃ V, e = .returned V.val ∧ OwnSt w' w.heap.size V busyS ∧ Below w.heap.size w w' := by
  go_enter Try.func16, Try.ntmps16
  go_wp2_with fail
  have h1 := busyOwn w
  have h2 := lay_below w (busyO w.heap.size)
  rw [lay_foldl] at h1 h2
  refine bodyPost_ret (v := (busyV w.heap.size).val) ?_ rfl ⟨busyV w.heap.size, rfl, h1, h2⟩
  simp [results, Try.results16, go_sem, SV.val, busyV]

def small (s : State) : Bool := decide (s.on.length ≤ 1000) && s.on.all (fun r => decide (r.length ≤ 1000)) && decide (s.orders.length ≤ 1000) && s.orders.all (fun o => decide (o.lines.length ≤ 1000)) && decide (s.holds.length ≤ 1000) && decide (s.moves.length ≤ 1000) && decide (s.inn.length ≤ 1000) && decide (s.out.length ≤ 1000) && decide (s.fixed.length ≤ 1000)
/-- It reads as the state, however that is. -/
theorem OwnSt.view0 {w : World} {base : Nat} {V : SV} {s : State} (h : OwnSt w base V s) (hs : small s = true) : StateV w w.heap.size V.val s := by
  unfold small at hs
  simp only [Bool.and_eq_true, decide_eq_true_eq, List.all_eq_true] at hs
  obtain ⟨⟨⟨⟨⟨⟨⟨⟨s1, s2⟩, s3⟩, s4⟩, s5⟩, s6⟩, s7⟩, s8⟩, s9⟩ := hs
  obtain ⟨A, c, hv, _, hA⟩ := h.on.sl (by rw [h.rlen]; omega)
  obtain ⟨A1, c1, hv1, _, hA1⟩ := h.orders.sl (by rw [ords_length h.llen]; omega)
  refine ⟨_, _, _, _, _, _, _, rfl, ⟨A, c, V.rows, by rw [hv, h.rlen], by omega, h.rlen, ?_, fun i x hi => ?_⟩, ⟨A1, c1, V.lines, by rw [hv1, ords_length h.llen], by omega, h.llen, ?_, fun i x hi => ?_⟩, h.holds.sl (by omega), h.moves.sl (by omega), h.inn.sl (by omega), h.out.sl (by omega), h.fixed.sl (by omega)⟩
  · have : V.rows.flatMap (fun u => [u]) = V.rows := by simp
    rw [this] at hA
    exact hA
  · have hil : i < s.on.length := (List.getElem?_eq_some_iff.1 hi).1
    have hx : rowAt s.on i = x := by rw [rowAt_eq hil]; exact (List.getElem?_eq_some_iff.1 hi).2
    have := s2 x (List.mem_of_getElem? hi)
    exact ⟨_, h.rowGet hil, by rw [← hx]; exact (h.row i hil).sl (by rw [hx]; omega)⟩
  · have e : (s.orders.zip V.lines).flatMap (fun x => [Value.int .i64 x.1.kind, x.2]) = (ords s.orders V.lines).flatMap cOrd := by
      unfold ords cOrd
      rw [List.zip_eq_zipWith, List.flatMap_def, List.flatMap_def, List.map_zipWith, List.map_zipWith]
    rw [e]
    exact hA1
  · have hil : i < s.orders.length := (List.getElem?_eq_some_iff.1 hi).1
    have hx : s.order i = x := by unfold State.order; rw [orderAt_eq hil]; exact (List.getElem?_eq_some_iff.1 hi).2
    have := s4 x (List.mem_of_getElem? hi)
    exact ⟨_, h.lineGet hil, by rw [← hx]; exact (h.line i hil).sl (by rw [hx]; omega)⟩
end Wh
namespace Wh
open Go Go.RowKit Go.Shelf Go.Proofs
attribute [local go_sem] run_indexAt_letter evL_tmp evL_const evL_func

section
variable {p : Plan} {s : State} {b g n e : Int} (w : World) (v vs : Value) (hp : PlanV w w.heap.size v p) (hv : StateV w w.heap.size vs s)
include hp hv
theorem sFreeAt (h : freeE p s b = (n, e)) : Calls Try.prog 7 #[v, vs, .int .i64 b] w fun x w' => x = .returned (.tuple #[.int .i64 n, .int .i64 e]) ∧ Below w.heap.size w w' := by
  have := sFree w v vs p s b hp hv
  rwa [h] at this
theorem sCheckAt (h : checkState p s = e) : Calls Try.prog 8 #[v, vs] w fun x w' => x = .returned (.int .i64 e) ∧ Below w.heap.size w w' := by
  have := sCheck w v vs p s hp hv
  rwa [h] at this
end
section
variable {p : Plan} {on : List (List Int)} {b g e : Int} (w : World) (v vo : Value) (hp : PlanV w w.heap.size v p) (ho : SlSl cInt w w.heap.size vo on)
include hp ho
end
end Wh
namespace Wh
open Go Go.RowKit Go.Shelf Go.Proofs
attribute [local go_sem] run_indexAt_letter evL_tmp evL_const evL_func

theorem sane_small {p : Plan} {s : State} (h : Sane p s) : small s = true := by
  have hc := h.counts
  have h4 := h.orders4
  have h8 := h.moves8
  have h72 := ok_len72 h.holds
  unfold small
  simp only [Bool.and_eq_true, decide_eq_true_eq, List.all_eq_true]
  refine ⟨⟨⟨⟨⟨⟨⟨⟨?_, fun r hr => ?_⟩, ?_⟩, fun o ho => ?_⟩, ?_⟩, ?_⟩, ?_⟩, ?_⟩, ?_⟩
  · rw [h.onLen]; omega
  · obtain ⟨i, hi, rfl⟩ := List.getElem_of_mem hr
    have h1 := h.rowLen (b := i) (by rw [← h.onLen]; exact hi)
    rw [rowAt_eq hi] at h1
    omega
  · omega
  · obtain ⟨i, hi, rfl⟩ := List.getElem_of_mem ho
    have h1 := h.lines3 hi
    unfold State.order at h1
    rw [orderAt_eq hi] at h1
    omega
  · omega
  · omega
  · rw [h.inn.1]; omega
  · rw [h.out.1]; omega
  · rw [h.fixed.1]; omega
theorem check_small {p : Plan} {s : State} (h : checkState p s = 0) : small s = true := sane_small (checkState_zero.1 h).1
theorem ActPost.at {r : State × Int} {c : Int} (hc : r.2 = c) {w : World} {e : Ending} {w' : World} (h : ActPost r w e w') : ∃ V, e = .returned (.tuple #[V.val, .int .i64 c]) ∧ OwnSt w' w.heap.size V r.1 ∧ Below w.heap.size w w' := by rw [← hc]; exact h
end Wh
namespace Wh
open Go Go.RowKit Go.Shelf Go.Proofs
attribute [local go_sem] run_indexAt_letter evL_tmp evL_const evL_func

theorem At.tail {w : World} {B g o : Nat} {xs ys : List Value} (h : At w B (some ⟨g, o, none⟩) (xs ++ ys)) : At w B (some ⟨g, o + xs.length, none⟩) ys := by
  intro hn
  obtain ⟨h1, h2, h3⟩ := h (by simp [hn])
  refine ⟨⟨g, _, rfl⟩, h2, fun j v hj => ?_⟩
  have := h3 (xs.length + j) v (by rw [List.getElem?_append_right (by omega), Nat.add_sub_cancel_left]; exact hj)
  rw [← Nat.add_assoc] at this
  exact this
end Wh
namespace Wh
open Go Go.RowKit Go.Shelf Go.Proofs
attribute [local go_sem] run_indexAt_letter evL_tmp evL_const evL_func

/-- The moves' slice has room for what it holds. -/
def MvCap (v : Value) : Prop := ∃ v0 v1 v2 A n c v4 v5 v6, v = .agg #[v0, v1, v2, .slice A n c, v4, v5, v6] ∧ n ≤ c
theorem MvCap.at {v0 v1 v2 v4 v5 v6 : Value} {A : Option Addr} {n c : Nat} (h : MvCap (.agg #[v0, v1, v2, .slice A n c, v4, v5, v6])) : n ≤ c := by
  obtain ⟨_, _, _, _, _, _, _, _, _, e, h⟩ := h
  injection e with e
  simp only [Array.mk.injEq, List.cons.injEq, and_true] at e
  obtain ⟨_, _, _, e3, _⟩ := e
  injection e3 with e1 e2 e3
  omega
end Wh
namespace Wh
open Go Go.RowKit Go.Shelf Go.Proofs
attribute [local go_sem] run_indexAt_letter evL_tmp evL_const evL_func

theorem drop_zero {l : List Hold} {o k b : Int} (hok : holdsOk l = true) (h : keptAt l o k b = 0) : drop l o k b = ([], 0, 4) := by
  unfold drop
  rw [hok, if_neg (by simp), if_pos h]
end Wh
namespace Wh
open Go Go.RowKit Go.Shelf Go.Proofs
attribute [local go_sem] run_indexAt_letter evL_tmp evL_const evL_func

def lackS : State := ⟨[[0, 9], [0, 1], [0, 9]], [], [], [], [0, 19], [0, 0], [0, 0]⟩
def lackV (n : Nat) : SV :=
  ⟨.slice (some ⟨n + 3, 0, none⟩) 3 3, .slice none 0 0, .slice none 0 0, .slice none 0 0, .slice (some ⟨n + 4, 0, none⟩) 2 2, .slice (some ⟨n + 5, 0, none⟩) 2 2, .slice (some ⟨n + 6, 0, none⟩) 2 2,
   [.slice (some ⟨n + 0, 0, none⟩) 2 2, .slice (some ⟨n + 1, 0, none⟩) 2 2, .slice (some ⟨n + 2, 0, none⟩) 2 2], []⟩
def lackO (n : Nat) : List Obj := [
  .cells #[.int .i64 0, .int .i64 9] 3, .cells #[.int .i64 0, .int .i64 1] 3, .cells #[.int .i64 0, .int .i64 9] 3,
  .cells #[.slice (some ⟨n + 0, 0, none⟩) 2 2, .slice (some ⟨n + 1, 0, none⟩) 2 2, .slice (some ⟨n + 2, 0, none⟩) 2 2] 23,
  .cells #[.int .i64 0, .int .i64 19] 3, .cells #[.int .i64 0, .int .i64 0] 3, .cells #[.int .i64 0, .int .i64 0] 3]
theorem lackOwn (w : World) : OwnSt (lay w (lackO w.heap.size)) w.heap.size (lackV w.heap.size) lackS := by
  have H := lay_at w (lackO w.heap.size)
  refine ⟨Own.at_block (by omega) (H 3) rfl (fun _ => rfl) (by simp [lackV]), rfl, fun b hb => ?_, Own.nil, rfl, fun o ho => absurd ho (by simp [lackS]), Own.nil, Own.nil,
    Own.at_block (by omega) (H 4) rfl (fun _ => rfl) (by decide), Own.at_block (by omega) (H 5) rfl (fun _ => rfl) (by decide), Own.at_block (by omega) (H 6) rfl (fun _ => rfl) (by decide), ?_, ?_⟩
  · match b, hb with
    | 0, _ => exact Own.at_block (l := ([0, 9] : List Int)) (by omega) (H 0) rfl (fun _ => rfl) (by decide)
    | 1, _ => exact Own.at_block (l := ([0, 1] : List Int)) (by omega) (H 1) rfl (fun _ => rfl) (by decide)
    | 2, _ => exact Own.at_block (l := ([0, 9] : List Int)) (by omega) (H 2) rfl (fun _ => rfl) (by decide)
    | b + 3, hb => simp [lackS] at hb; omega
  · unfold apartL lackV
    simp [Value.ownBlock]
  · unfold apartL lackV
    simp [Value.ownBlock]

def flA : State := (fill yardP busyS).1
def flB : State := (moved yardP busyS 0 4).1
def flC : State := (fill yardP lackS).1
theorem begF1 : fill yardP busyS = (flA, 0) := Prod.ext rfl (by decide +kernel)
theorem begM1 : moved yardP busyS 0 4 = (flB, 0) := Prod.ext rfl (by decide +kernel)
theorem begM2 : moved yardP busyS 1 0 = (dState, 4) := by decide +kernel
theorem begM3 : moved yardP busyS 0 6 = (dState, 3) := by decide +kernel
theorem begF2 : fill yardP lackS = (flC, 0) := Prod.ext rfl (by decide +kernel)
theorem begFl {s : State} {r : State × Int} (h : fill yardP s = r) (w : World) (v vs : Value) (hp : PlanV w w.heap.size v yardP) (hv : StateV w w.heap.size vs s) :
    Calls Try.prog 4 #[v, vs] w (ActPost r w) := by
  rw [← h]
  exact flFill w v vs yardP s hp hv
theorem begMv {k n : Int} {r : State × Int} (h : moved yardP busyS k n = r) (w : World) (v vs : Value) (hp : PlanV w w.heap.size v yardP) (hv : StateV w w.heap.size vs busyS) :
    Calls Try.prog 9 #[v, vs, .int .i64 k, .int .i64 n] w (ActPost r w) := by
  rw [← h]
  exact flMoved w v vs yardP busyS k n hp hv
theorem flA_moves : flA.moves.length = 1 := by decide +kernel
theorem flB_on : flB.on.length = 3 := by decide +kernel
theorem flB_row0 : (rowAt flB.on 0).length = 2 := by decide +kernel
theorem flB_row1 : (rowAt flB.on 1).length = 2 := by decide +kernel
theorem flB_cell0 : cell flB.on 0 0 = 5 := by decide +kernel
theorem flB_cell1 : cell flB.on 1 0 = 7 := by decide +kernel
theorem flB_moves : flB.moves.length = 0 := by decide +kernel
theorem flC_moves : flC.moves.length = 1 := by decide +kernel
theorem flC_move : moveAt flC.moves 0 = ⟨1, 0, 1, 7⟩ := by decide +kernel

set_option maxHeartbeats 4000000 in
set_option maxRecDepth 100000 in
theorem fillBegun (w : World) : Calls Try.prog 5 #[] w fun e w' => e = .returned (.bool true) ∧ Below w.heap.size w w' := by
  go_enter Try.func5, Try.ntmps5
  go_wp2_with fail
  refine (lYard _).mono ?_
  rintro e W1 ⟨u1, rfl, hu1, hb1⟩
  go_wp2_with fail
  refine (lBusy _).mono ?_
  rintro e W2 ⟨V2, rfl, ho2, hb2⟩
  go_wp2_with fail
  refine (begFl begF1 W2 _ _ (hu1.grow hb2) (ho2.view0 (by decide))).mono ?_
  rintro e W3 ⟨V3, rfl, ho3, hb3⟩
  have hone4 := (ho3).one
  have hnb4 := newBox (W3)
  go_wp2_with (refine wpList_store_state rfl (.tmp 1) (.tmp 15) rfl rfl (World.heap (W3)).size nilSV V3 hnb4 rfl rfl hone4 (fun w4 hbox4 hg4 => ?_); refine Hid.out ?_)
  unfold Hid
  have hbb4 := newBelow hg4
  have hbl4 := hbox4.lt
  clear hone4 hnb4 hg4
  have ha4 := hb1.trans ((hb2.trans ((hb3.trans (hbb4.mono hb3.size)).mono hb2.size)).mono hb1.size)
  have ho4 := Lib.hid (ho3.below hbb4)
  have hbox4' := Lib.hid hbox4
  clear ho3 hbox4 hbb4 hb3 hb2 hb1 hu1 ho2
  go_wp2_with fail
  refine (lYard _).mono ?_
  rintro e W5 ⟨u5, rfl, hu5, hb5⟩
  go_wp2_with fail
  refine (lBusy _).mono ?_
  rintro e W6 ⟨V6, rfl, ho6, hb6⟩
  go_wp2_with fail
  refine (begMv begM1 W6 _ _ (hu5.grow hb6) (ho6.view0 (by decide))).mono ?_
  rintro e W7 ⟨V7, rfl, ho7, hb7⟩
  have hone8 := (ho7).one
  have hnb8 := newBox (W7)
  go_wp2_with (refine wpList_store_state rfl (.tmp 3) (.tmp 21) rfl rfl (World.heap (W7)).size nilSV V7 hnb8 rfl rfl hone8 (fun w8 hbox8 hg8 => ?_); refine Hid.out ?_)
  unfold Hid
  have hbb8 := newBelow hg8
  have hbl8 := hbox8.lt
  clear hone8 hnb8 hg8
  have ha8 := hb5.trans ((hb6.trans ((hb7.trans (hbb8.mono hb7.size)).mono hb6.size)).mono hb5.size)
  have ho8 := Lib.hid (ho7.below hbb8)
  have hbox8' := Lib.hid hbox8
  clear ho7 hbox8 hbb8 hb7 hb6 hb5 hu5 ho6
  go_wp2_with fail
  refine (lYard _).mono ?_
  rintro e W9 ⟨u9, rfl, hu9, hb9⟩
  go_wp2_with fail
  refine (lBusy _).mono ?_
  rintro e W10 ⟨V10, rfl, ho10, hb10⟩
  go_wp2_with fail
  refine (begMv begM2 W10 _ _ (hu9.grow hb10) (ho10.view0 (by decide))).mono ?_
  rintro e W11 ⟨V11, rfl, ho11, hb11⟩
  have hone12 := (ho11).one
  have hnb12 := newBox (W11)
  go_wp2_with (refine wpList_store_state rfl (.tmp 5) (.tmp 27) rfl rfl (World.heap (W11)).size nilSV V11 hnb12 rfl rfl hone12 (fun w12 hbox12 hg12 => ?_); refine Hid.out ?_)
  unfold Hid
  have hbb12 := newBelow hg12
  have hbl12 := hbox12.lt
  clear hone12 hnb12 hg12
  have ha12 := hb9.trans ((hb10.trans ((hb11.trans (hbb12.mono hb11.size)).mono hb10.size)).mono hb9.size)
  have ho12 := Lib.hid (ho11.below hbb12)
  have hbox12' := Lib.hid hbox12
  clear ho11 hbox12 hbb12 hb11 hb10 hb9 hu9 ho10
  go_wp2_with fail
  refine (lYard _).mono ?_
  rintro e W13 ⟨u13, rfl, hu13, hb13⟩
  go_wp2_with fail
  refine (lBusy _).mono ?_
  rintro e W14 ⟨V14, rfl, ho14, hb14⟩
  go_wp2_with fail
  refine (begMv begM3 W14 _ _ (hu13.grow hb14) (ho14.view0 (by decide))).mono ?_
  rintro e W15 ⟨V15, rfl, ho15, hb15⟩
  have hone16 := (ho15).one
  have hnb16 := newBox (W15)
  go_wp2_with (refine wpList_store_state rfl (.tmp 7) (.tmp 33) rfl rfl (World.heap (W15)).size nilSV V15 hnb16 rfl rfl hone16 (fun w16 hbox16 hg16 => ?_); refine Hid.out ?_)
  unfold Hid
  have hbb16 := newBelow hg16
  have hbl16 := hbox16.lt
  clear hone16 hnb16 hg16
  have ha16 := hb13.trans ((hb14.trans ((hb15.trans (hbb16.mono hb15.size)).mono hb14.size)).mono hb13.size)
  have ho16 := Lib.hid (ho15.below hbb16)
  have hbox16' := Lib.hid hbox16
  clear ho15 hbox16 hbb16 hb15 hb14 hb13 hu13 ho14
  go_wp2_with fail
  refine (lYard _).mono ?_
  rintro e W17 ⟨u17, rfl, hu17, hb17⟩
  go_wp2_with fail
  have k1 := lackOwn W17
  have k2 := lay_below W17 (lackO W17.heap.size)
  rw [lay_foldl] at k1 k2
  refine (begFl begF2 _ _ _ (hu17.grow k2) (k1.view0 (by decide))).mono ?_
  rintro e W19 ⟨V19, rfl, ho19, hb19⟩
  have hone20 := (ho19).one
  have hnb20 := newBox (W19)
  go_wp2_with (refine wpList_store_state rfl (.tmp 9) (.tmp 46) rfl rfl (World.heap (W19)).size nilSV V19 hnb20 rfl rfl hone20 (fun w20 hbox20 hg20 => ?_); refine Hid.out ?_)
  unfold Hid
  have hbb20 := newBelow hg20
  have hbl20 := hbox20.lt
  clear hone20 hnb20 hg20
  have ha20 := hb17.trans ((k2.trans ((hb19.trans (hbb20.mono hb19.size)).mono k2.size)).mono hb17.size)
  have h12z := ha16.trans (ha20.mono ha16.size)
  have h8z := ha12.trans (h12z.mono ha12.size)
  have h4z := ha8.trans (h8z.mono ha8.size)
  have hB := ha4.trans (h4z.mono ha4.size)
  have hA := ho4.out.below h4z
  have hBs := ho8.out.below h8z
  have hC := ho19.below hbb20
  have hbA := hbox4'.out.below h4z hbl4
  have hbB := hbox8'.out.below h8z hbl8
  have hbC := hbox20
  clear ho19 hbox20 hbb20 hb19 hb17 hu17 k1 k2 ho4 ho8 ho12 ho16 hbox4' hbox8' hbox12' hbox16' ha20 ha16 ha12 ha8 ha4 h12z h8z h4z
  obtain ⟨_, _, _, pA3, _, _, _⟩ := hbA.cells
  obtain ⟨pB0, _, _, pB3, _, _, _⟩ := hbB.cells
  obtain ⟨_, _, _, pC3, _, _, _⟩ := hbC.cells
  obtain ⟨Aa, ca, va⟩ := hA.moves.isSlice
  rw [flA_moves] at va
  rw [va] at pA3
  obtain ⟨Ab, cb, vb⟩ := hBs.moves.isSlice
  rw [flB_moves] at vb
  rw [vb] at pB3
  obtain ⟨gon, con, cur0, gr, cr, cur, eon, _, _, r0, _, _, _, rc⟩ := hBs.onAt (b := 0) (g := 0) (by rw [flB_on]; decide) (by rw [flB_row0]; decide)
  obtain ⟨gon', con', cur0', gr', cr', cur', eon', _, _, r0', _, _, _, rc'⟩ := hBs.onAt (b := 1) (g := 0) (by rw [flB_on]; decide) (by rw [flB_row1]; decide)
  rw [eon] at eon'
  injection eon' with e1 e2 e3
  injection e1 with e1
  injection e1 with e1
  subst e1
  rw [flB_on] at eon
  rw [flB_row0] at r0
  rw [flB_cell0] at rc
  rw [flB_row1] at r0'
  rw [flB_cell1] at rc'
  rw [eon] at pB0
  obtain ⟨gh, ch, curh, vH, _, _, hcell⟩ := hC.moves.at (fun _ => rfl) (show 0 < flC.moves.length by rw [flC_moves]; decide)
  rw [show flC.moves[0]'(by rw [flC_moves]; decide) = moveAt flC.moves 0 from (moveAt_eq _).symm, flC_move] at hcell
  rw [flC_moves] at vH
  rw [vH] at pC3
  have m0 : w20.cell? ⟨gh, 0, none⟩ = some (.int .i64 1) := hcell 0 _ rfl
  have m1 : w20.cell? ⟨gh, 1, none⟩ = some (.int .i64 0) := hcell 1 _ rfl
  have m2 : w20.cell? ⟨gh, 2, none⟩ = some (.int .i64 1) := hcell 2 _ rfl
  have m3 : w20.cell? ⟨gh, 3, none⟩ = some (.int .i64 7) := hcell 3 _ rfl
  clear hcell vH eon va vb hA hBs hC hbA hbB hbC e2 e3
  go_wp2_with fail
  go_ret
  exact ⟨rfl, hB⟩

end Wh
namespace Wh
open Go Go.RowKit Go.Shelf Go.Proofs
def chosen (c : Int) (n : Nat) : Nat := ((if c < 0 then -(c + 1) else c).tmod n).toNat
theorem chosen_lt (c : Int) {n : Nat} (hn : 0 < n) : chosen c n < n := by
  unfold chosen
  have h : 0 ≤ (if c < 0 then -(c + 1) else c) := by split <;> omega
  generalize (if c < 0 then -(c + 1) else c) = d at h
  have h1 := Int.tmod_lt_of_pos d (show (0 : Int) < n by omega)
  have h2 := Int.tmod_nonneg (n : Int) h
  omega
theorem lChoose (w : World) (c : Int) (n : Nat) (hn : 0 < n) (hn2 : n ≤ 1000000000) (hc : -9223372036854775808 ≤ c ∧ c ≤ 9223372036854775807) :
    Calls Try.prog 6 #[.int .i64 c, .int .i64 n] w fun e w' => e = .returned (.int .i64 (chosen c n)) ∧ w = w' := by
  have hne : ((n : Int) == 0) = false := by simp; omega
  by_cases h : c < 0
  · have e1 : ((chosen c n : Nat) : Int) = (-(c + 1)).tmod n := by
      unfold chosen
      rw [if_pos h, Int.toNat_of_nonneg (Int.tmod_nonneg _ (by omega))]
    have hw1 : IntKind.i64.wrap (c + 1) = c + 1 := IntWalk.i64_in _ (by omega)
    have hw2 : IntKind.i64.wrap (-(c + 1)) = -(c + 1) := IntWalk.i64_in _ (by omega)
    have e2 := Lib.hid e1
    clear e1
    go_enter Try.func6, Try.ntmps6
    go_wp2_with fail
    go_ret
    exact ⟨ret_int (by rw [e2.out, Int.neg_tmod]), rfl⟩
  · have e1 : ((chosen c n : Nat) : Int) = c.tmod n := by
      unfold chosen
      rw [if_neg h, Int.toNat_of_nonneg (Int.tmod_nonneg _ (by omega))]
    have e2 := Lib.hid e1
    clear e1
    go_enter Try.func6, Try.ntmps6
    go_wp2_with fail
    go_ret
    exact ⟨ret_int (by rw [e2.out, Int.tmod_eq_emod_of_nonneg (by omega)]), rfl⟩
end Wh
namespace Wh
open Go Go.RowKit Go.Shelf Go.Proofs
attribute [local go_sem] run_indexAt_letter evL_tmp evL_const evL_func

theorem flFillAt {p : Plan} {s x : State} {c : Int} (h : fill p s = (x, c)) (w : World) (v vs : Value) (hp : PlanV w w.heap.size v p) (hv : StateV w w.heap.size vs s) :
    Calls Try.prog 4 #[v, vs] w fun e w' => ∃ V : SV, e = .returned (.tuple #[V.val, .int .i64 c]) ∧ OwnSt w' w.heap.size V x ∧ Below w.heap.size w w' := by
  have := flFill w v vs p s hp hv
  rw [h] at this
  exact this
theorem flMovedAt {p : Plan} {s x : State} {k n c : Int} (h : moved p s k n = (x, c)) (w : World) (v vs : Value) (hp : PlanV w w.heap.size v p) (hv : StateV w w.heap.size vs s) :
    Calls Try.prog 9 #[v, vs, .int .i64 k, .int .i64 n] w fun e w' => ∃ V : SV, e = .returned (.tuple #[V.val, .int .i64 c]) ∧ OwnSt w' w.heap.size V x ∧ Below w.heap.size w w' := by
  have := flMoved w v vs p s k n hp hv
  rw [h] at this
  exact this
theorem filled_len {p : Plan} {s t : State} (h : Filled p s t) : s.moves.length ≤ t.moves.length := by
  obtain ⟨l, e, _⟩ := h.ext
  rw [e, List.length_append]
  omega
end Wh
