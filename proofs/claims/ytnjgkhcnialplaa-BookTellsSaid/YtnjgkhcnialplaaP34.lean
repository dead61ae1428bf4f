/- Texts of the claim, joined: OwnU, StateN. -/
import Derived.Test.YtnjgkhcnialplaaP12
import Derived.Test.YtnjgkhcnialplaaP32
import Derived.Test.YtnjgkhcnialplaaP33
import Derived.Test.YtnjgkhcnialplaaP23
namespace Wh
open Go Go.RowKit Go.Proofs

section
variable {α : Type} {enc : α → List Value} {size : Nat} {e : TypeId} {w : World} {base : Nat} {v : Value} {l : List α}
theorem Own.at (h : Own enc size e w base v l) (hk : ∀ x, (enc x).length = size) {i : Nat} (hi : i < l.length) :
    ∃ g c cur, v = .slice (some ⟨g, 0, none⟩) l.length c ∧ base ≤ g ∧ Blk w g e cur ∧ ∀ j u, (enc l[i])[j]? = some u → w.cell? ⟨g, i * size + j, none⟩ = some u := by
  obtain ⟨g, c, cur, h1, h2, h3, h4, h5, h6, h7⟩ := h.row (by omega)
  refine ⟨g, c, cur, h1, h2, h3, fun j u hj => h3.cell ?_⟩
  have hjs : j < size := by
    have := (List.getElem?_eq_some_iff.1 hj).1
    rwa [hk] at this
  have hf := flat_get enc size hk l i j l[i] (by simp [hi]) hjs
  rw [← h7] at hf
  rw [← hj, ← hf, List.getElem?_take]
  rw [if_pos]
  calc i * size + j < i * size + size := by omega
    _ = (i + 1) * size := by rw [Nat.add_mul]; omega
    _ ≤ l.length * size := Nat.mul_le_mul_right _ (by omega)
end

theorem Blk.ne {w : World} {g g' : Nat} {e e' : TypeId} {cur cur' : List Value} (h : Blk w g e cur) (h' : Blk w g' e' cur') (hne : e ≠ e') : g ≠ g' := by
  rintro rfl
  unfold Blk at h h'
  rw [h] at h'
  injection h' with h'
  injection h' with _ h3
  exact hne h3
/-- A store into a block of another type leaves a state's box. -/
theorem BoxAt.off {w w' : World} {b g : Nat} {V : SV} {e : TypeId} {cur : List Value} (h : BoxAt w b V) (hg : w.grownBy w' (some g)) (hb : Blk w g e cur) (hne : e ≠ 31) : BoxAt w' b V :=
  h.grown hg (by intro he; injection he with he; exact hb.ne h.blk hne he.symm)
namespace OwnSt
variable {w w' : World} {base : Nat} {V : SV} {s : State}
/-- The cells of a hold. -/
theorem holdAt (h : OwnSt w base V s) {k : Nat} (hk : k < s.holds.length) : ∃ g c cur, V.holds = .slice (some ⟨g, 0, none⟩) s.holds.length c ∧ base ≤ g ∧ Blk w g 87 cur ∧
    w.cell? ⟨g, k * 4, none⟩ = some (.int .i64 (hold s.holds k).order) ∧ w.cell? ⟨g, k * 4 + 1, none⟩ = some (.int .i64 (hold s.holds k).line) ∧ w.cell? ⟨g, k * 4 + 2, none⟩ = some (.int .i64 (hold s.holds k).bin) ∧ w.cell? ⟨g, k * 4 + 3, none⟩ = some (.int .i64 (hold s.holds k).n) := by
  obtain ⟨g, c, cur, h1, h2, h3, h4⟩ := h.holds.at (fun _ => rfl) hk
  have e : s.holds[k] = hold s.holds k := by simp [hold, hk]
  rw [e] at h4
  exact ⟨g, c, cur, h1, h2, h3, h4 0 _ rfl, h4 1 _ rfl, h4 2 _ rfl, h4 3 _ rfl⟩
/-- The cells of a move. -/
theorem moveAt (h : OwnSt w base V s) {k : Nat} (hk : k < s.moves.length) : ∃ g c cur, V.moves = .slice (some ⟨g, 0, none⟩) s.moves.length c ∧ base ≤ g ∧ Blk w g 92 cur ∧
    w.cell? ⟨g, k * 4, none⟩ = some (.int .i64 (Wh.moveAt s.moves k).good) ∧ w.cell? ⟨g, k * 4 + 1, none⟩ = some (.int .i64 (Wh.moveAt s.moves k).src) ∧ w.cell? ⟨g, k * 4 + 2, none⟩ = some (.int .i64 (Wh.moveAt s.moves k).dst) ∧ w.cell? ⟨g, k * 4 + 3, none⟩ = some (.int .i64 (Wh.moveAt s.moves k).n) := by
  obtain ⟨g, c, cur, h1, h2, h3, h4⟩ := h.moves.at (fun _ => rfl) hk
  have e : s.moves[k] = Wh.moveAt s.moves k := by simp [Wh.moveAt, hk]
  rw [e] at h4
  exact ⟨g, c, cur, h1, h2, h3, h4 0 _ rfl, h4 1 _ rfl, h4 2 _ rfl, h4 3 _ rfl⟩
/-- The cells of an order. -/
theorem orderAt (h : OwnSt w base V s) {o : Nat} (ho : o < s.orders.length) : ∃ g c cur, V.orders = .slice (some ⟨g, 0, none⟩) s.orders.length c ∧ base ≤ g ∧ Blk w g 73 cur ∧
    w.cell? ⟨g, o * 2, none⟩ = some (.int .i64 (s.order o).kind) ∧ w.cell? ⟨g, o * 2 + 1, none⟩ = some (V.line o) := by
  have hol : o < (ords s.orders V.lines).length := by rw [ords_length h.llen]; exact ho
  obtain ⟨g, c, cur, h1, h2, h3, h4⟩ := h.orders.at (fun _ => rfl) hol
  have e : (ords s.orders V.lines)[o] = ((s.order o).kind, V.line o) := by
    have := ords_get h.llen ho
    rw [List.getElem?_eq_getElem hol] at this
    exact Option.some.inj this
  rw [e] at h4
  rw [ords_length h.llen] at h1
  exact ⟨g, c, cur, h1, h2, h3, h4 0 _ rfl, h4 1 _ rfl⟩
/-- The cells of a line. -/
theorem lineAt (h : OwnSt w base V s) {o k : Nat} (ho : o < s.orders.length) (hk : k < (s.order o).lines.length) : ∃ g c cur, V.line o = .slice (some ⟨g, 0, none⟩) (s.order o).lines.length c ∧ base ≤ g ∧ Blk w g 75 cur ∧
    w.cell? ⟨g, k * 4, none⟩ = some (.int .i64 (s.line o k).good) ∧ w.cell? ⟨g, k * 4 + 1, none⟩ = some (.int .i64 (s.line o k).want) ∧ w.cell? ⟨g, k * 4 + 2, none⟩ = some (.int .i64 (s.line o k).got) ∧ w.cell? ⟨g, k * 4 + 3, none⟩ = some (.int .i64 (s.line o k).back) := by
  obtain ⟨g, c, cur, h1, h2, h3, h4⟩ := (h.line o ho).at (fun _ => rfl) hk
  have e : (s.order o).lines[k] = s.line o k := by unfold State.line; simp [Wh.lineAt, hk]
  rw [e] at h4
  exact ⟨g, c, cur, h1, h2, h3, h4 0 _ rfl, h4 1 _ rfl, h4 2 _ rfl, h4 3 _ rfl⟩
/-- The cells of what lies in a bin. -/
theorem onAt (h : OwnSt w base V s) {b g : Nat} (hb : b < s.on.length) (hg : g < (rowAt s.on b).length) : ∃ go co cur0 gr cr cur, V.on = .slice (some ⟨go, 0, none⟩) s.on.length co ∧ base ≤ go ∧ Blk w go 23 cur0 ∧ w.cell? ⟨go, b, none⟩ = some (.slice (some ⟨gr, 0, none⟩) (rowAt s.on b).length cr) ∧
    V.row b = .slice (some ⟨gr, 0, none⟩) (rowAt s.on b).length cr ∧ base ≤ gr ∧ Blk w gr 3 cur ∧ w.cell? ⟨gr, g, none⟩ = some (.int .i64 (cell s.on b g)) := by
  have hbl : b < V.rows.length := by rw [h.rlen]; exact hb
  obtain ⟨go, co, cur0, h1, h2, h3, h4⟩ := h.on.at (fun _ => rfl) hbl
  obtain ⟨gr, cr, cur, k1, k2, k3, k4⟩ := (h.row b hb).at (fun _ => rfl) hg
  have e : V.rows[b] = V.row b := by unfold SV.row; simp [hbl]
  have h5 := h4 0 (V.row b) (by rw [e]; rfl)
  have e2 : (rowAt s.on b)[g] = cell s.on b g := by unfold cell intAt; simp [hg]
  have k5 := k4 0 (.int .i64 (cell s.on b g)) (by rw [e2]; rfl)
  rw [Nat.mul_one, Nat.add_zero] at h5 k5
  rw [h.rlen] at h1
  rw [k1] at h5
  exact ⟨go, co, cur0, gr, cr, cur, h1, h2, h3, h5, k1, k2, k3, k5⟩
theorem intAtOwn {v : Value} {l : List Int} (h : Own cInt 1 3 w base v l) {g : Nat} (hg : g < l.length) : ∃ gr c cur, v = .slice (some ⟨gr, 0, none⟩) l.length c ∧ base ≤ gr ∧ Blk w gr 3 cur ∧ w.cell? ⟨gr, g, none⟩ = some (.int .i64 (intAt l g)) := by
  obtain ⟨gr, c, cur, k1, k2, k3, k4⟩ := h.at (fun _ => rfl) hg
  have e2 : l[g] = intAt l g := by unfold intAt; simp [hg]
  have k5 := k4 0 (.int .i64 (intAt l g)) (by rw [e2]; rfl)
  rw [Nat.mul_one, Nat.add_zero] at k5
  exact ⟨gr, c, cur, k1, k2, k3, k5⟩
end OwnSt
end Wh
namespace Wh
open Go Go.RowKit Go.Shelf Go.Proofs
attribute [local go_sem] run_indexAt_letter evL_tmp evL_const evL_func

theorem Own.at_block {α : Type} {enc : α → List Value} {size : Nat} {e : TypeId} {w : World} {base g : Nat} {cs : Array Value} {l : List α} (hb : base ≤ g) (hg : w.heap[g]? = some (.cells cs e)) (hc : cs.toList = l.flatMap enc)
    (hk : ∀ x, (enc x).length = size) (hl : l.length ≤ 1000000) : Own enc size e w base (.slice (some ⟨g, 0, none⟩) l.length l.length) l := by
  refine ⟨by rw [flat_length enc size hk], .inr ⟨g, l.length, cs, rfl, hb, hg, Nat.le_refl _, by unfold maxLen; omega, ?_, ?_⟩⟩
  · rw [← Array.length_toList, hc, flat_length enc size hk]
  · rw [hc, ← flat_length enc size hk, List.take_length]

def busyS : State := ⟨[[9, 0], [3, 0], [0, 6]], [⟨1, [⟨0, 6, 1, 0⟩, ⟨1, 9, 0, 3⟩]⟩, ⟨0, [⟨0, 4, 0, 0⟩]⟩], [⟨0, 0, 0, 2⟩, ⟨0, 0, 1, 3⟩, ⟨0, 1, 2, 6⟩], [⟨0, 0, 1, 5⟩], [13, 6], [1, 0], [0, 0]⟩
def busyV (n : Nat) : SV :=
  ⟨.slice (some ⟨n + 4, 0, none⟩) 3 3, .slice (some ⟨n + 7, 0, none⟩) 2 2, .slice (some ⟨n + 8, 0, none⟩) 3 3, .slice (some ⟨n + 9, 0, none⟩) 1 1, .slice (some ⟨n + 10, 0, none⟩) 2 2, .slice (some ⟨n + 11, 0, none⟩) 2 2, .slice (some ⟨n + 12, 0, none⟩) 2 2,
   [.slice (some ⟨n + 1, 0, none⟩) 2 2, .slice (some ⟨n + 2, 0, none⟩) 2 2, .slice (some ⟨n + 3, 0, none⟩) 2 2], [.slice (some ⟨n + 5, 0, none⟩) 2 2, .slice (some ⟨n + 6, 0, none⟩) 1 1]⟩
def busyO (n : Nat) : List Obj := [
  .cells (busyV n).cells.toArray 31,
  .cells #[.int .i64 9, .int .i64 0] 3, .cells #[.int .i64 3, .int .i64 0] 3, .cells #[.int .i64 0, .int .i64 6] 3,
  .cells #[.slice (some ⟨n + 1, 0, none⟩) 2 2, .slice (some ⟨n + 2, 0, none⟩) 2 2, .slice (some ⟨n + 3, 0, none⟩) 2 2] 23,
  .cells #[.int .i64 0, .int .i64 6, .int .i64 1, .int .i64 0, .int .i64 1, .int .i64 9, .int .i64 0, .int .i64 3] 75,
  .cells #[.int .i64 0, .int .i64 4, .int .i64 0, .int .i64 0] 75,
  .cells #[.int .i64 1, .slice (some ⟨n + 5, 0, none⟩) 2 2, .int .i64 0, .slice (some ⟨n + 6, 0, none⟩) 1 1] 73,
  .cells #[.int .i64 0, .int .i64 0, .int .i64 0, .int .i64 2, .int .i64 0, .int .i64 0, .int .i64 1, .int .i64 3, .int .i64 0, .int .i64 1, .int .i64 2, .int .i64 6] 87,
  .cells #[.int .i64 0, .int .i64 0, .int .i64 1, .int .i64 5] 92,
  .cells #[.int .i64 13, .int .i64 6] 3, .cells #[.int .i64 1, .int .i64 0] 3, .cells #[.int .i64 0, .int .i64 0] 3]
def lay (w : World) (os : List Obj) : World := { w with heap := w.heap ++ os.toArray }
theorem lay_alloc (w : World) (os : List Obj) (o : Obj) : (lay w os).alloc o = lay w (os ++ [o]) := by
  unfold lay World.alloc
  simp
theorem lay_nil (w : World) : lay w [] = w := by unfold lay; simp
theorem lay_foldl (w : World) (os : List Obj) : lay w os = os.foldl World.alloc w := by
  suffices h : ∀ (os ps : List Obj), lay w (ps ++ os) = os.foldl World.alloc (lay w ps) by
    have := h os []
    rwa [lay_nil] at this
  intro os
  induction os with
  | nil => intro ps; simp
  | cons o os ih =>
    intro ps
    have := ih (ps ++ [o])
    rw [List.foldl_cons, lay_alloc, ← this]
    simp
theorem lay_below (w : World) (os : List Obj) : Below w.heap.size w (lay w os) := below_wld w w.drawn os.toArray
theorem lay_at (w : World) (os : List Obj) (i : Nat) : (lay w os).heap[w.heap.size + i]? = os[i]? := by
  unfold lay
  rw [Array.getElem?_append_right (by omega)]
  simp
theorem busyOwn (w : World) : OwnSt (lay w (busyO w.heap.size)) w.heap.size (busyV w.heap.size) busyS := by
  have H := lay_at w (busyO w.heap.size)
  refine ⟨Own.at_block (by omega) (H 4) rfl (fun _ => rfl) (by simp [busyV]), rfl, fun b hb => ?_, Own.at_block (by omega) (H 7) rfl (fun _ => rfl) (by simp [ords, busyS, busyV]), rfl, fun o ho => ?_, Own.at_block (by omega) (H 8) rfl (fun _ => rfl) (by decide), Own.at_block (by omega) (H 9) rfl (fun _ => rfl) (by decide),
    Own.at_block (by omega) (H 10) rfl (fun _ => rfl) (by decide), Own.at_block (by omega) (H 11) rfl (fun _ => rfl) (by decide), Own.at_block (by omega) (H 12) rfl (fun _ => rfl) (by decide), ?_, ?_⟩
  · match b, hb with
    | 0, _ => exact Own.at_block (l := ([9, 0] : List Int)) (by omega) (H 1) rfl (fun _ => rfl) (by decide)
    | 1, _ => exact Own.at_block (l := ([3, 0] : List Int)) (by omega) (H 2) rfl (fun _ => rfl) (by decide)
    | 2, _ => exact Own.at_block (l := ([0, 6] : List Int)) (by omega) (H 3) rfl (fun _ => rfl) (by decide)
    | b + 3, hb => simp [busyS] at hb; omega
  · match o, ho with
    | 0, _ => exact Own.at_block (l := ([⟨0, 6, 1, 0⟩, ⟨1, 9, 0, 3⟩] : List Line)) (by omega) (H 5) rfl (fun _ => rfl) (by decide)
    | 1, _ => exact Own.at_block (l := ([⟨0, 4, 0, 0⟩] : List Line)) (by omega) (H 6) rfl (fun _ => rfl) (by decide)
    | o + 2, ho => simp [busyS] at ho; omega
  · unfold apartL busyV
    simp [Value.ownBlock]
  · unfold apartL busyV
    simp [Value.ownBlock]

set_option maxHeartbeats 4000000 in
theorem lBusy (w : World) : Calls Try.prog 51 #[] w fun e w' => ∃ V, e = .returned V.val ∧ OwnSt w' w.heap.size V busyS ∧ Below w.heap.size w w' := by
  go_enter Try.func51, Try.ntmps51
  go_wp2_with fail
  have h1 := busyOwn w
  have h2 := lay_below w (busyO w.heap.size)
  rw [lay_foldl] at h1 h2
  refine bodyPost_ret (v := (busyV w.heap.size).val) ?_ rfl ⟨busyV w.heap.size, rfl, h1, h2⟩
  simp [results, Try.results51, go_sem, SV.val, busyV]

def small (s : State) : Bool := decide (s.on.length ≤ 1000) && s.on.all (fun r => decide (r.length ≤ 1000)) && decide (s.orders.length ≤ 1000) && s.orders.all (fun o => decide (o.lines.length ≤ 1000)) && decide (s.holds.length ≤ 1000) && decide (s.moves.length ≤ 1000) && decide (s.inn.length ≤ 1000) && decide (s.out.length ≤ 1000) && decide (s.fixed.length ≤ 1000)
/-- It reads as the state, however that is. -/
theorem OwnSt.view0 {w : World} {base : Nat} {V : SV} {s : State} (h : OwnSt w base V s) (hs : small s = true) : StateV w w.heap.size V.val s := by
  unfold small at hs
  simp only [Bool.and_eq_true, decide_eq_true_eq, List.all_eq_true] at hs
  obtain ⟨⟨⟨⟨⟨⟨⟨⟨s1, s2⟩, s3⟩, s4⟩, s5⟩, s6⟩, s7⟩, s8⟩, s9⟩ := hs
  obtain ⟨A, c, hv, _, hA⟩ := h.on.sl (by rw [h.rlen]; omega)
  obtain ⟨A1, c1, hv1, _, hA1⟩ := h.orders.sl (by rw [ords_length h.llen]; omega)
  refine ⟨_, _, _, _, _, _, _, rfl, ⟨A, c, V.rows, by rw [hv, h.rlen], by omega, h.rlen, ?_, fun i x hi => ?_⟩, ⟨A1, c1, V.lines, by rw [hv1, ords_length h.llen], by omega, h.llen, ?_, fun i x hi => ?_⟩, h.holds.sl (by omega), h.moves.sl (by omega), h.inn.sl (by omega), h.out.sl (by omega), h.fixed.sl (by omega)⟩
  · have : V.rows.flatMap (fun u => [u]) = V.rows := by simp
    rw [this] at hA
    exact hA
  · have hil : i < s.on.length := (List.getElem?_eq_some_iff.1 hi).1
    have hx : rowAt s.on i = x := by rw [rowAt_eq hil]; exact (List.getElem?_eq_some_iff.1 hi).2
    have := s2 x (List.mem_of_getElem? hi)
    exact ⟨_, h.rowGet hil, by rw [← hx]; exact (h.row i hil).sl (by rw [hx]; omega)⟩
  · have e : (s.orders.zip V.lines).flatMap (fun x => [Value.int .i64 x.1.kind, x.2]) = (ords s.orders V.lines).flatMap cOrd := by
      unfold ords cOrd
      rw [List.zip_eq_zipWith, List.flatMap_def, List.flatMap_def, List.map_zipWith, List.map_zipWith]
    rw [e]
    exact hA1
  · have hil : i < s.orders.length := (List.getElem?_eq_some_iff.1 hi).1
    have hx : s.order i = x := by unfold State.order; rw [orderAt_eq hil]; exact (List.getElem?_eq_some_iff.1 hi).2
    have := s4 x (List.mem_of_getElem? hi)
    exact ⟨_, h.lineGet hil, by rw [← hx]; exact (h.line i hil).sl (by rw [hx]; omega)⟩
/-- A hold's number of pieces. -/
theorem OwnSt.setHoldN {w : World} {base : Nat} {V : SV} {s : State} (h : OwnSt w base V s) {k : Nat} (hk : k < s.holds.length) {g n c : Nat} (hv : V.holds = .slice (some ⟨g, 0, none⟩) n c) (q : Int) :
    OwnSt (w.setCell ⟨g, k * 4 + 3, none⟩ (.int .i64 q)) base V { s with holds := s.holds.set k { hold s.holds k with n := q } } ∧ w.grownBy (w.setCell ⟨g, k * 4 + 3, none⟩ (.int .i64 q)) (some g) := by
  have hl := h.holds
  rw [hv] at hl
  obtain ⟨o1, hg⟩ := hl.store (i := k) (fun _ => rfl) hk (show 3 < 4 by omega) (y := { hold s.holds k with n := q }) (u := .int .i64 q) (by unfold hold; simp [hk, cHold])
  rw [← hv] at o1
  have hob : V.holds.ownBlock = some g := by rw [hv]; rfl
  exact ⟨h.wroteHolds (by rw [hob]; exact hg) o1, hg⟩
def busyX : State := { busyS with holds := [⟨0, 0, 0, 5⟩, ⟨0, 0, 1, 3⟩, ⟨0, 1, 2, 6⟩] }
def busyY : State := { busyS with orders := [⟨1, [⟨0, 6, 1, 0⟩, ⟨1, 9, 0, 3⟩]⟩, ⟨3, [⟨0, 4, 0, 0⟩]⟩] }

theorem checkAt {s : State} {c : Int} (h : checkState yardP s = c) (w : World) (v vs : Value) (hp : PlanV w w.heap.size v yardP) (hv : StateV w w.heap.size vs s) :
    Calls Try.prog 24 #[v, vs] w fun e w' => e = .returned (.int .i64 c) ∧ Below w.heap.size w w' := by
  have := sCheck w v vs yardP s hp hv
  rwa [h] at this
theorem busyAvail (w : World) (v vs : Value) (hp : PlanV w w.heap.size v yardP) (hv : StateV w w.heap.size vs busyS) :
    Calls Try.prog 26 #[v, vs, .int .i64 0, .int .i64 0] w fun e w' => e = .returned (.tuple #[.int .i64 2, .int .i64 0]) ∧ Below w.heap.size w w' := by
  have := sAvail w v vs yardP busyS 0 0 hp hv
  rwa [show availE yardP busyS 0 0 = (2, 0) by decide] at this
theorem busyFree (w : World) (v vs : Value) (hp : PlanV w w.heap.size v yardP) (hv : StateV w w.heap.size vs busyS) :
    Calls Try.prog 27 #[v, vs, .int .i64 1] w fun e w' => e = .returned (.tuple #[.int .i64 14, .int .i64 0]) ∧ Below w.heap.size w w' := by
  have := sFree w v vs yardP busyS 1 hp hv
  rwa [show freeE yardP busyS 1 = (14, 0) by decide] at this
theorem beginYard (w : World) (v : Value) (hp : PlanV w w.heap.size v yardP) :
    Calls Try.prog 20 #[v] w fun e w' => ∃ V, e = .returned (.tuple #[V.val, .int .i64 0]) ∧ OwnSt w' w.heap.size V (begin yardP) ∧ Below w.heap.size w w' := by
  have := sBegin w v yardP hp
  rwa [show checkPlan yardP = 0 by decide, if_pos rfl] at this

set_option maxHeartbeats 4000000 in
set_option maxRecDepth 100000 in
theorem stateBegun (w : World) : Calls Try.prog 23 #[] w fun e w' => e = .returned (.bool true) ∧ Below w.heap.size w w' := by
  go_enter Try.func23, Try.ntmps23
  go_wp2_with fail
  refine (lYard _).mono ?_
  rintro e W1 ⟨u1, rfl, hu1, hb1⟩
  go_wp2_with fail
  refine (beginYard _ _ hu1).mono ?_
  rintro e W2 ⟨V1, rfl, ho1, hb2⟩
  have hB2 := hb1.trans (hb2.mono hb1.size)
  have hone3 := (ho1).one
  have hnb3 := newBox (W2)
  go_wp2_with (refine wpList_store_state rfl (.tmp 1) (.tmp 12) rfl rfl (World.heap (W2)).size nilSV V1 hnb3 rfl rfl hone3 (fun w3 hbox3 hg3 => ?_); refine Hid.out ?_)
  unfold Hid
  have hbb3 := newBelow hg3
  have hbl3 := hbox3.lt
  clear hone3 hnb3 hg3
  have hB3 := hB2.trans (hbb3.mono hB2.size)
  have hv1 := Lib.hid ((ho1.below hbb3).view0 (by decide))
  clear ho1 hb1 hb2 hu1
  go_wp2_with fail
  refine (lYard _).mono ?_
  rintro e W4 ⟨u4, rfl, hu4, hb4⟩
  go_wp2_with fail
  refine (lBusy _).mono ?_
  rintro e W5 ⟨V5, rfl, ho5, hb5⟩
  go_wp2_with fail
  refine (busyAvail _ _ _ (hu4.grow hb5) (ho5.view0 (by decide))).mono ?_
  rintro e W6 ⟨rfl, hb6⟩
  have hb36 := hb4.trans ((hb5.trans (hb6.mono hb5.size)).mono hb4.size)
  clear hb4 hb5 hb6 hu4 ho5
  go_wp2_with fail
  refine (lYard _).mono ?_
  rintro e W7 ⟨u7, rfl, hu7, hb7⟩
  go_wp2_with fail
  refine (lBusy _).mono ?_
  rintro e W8 ⟨V8, rfl, ho8, hb8⟩
  go_wp2_with fail
  refine (busyFree _ _ _ (hu7.grow hb8) (ho8.view0 (by decide))).mono ?_
  rintro e W9 ⟨rfl, hb9⟩
  have hb39 := hb36.trans ((hb7.trans ((hb8.trans (hb9.mono hb8.size)).mono hb7.size)).mono hb36.size)
  clear hb7 hb8 hb9 hu7 ho8
  go_wp2_with fail
  refine (lBusy _).mono ?_
  rintro e W10 ⟨V10, rfl, ho10, hb10⟩
  have hone11 := (ho10).one
  have hnb11 := newBox (W10)
  go_wp2_with (refine wpList_store_state rfl (.tmp 7) (.tmp 26) rfl rfl (World.heap (W10)).size nilSV V10 hnb11 rfl rfl hone11 (fun w11 hbox11 hg11 => ?_); refine Hid.out ?_)
  unfold Hid
  have hbb11 := newBelow hg11
  have hbl11 := hbox11.lt
  clear hone11 hnb11 hg11
  have ho11 := ho10.below hbb11
  have hB11 := hb39.trans ((hb10.trans (hbb11.mono hb10.size)).mono hb39.size)
  obtain ⟨g, c, cur, hvh, hbg, hblk, _, _, _, hc3⟩ := ho11.holdAt (k := 0) (by decide)
  have hcb := hbox11.cells.2.2.1
  rw [hvh] at hcb
  have hfr := hblk.frozen (0 * 4 + 3)
  have hst := ho11.setHoldN (k := 0) (by decide) hvh 5
  have hg39 : w3.heap.size ≤ g := Nat.le_trans hb39.size hbg
  have hlen : (busyS.holds.length : Int) = 3 := rfl
  simp only [Nat.zero_mul, Nat.zero_add] at hc3 hfr hst
  have hBx : Below w3.heap.size w3 (w11.setCell ⟨g, 3, none⟩ (.int .i64 5)) := hB11.setCell hg39 _
  have hbox12 := hbox11.off hst.2 hblk (by decide)
  have hv7 := Lib.hid (show StateV _ _ _ busyX from hst.1.view0 (by decide))
  clear hst ho10 ho11 hvh hB11 hbox11 hb10
  go_wp2_with fail
  clear hcb hc3 hfr
  have hbox12' := Lib.hid hbox12
  have hz12 : W10.heap.size < (w11.setCell ⟨g, 3, none⟩ (.int .i64 5)).heap.size := by simpa using hbl11
  generalize w11.setCell ⟨g, 3, none⟩ (.int .i64 5) = w12 at hBx hbox12' hv7 hz12 ⊢
  clear hblk hlen hbox12 hbb11 hbl11 hg39 hbg
  refine (lBusy _).mono ?_
  rintro e W13 ⟨V13, rfl, ho13, hb13⟩
  have hone14 := (ho13).one
  have hnb14 := newBox (W13)
  go_wp2_with (refine wpList_store_state rfl (.tmp 8) (.tmp 31) rfl rfl (World.heap (W13)).size nilSV V13 hnb14 rfl rfl hone14 (fun w14 hbox14 hg14 => ?_); refine Hid.out ?_)
  unfold Hid
  have hbb14 := newBelow hg14
  have hbl14 := hbox14.lt
  clear hone14 hnb14 hg14
  have ho14 := ho13.below hbb14
  have hB14 := hb13.trans (hbb14.mono hb13.size)
  obtain ⟨g2, c2, cur2, hvo, hbg2, hblk2, hck, _⟩ := ho14.orderAt (o := 1) (by decide)
  have hcb := hbox14.cells.2.1
  rw [hvo] at hcb
  have hfr := hblk2.frozen (1 * 2)
  have hst := ho14.setKind (o := 1) (by decide) hvo 3
  have hlen : (busyS.orders.length : Int) = 2 := rfl
  simp only [Nat.one_mul] at hck hfr hst
  have hBy : Below w12.heap.size w12 (w14.setCell ⟨g2, 2, none⟩ (.int .i64 3)) := hB14.setCell hbg2 _
  have hbox15 := hbox14.off hst.2 hblk2 (by decide)
  have hv8 := Lib.hid (show StateV _ _ _ busyY from hst.1.view0 (by decide))
  clear hst ho13 ho14 hvo hB14 hbox14 hb13
  go_wp2_with fail
  clear hcb hck hfr
  have hbox15' := Lib.hid hbox15
  have hz15 : W13.heap.size < (w14.setCell ⟨g2, 2, none⟩ (.int .i64 3)).heap.size := by simpa using hbl14
  generalize w14.setCell ⟨g2, 2, none⟩ (.int .i64 3) = w15 at hBy hbox15' hv8 hz15 ⊢
  clear hblk2 hlen hbox15 hbb14 hbl14 hbg2
  have hB15 := hBx.trans (hBy.mono hBx.size)
  have hbox3' := Lib.hid hbox3
  clear hbox3 hb36 hb39
  refine wp_region_opsG 43 [fun gq w' => (fun v w' => PlanV w' w'.heap.size v yardP) (gq 36) w', fun gq w' => (fun v w' => StateV w' w'.heap.size v busyS) (gq 37) w', fun gq w' => (fun v w' => v = .int .i64 0) (gq 38) w', fun gq _ => gq 39 = .bool true, fun gq _ => gq 40 = .bool true, fun gq w' => (fun v w' => PlanV w' w'.heap.size v yardP) (gq 41) w', fun gq _ => gq 42 = .agg #[V1.on, V1.orders, V1.holds, V1.moves, V1.inn, V1.out, V1.fixed], fun gq w' => (fun v w' => v = .int .i64 0) (gq 43) w', fun gq _ => gq 44 = .bool true, fun gq _ => gq 45 = .bool true, fun gq _ => gq 46 = .bool true, fun gq w' => (fun v w' => PlanV w' w'.heap.size v yardP) (gq 47) w', fun gq _ => gq 48 = .agg #[V10.on, V10.orders, V10.holds, V10.moves, V10.inn, V10.out, V10.fixed], fun gq w' => (fun v w' => v = .int .i64 7) (gq 49) w', fun gq _ => gq 50 = .bool true, fun gq _ => gq 51 = .bool true, fun gq _ => gq 52 = .bool true, fun gq w' => (fun v w' => PlanV w' w'.heap.size v yardP) (gq 53) w', fun gq _ => gq 54 = .agg #[V13.on, V13.orders, V13.holds, V13.moves, V13.inn, V13.out, V13.fixed], fun gq w' => (fun v w' => v = .int .i64 1) (gq 55) w', fun gq _ => gq 56 = .bool true, fun gq _ => gq 57 = .bool true, fun gq _ => gq 58 = .bool true, fun gq _ => gq 59 = .int .i64 0, fun gq _ => gq 60 = .bool true, fun gq _ => gq 61 = .bool true, fun gq _ => gq 62 = .bool true, fun gq _ => gq 63 = .int .i64 0, fun gq _ => gq 64 = .bool true, fun gq _ => gq 65 = .bool true, fun gq _ => gq 66 = .bool true, fun gq _ => gq 67 = .int .i64 0, fun gq _ => gq 68 = .bool true, fun gq _ => gq 69 = .bool true, fun gq _ => gq 70 = .bool true, fun gq _ => gq 71 = .int .i64 2, fun gq _ => gq 72 = .bool true, fun gq _ => gq 73 = .bool true, fun gq _ => gq 74 = .bool true, fun gq _ => gq 75 = .int .i64 14, fun gq _ => gq 76 = .bool true, fun gq _ => gq 77 = .bool true, fun gq _ => gq 0 = .bool true] (by kernel_rfl) (by kernel_rfl) rfl (by kernel_rfl) ?_ (fun f w2 hb2 hR => ?_)
  simp only [List.take_succ_cons, List.take_zero]
  refine OpsG.cons (OpG.one (d := 36) (p := (fun v w' => PlanV w' w'.heap.size v yardP)) rfl rfl (fun v w1 w2 h hb => h.grow hb) (fun gq w' ho hd => trivial) (fun gq w' hb ho hd => ?_)) ?_
  · unfold OpRel
    go_simp
    refine (lYard w').mono ?_
    rintro e w2 ⟨u, rfl, hu, hb2⟩
    exact ⟨_, rfl, hu, hb2⟩
  refine OpsG.cons (OpG.one (d := 37) (p := (fun v w' => StateV w' w'.heap.size v busyS)) rfl rfl (fun v w1 w2 h hb => h.grow hb) (fun gq w' ho hd => trivial) (fun gq w' hb ho hd => ?_)) ?_
  · unfold OpRel
    go_simp
    refine (lBusy w').mono ?_
    rintro e w2 ⟨V, rfl, ho, hb2⟩
    exact ⟨_, rfl, ho.view0 (by decide), hb2⟩
  refine OpsG.cons (OpG.one (d := 38) (p := (fun v w' => v = .int .i64 0)) rfl rfl (fun v w1 w2 h hb => h) (fun gq w' ho hd => trivial) (fun gq w' hb ho hd => ?_)) ?_
  · have e36 : PlanV w' w'.heap.size (gq 36) yardP := hd ⟨0, .data⟩ (by simp) rfl (by decide)
    have e37 : StateV w' w'.heap.size (gq 37) busyS := hd ⟨1, .data⟩ (by simp) rfl (by decide)
    unfold OpRel
    go_simp
    refine (checkAt (show checkState yardP busyS = 0 by decide) w' _ _ e36 e37).mono ?_
    rintro e w2 ⟨rfl, hb2⟩
    exact ⟨_, rfl, rfl, hb2⟩
  refine OpsG.cons (OpG.val rfl rfl (fun gq w' ho hd => trivial) (fun gq w' hb ho hd => ?_)) ?_
  · have e38 : (gq 38) = .int .i64 0 := hd ⟨2, .data⟩ (by simp) rfl (by decide)
    go_simp
  refine OpsG.cons (OpG.val rfl rfl (fun gq w' ho hd => trivial) (fun gq w' hb ho hd => ?_)) ?_
  · have e39 : gq 39 = .bool true := hd ⟨3, .data⟩ (by simp) rfl (by decide)
    go_simp
  refine OpsG.cons (OpG.one (d := 41) (p := (fun v w' => PlanV w' w'.heap.size v yardP)) rfl rfl (fun v w1 w2 h hb => h.grow hb) (fun gq w' ho hd => ⟨_, rfl, hd ⟨4, .guard⟩ (by simp) rfl (by decide)⟩) (fun gq w' hb ho hd => ?_)) ?_
  · unfold OpRel
    go_simp
    refine (lYard w').mono ?_
    rintro e w2 ⟨u, rfl, hu, hb2⟩
    exact ⟨_, rfl, hu, hb2⟩
  refine OpsG.cons (OpG.val rfl rfl (fun gq w' ho hd => ⟨_, rfl, hd ⟨4, .guard⟩ (by simp) rfl (by decide)⟩) (fun gq w' hb ho hd => ?_)) ?_
  · have e1 := ho 1 rfl
    obtain ⟨p0, p1, p2, p3, p4, p5, p6⟩ := (hbox3'.out.below (hB15.trans (hb.mono hB15.size)) hbl3).cells
    go_simp
  refine OpsG.cons (OpG.one (d := 43) (p := (fun v w' => v = .int .i64 0)) rfl rfl (fun v w1 w2 h hb => h) (fun gq w' ho hd => ⟨_, rfl, hd ⟨4, .guard⟩ (by simp) rfl (by decide)⟩) (fun gq w' hb ho hd => ?_)) ?_
  · have e41 : PlanV w' w'.heap.size (gq 41) yardP := hd ⟨5, .data⟩ (by simp) rfl (by decide)
    have e42 : gq 42 = .agg #[V1.on, V1.orders, V1.holds, V1.moves, V1.inn, V1.out, V1.fixed] := hd ⟨6, .data⟩ (by simp) rfl (by decide)
    have hv := hv1.out.grow (hB15.trans (hb.mono hB15.size))
    unfold OpRel
    go_simp
    refine (checkAt (show checkState yardP (begin yardP) = 0 by decide) w' _ _ e41 hv).mono ?_
    rintro e w2 ⟨rfl, hb2⟩
    exact ⟨_, rfl, rfl, hb2⟩
  refine OpsG.cons (OpG.val rfl rfl (fun gq w' ho hd => ⟨_, rfl, hd ⟨4, .guard⟩ (by simp) rfl (by decide)⟩) (fun gq w' hb ho hd => ?_)) ?_
  · have e43 : (gq 43) = .int .i64 0 := hd ⟨7, .data⟩ (by simp) rfl (by decide)
    go_simp
  refine OpsG.cons (OpG.val rfl rfl (fun gq w' ho hd => trivial) (fun gq w' hb ho hd => ?_)) ?_
  · have e40 : gq 40 = .bool true := hd ⟨4, .data⟩ (by simp) rfl (by decide)
    have e44 : gq 44 = .bool true := hd ⟨8, .data⟩ (by simp) rfl (by decide)
    go_simp
  refine OpsG.cons (OpG.val rfl rfl (fun gq w' ho hd => trivial) (fun gq w' hb ho hd => ?_)) ?_
  · have e45 : gq 45 = .bool true := hd ⟨9, .data⟩ (by simp) rfl (by decide)
    go_simp
  refine OpsG.cons (OpG.one (d := 47) (p := (fun v w' => PlanV w' w'.heap.size v yardP)) rfl rfl (fun v w1 w2 h hb => h.grow hb) (fun gq w' ho hd => ⟨_, rfl, hd ⟨10, .guard⟩ (by simp) rfl (by decide)⟩) (fun gq w' hb ho hd => ?_)) ?_
  · unfold OpRel
    go_simp
    refine (lYard w').mono ?_
    rintro e w2 ⟨u, rfl, hu, hb2⟩
    exact ⟨_, rfl, hu, hb2⟩
  refine OpsG.cons (OpG.val rfl rfl (fun gq w' ho hd => ⟨_, rfl, hd ⟨10, .guard⟩ (by simp) rfl (by decide)⟩) (fun gq w' hb ho hd => ?_)) ?_
  · have e7 := ho 7 rfl
    obtain ⟨p0, p1, p2, p3, p4, p5, p6⟩ := (hbox12'.out.below (hBy.trans (hb.mono hBy.size)) hz12).cells
    go_simp
  refine OpsG.cons (OpG.one (d := 49) (p := (fun v w' => v = .int .i64 7)) rfl rfl (fun v w1 w2 h hb => h) (fun gq w' ho hd => ⟨_, rfl, hd ⟨10, .guard⟩ (by simp) rfl (by decide)⟩) (fun gq w' hb ho hd => ?_)) ?_
  · have e47 : PlanV w' w'.heap.size (gq 47) yardP := hd ⟨11, .data⟩ (by simp) rfl (by decide)
    have e48 : gq 48 = .agg #[V10.on, V10.orders, V10.holds, V10.moves, V10.inn, V10.out, V10.fixed] := hd ⟨12, .data⟩ (by simp) rfl (by decide)
    have hv := hv7.out.grow (hBy.trans (hb.mono hBy.size))
    unfold OpRel
    go_simp
    refine (checkAt (show checkState yardP busyX = 7 by decide) w' _ _ e47 hv).mono ?_
    rintro e w2 ⟨rfl, hb2⟩
    exact ⟨_, rfl, rfl, hb2⟩
  refine OpsG.cons (OpG.val rfl rfl (fun gq w' ho hd => ⟨_, rfl, hd ⟨10, .guard⟩ (by simp) rfl (by decide)⟩) (fun gq w' hb ho hd => ?_)) ?_
  · have e49 : (gq 49) = .int .i64 7 := hd ⟨13, .data⟩ (by simp) rfl (by decide)
    go_simp
  refine OpsG.cons (OpG.val rfl rfl (fun gq w' ho hd => trivial) (fun gq w' hb ho hd => ?_)) ?_
  · have e46 : gq 46 = .bool true := hd ⟨10, .data⟩ (by simp) rfl (by decide)
    have e50 : gq 50 = .bool true := hd ⟨14, .data⟩ (by simp) rfl (by decide)
    go_simp
  refine OpsG.cons (OpG.val rfl rfl (fun gq w' ho hd => trivial) (fun gq w' hb ho hd => ?_)) ?_
  · have e51 : gq 51 = .bool true := hd ⟨15, .data⟩ (by simp) rfl (by decide)
    go_simp
  refine OpsG.cons (OpG.one (d := 53) (p := (fun v w' => PlanV w' w'.heap.size v yardP)) rfl rfl (fun v w1 w2 h hb => h.grow hb) (fun gq w' ho hd => ⟨_, rfl, hd ⟨16, .guard⟩ (by simp) rfl (by decide)⟩) (fun gq w' hb ho hd => ?_)) ?_
  · unfold OpRel
    go_simp
    refine (lYard w').mono ?_
    rintro e w2 ⟨u, rfl, hu, hb2⟩
    exact ⟨_, rfl, hu, hb2⟩
  refine OpsG.cons (OpG.val rfl rfl (fun gq w' ho hd => ⟨_, rfl, hd ⟨16, .guard⟩ (by simp) rfl (by decide)⟩) (fun gq w' hb ho hd => ?_)) ?_
  · have e8 := ho 8 rfl
    obtain ⟨p0, p1, p2, p3, p4, p5, p6⟩ := (hbox15'.out.below hb hz15).cells
    go_simp
  refine OpsG.cons (OpG.one (d := 55) (p := (fun v w' => v = .int .i64 1)) rfl rfl (fun v w1 w2 h hb => h) (fun gq w' ho hd => ⟨_, rfl, hd ⟨16, .guard⟩ (by simp) rfl (by decide)⟩) (fun gq w' hb ho hd => ?_)) ?_
  · have e53 : PlanV w' w'.heap.size (gq 53) yardP := hd ⟨17, .data⟩ (by simp) rfl (by decide)
    have e54 : gq 54 = .agg #[V13.on, V13.orders, V13.holds, V13.moves, V13.inn, V13.out, V13.fixed] := hd ⟨18, .data⟩ (by simp) rfl (by decide)
    have hv := hv8.out.grow hb
    unfold OpRel
    go_simp
    refine (checkAt (show checkState yardP busyY = 1 by decide) w' _ _ e53 hv).mono ?_
    rintro e w2 ⟨rfl, hb2⟩
    exact ⟨_, rfl, rfl, hb2⟩
  refine OpsG.cons (OpG.val rfl rfl (fun gq w' ho hd => ⟨_, rfl, hd ⟨16, .guard⟩ (by simp) rfl (by decide)⟩) (fun gq w' hb ho hd => ?_)) ?_
  · have e55 : (gq 55) = .int .i64 1 := hd ⟨19, .data⟩ (by simp) rfl (by decide)
    go_simp
  refine OpsG.cons (OpG.val rfl rfl (fun gq w' ho hd => trivial) (fun gq w' hb ho hd => ?_)) ?_
  · have e52 : gq 52 = .bool true := hd ⟨16, .data⟩ (by simp) rfl (by decide)
    have e56 : gq 56 = .bool true := hd ⟨20, .data⟩ (by simp) rfl (by decide)
    go_simp
  refine OpsG.cons (OpG.val rfl rfl (fun gq w' ho hd => trivial) (fun gq w' hb ho hd => ?_)) ?_
  · have e57 : gq 57 = .bool true := hd ⟨21, .data⟩ (by simp) rfl (by decide)
    go_simp
  refine OpsG.cons (OpG.val rfl rfl (fun gq w' ho hd => ⟨_, rfl, hd ⟨22, .guard⟩ (by simp) rfl (by decide)⟩) (fun gq w' hb ho hd => ?_)) ?_
  · have e2 := ho 2 rfl
    go_simp
  refine OpsG.cons (OpG.val rfl rfl (fun gq w' ho hd => ⟨_, rfl, hd ⟨22, .guard⟩ (by simp) rfl (by decide)⟩) (fun gq w' hb ho hd => ?_)) ?_
  · have e59 : gq 59 = .int .i64 0 := hd ⟨23, .data⟩ (by simp) rfl (by decide)
    go_simp
  refine OpsG.cons (OpG.val rfl rfl (fun gq w' ho hd => trivial) (fun gq w' hb ho hd => ?_)) ?_
  · have e58 : gq 58 = .bool true := hd ⟨22, .data⟩ (by simp) rfl (by decide)
    have e60 : gq 60 = .bool true := hd ⟨24, .data⟩ (by simp) rfl (by decide)
    go_simp
  refine OpsG.cons (OpG.val rfl rfl (fun gq w' ho hd => trivial) (fun gq w' hb ho hd => ?_)) ?_
  · have e61 : gq 61 = .bool true := hd ⟨25, .data⟩ (by simp) rfl (by decide)
    go_simp
  refine OpsG.cons (OpG.val rfl rfl (fun gq w' ho hd => ⟨_, rfl, hd ⟨26, .guard⟩ (by simp) rfl (by decide)⟩) (fun gq w' hb ho hd => ?_)) ?_
  · have e4 := ho 4 rfl
    go_simp
  refine OpsG.cons (OpG.val rfl rfl (fun gq w' ho hd => ⟨_, rfl, hd ⟨26, .guard⟩ (by simp) rfl (by decide)⟩) (fun gq w' hb ho hd => ?_)) ?_
  · have e63 : gq 63 = .int .i64 0 := hd ⟨27, .data⟩ (by simp) rfl (by decide)
    go_simp
  refine OpsG.cons (OpG.val rfl rfl (fun gq w' ho hd => trivial) (fun gq w' hb ho hd => ?_)) ?_
  · have e62 : gq 62 = .bool true := hd ⟨26, .data⟩ (by simp) rfl (by decide)
    have e64 : gq 64 = .bool true := hd ⟨28, .data⟩ (by simp) rfl (by decide)
    go_simp
  refine OpsG.cons (OpG.val rfl rfl (fun gq w' ho hd => trivial) (fun gq w' hb ho hd => ?_)) ?_
  · have e65 : gq 65 = .bool true := hd ⟨29, .data⟩ (by simp) rfl (by decide)
    go_simp
  refine OpsG.cons (OpG.val rfl rfl (fun gq w' ho hd => ⟨_, rfl, hd ⟨30, .guard⟩ (by simp) rfl (by decide)⟩) (fun gq w' hb ho hd => ?_)) ?_
  · have e6 := ho 6 rfl
    go_simp
  refine OpsG.cons (OpG.val rfl rfl (fun gq w' ho hd => ⟨_, rfl, hd ⟨30, .guard⟩ (by simp) rfl (by decide)⟩) (fun gq w' hb ho hd => ?_)) ?_
  · have e67 : gq 67 = .int .i64 0 := hd ⟨31, .data⟩ (by simp) rfl (by decide)
    go_simp
  refine OpsG.cons (OpG.val rfl rfl (fun gq w' ho hd => trivial) (fun gq w' hb ho hd => ?_)) ?_
  · have e66 : gq 66 = .bool true := hd ⟨30, .data⟩ (by simp) rfl (by decide)
    have e68 : gq 68 = .bool true := hd ⟨32, .data⟩ (by simp) rfl (by decide)
    go_simp
  refine OpsG.cons (OpG.val rfl rfl (fun gq w' ho hd => trivial) (fun gq w' hb ho hd => ?_)) ?_
  · have e69 : gq 69 = .bool true := hd ⟨33, .data⟩ (by simp) rfl (by decide)
    go_simp
  refine OpsG.cons (OpG.val rfl rfl (fun gq w' ho hd => ⟨_, rfl, hd ⟨34, .guard⟩ (by simp) rfl (by decide)⟩) (fun gq w' hb ho hd => ?_)) ?_
  · have e3 := ho 3 rfl
    go_simp
  refine OpsG.cons (OpG.val rfl rfl (fun gq w' ho hd => ⟨_, rfl, hd ⟨34, .guard⟩ (by simp) rfl (by decide)⟩) (fun gq w' hb ho hd => ?_)) ?_
  · have e71 : gq 71 = .int .i64 2 := hd ⟨35, .data⟩ (by simp) rfl (by decide)
    go_simp
  refine OpsG.cons (OpG.val rfl rfl (fun gq w' ho hd => trivial) (fun gq w' hb ho hd => ?_)) ?_
  · have e70 : gq 70 = .bool true := hd ⟨34, .data⟩ (by simp) rfl (by decide)
    have e72 : gq 72 = .bool true := hd ⟨36, .data⟩ (by simp) rfl (by decide)
    go_simp
  refine OpsG.cons (OpG.val rfl rfl (fun gq w' ho hd => trivial) (fun gq w' hb ho hd => ?_)) ?_
  · have e73 : gq 73 = .bool true := hd ⟨37, .data⟩ (by simp) rfl (by decide)
    go_simp
  refine OpsG.cons (OpG.val rfl rfl (fun gq w' ho hd => ⟨_, rfl, hd ⟨38, .guard⟩ (by simp) rfl (by decide)⟩) (fun gq w' hb ho hd => ?_)) ?_
  · have e5 := ho 5 rfl
    go_simp
  refine OpsG.cons (OpG.val rfl rfl (fun gq w' ho hd => ⟨_, rfl, hd ⟨38, .guard⟩ (by simp) rfl (by decide)⟩) (fun gq w' hb ho hd => ?_)) ?_
  · have e75 : gq 75 = .int .i64 14 := hd ⟨39, .data⟩ (by simp) rfl (by decide)
    go_simp
  refine OpsG.cons (OpG.val rfl rfl (fun gq w' ho hd => trivial) (fun gq w' hb ho hd => ?_)) ?_
  · have e74 : gq 74 = .bool true := hd ⟨38, .data⟩ (by simp) rfl (by decide)
    have e76 : gq 76 = .bool true := hd ⟨40, .data⟩ (by simp) rfl (by decide)
    go_simp
  refine OpsG.cons (OpG.val rfl rfl (fun gq w' ho hd => trivial) (fun gq w' hb ho hd => ?_)) ?_
  · have e77 : gq 77 = .bool true := hd ⟨41, .data⟩ (by simp) rfl (by decide)
    go_simp
  exact OpsG.nil
  obtain ⟨r36, r37, r38, r39, r40, r41, r42, r43, r44, r45, r46, r47, r48, r49, r50, r51, r52, r53, r54, r55, r56, r57, r58, r59, r60, r61, r62, r63, r64, r65, r66, r67, r68, r69, r70, r71, r72, r73, r74, r75, r76, r77, r0, _⟩ := hR
  replace r36 : PlanV w2 w2.heap.size (f 36) yardP := r36
  replace r37 : StateV w2 w2.heap.size (f 37) busyS := r37
  replace r38 : (f 38) = .int .i64 0 := r38
  replace r41 : PlanV w2 w2.heap.size (f 41) yardP := r41
  replace r43 : (f 43) = .int .i64 0 := r43
  replace r47 : PlanV w2 w2.heap.size (f 47) yardP := r47
  replace r49 : (f 49) = .int .i64 7 := r49
  replace r53 : PlanV w2 w2.heap.size (f 53) yardP := r53
  replace r55 : (f 55) = .int .i64 1 := r55
  simp only [fillA, fillT, List.take_succ_cons, List.take_zero, List.drop_succ_cons, List.drop_zero, List.filterMap_cons, List.filterMap_nil, List.foldl_cons, List.foldl_nil, List.setIfInBounds_toArray, List.set_cons_zero, List.set_cons_succ, r38, r39, r40, r42, r43, r44, r45, r46, r48, r49, r50, r51, r52, r54, r55, r56, r57, r58, r59, r60, r61, r62, r63, r64, r65, r66, r67, r68, r69, r70, r71, r72, r73, r74, r75, r76, r77, r0]
  clear r38 r39 r40 r42 r43 r44 r45 r46 r48 r49 r50 r51 r52 r54 r55 r56 r57 r58 r59 r60 r61 r62 r63 r64 r65 r66 r67 r68 r69 r70 r71 r72 r73 r74 r75 r76 r77 r0
  refine wpList_nil ?_
  go_wp2_with fail
  go_ret
  exact ⟨rfl, (hB3.trans (hB15.mono hB3.size)).trans (hb2.mono (hB3.trans (hB15.mono hB3.size)).size)⟩
end Wh
