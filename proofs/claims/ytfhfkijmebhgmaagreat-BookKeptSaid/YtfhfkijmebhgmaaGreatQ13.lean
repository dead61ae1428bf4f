/- Texts of the claim, joined: StateM, OwnU, RelG, Act, RecvA. -/
import Derived.Deep.OwnRows
import Derived.Test.YtfhfkijmebhgmaaGreatQ09
import Derived.Test.YtfhfkijmebhgmaaGreatQ07
import Derived.Test.YtfhfkijmebhgmaaGreatQ10
import Derived.Test.YtfhfkijmebhgmaaGreatQ12
import Derived.Test.YtfhfkijmebhgmaaGreatQ06
namespace Wh
open Go Go.RowKit Go.Shelf Go.Proofs
attribute [local go_sem] run_indexAt_letter evL_tmp evL_const evL_func

def nilSV : SV := ⟨nilV, nilV, nilV, nilV, nilV, nilV, nilV, [], []⟩
theorem OwnSt.zero (w : World) (base : Nat) : OwnSt w base nilSV dState :=
  ⟨Own.nil, rfl, (fun b h => by cases h), Own.nil, rfl, (fun o h => by cases h), Own.nil, Own.nil, Own.nil, Own.nil, Own.nil, by unfold apartL nilSV; simp [nilV, Value.ownBlock], List.Pairwise.nil⟩
theorem newBox (W : World) : BoxAt (W.alloc (.cells #[.slice none 0 0, .slice none 0 0, .slice none 0 0, .slice none 0 0, .slice none 0 0, .slice none 0 0, .slice none 0 0] 31)) W.heap.size nilSV := Blk.new _ _ _
theorem newBelow {W w3 : World} {o : Obj} (hg : (W.alloc o).grownBy w3 (some W.heap.size)) : Below W.heap.size W w3 := ((Below.refl _ _).alloc (Nat.le_refl _) _).grown hg (by simp) (fun k hk => by injection hk with hk; omega)
theorem OwnSt.one {w : World} {base : Nat} {V : SV} {s : State} (h : OwnSt w base V s) : V.cells.all (fun u => u.oneCell') = true := by
  simp [SV.cells, own_one h.on, own_one h.orders, own_one h.holds, own_one h.moves, own_one h.inn, own_one h.out, own_one h.fixed]
/-- The sums of a state that begins. -/
theorem OwnSt.begun {w : World} {base : Nat} {vi vu vx : Value} {z : List Int} (h1 : Own cInt 1 3 w base vi z) (h2 : Own cInt 1 3 w base vu z) (h3 : Own cInt 1 3 w base vx z)
    (h12 : ∀ g, vi.ownBlock = some g → vu.ownBlock ≠ some g) (h13 : ∀ g, vi.ownBlock = some g → vx.ownBlock ≠ some g) (h23 : ∀ g, vu.ownBlock = some g → vx.ownBlock ≠ some g) :
    OwnSt w base ⟨nilV, nilV, nilV, nilV, vi, vu, vx, [], []⟩ ⟨[], [], [], [], z, z, z⟩ :=
  ⟨Own.nil, rfl, (fun b h => by cases h), Own.nil, rfl, (fun o h => by cases h), Own.nil, Own.nil, h1, h2, h3, by
    unfold apartL
    refine List.pairwise_cons.2 ⟨fun b hb => ?_, List.pairwise_cons.2 ⟨fun b hb => ?_, List.pairwise_singleton _ _⟩⟩
    · simp only [List.mem_cons, List.not_mem_nil, or_false] at hb
      rcases hb with rfl | rfl
      · exact h12
      · exact h13
    · obtain rfl := List.mem_singleton.1 hb
      exact h23, List.Pairwise.nil⟩

/-- What BeginOf has made by now. -/
structure RB (w : World) (base : Nat) (V : SV) (z : List Int) (k : Nat) : Prop where
  on : Own (fun u : Value => [u]) 1 23 w base V.on V.rows
  rlen : V.rows.length = k
  row : ∀ b, b < k → Own cInt 1 3 w base (V.row b) z
  inn : Own cInt 1 3 w base V.inn z
  out : Own cInt 1 3 w base V.out z
  fixed : Own cInt 1 3 w base V.fixed z
  none1 : V.orders = nilV
  none2 : V.holds = nilV
  none3 : V.moves = nilV
namespace RB
variable {w w' : World} {base : Nat} {V : SV} {z : List Int} {k : Nat}
theorem below (h : RB w base V z k) (hb : Below w.heap.size w w') : RB w' base V z k :=
  ⟨h.on.below hb, h.rlen, fun b hk => (h.row b hk).below hb, h.inn.below hb, h.out.below hb, h.fixed.below hb, h.none1, h.none2, h.none3⟩
theorem keptBy (h : RB w base V z k) {b : Nat} {t : TypeId} {cur : List Value} (hg : w.grownBy w' (some b)) (hb : Blk w b t cur) (h1 : 23 ≠ t) (h2 : 3 ≠ t) : RB w' base V z k :=
  ⟨h.on.kept hg (h.on.notBox hb h1), h.rlen, fun b hk => (h.row b hk).kept hg ((h.row b hk).notBox hb h2), h.inn.kept hg (h.inn.notBox hb h2), h.out.kept hg (h.out.notBox hb h2), h.fixed.kept hg (h.fixed.notBox hb h2), h.none1, h.none2, h.none3⟩
theorem from_ (h : RB w base V z k) {base' : Nat} (hb : base' ≤ base) : RB w base' V z k :=
  ⟨h.on.from_ hb, h.rlen, fun b hk => (h.row b hk).from_ hb, h.inn.from_ hb, h.out.from_ hb, h.fixed.from_ hb, h.none1, h.none2, h.none3⟩
theorem one (h : RB w base V z k) : V.cells.all (fun u => u.oneCell') = true := by
  simp [SV.cells, own_one h.on, own_one h.inn, own_one h.out, own_one h.fixed, h.none1, h.none2, h.none3, show nilV.oneCell' = true from rfl]
theorem push (h : RB w base V z k) {u v' : Value} (hu : Own cInt 1 3 w base u z) (hg : w.grownBy w' V.on.ownBlock) (hv : Own (fun u : Value => [u]) 1 23 w' base v' (V.rows ++ [u])) : RB w' base { V with on := v', rows := V.rows ++ [u] } z (k + 1) := by
  refine ⟨hv, by simp [h.rlen], fun b hb => ?_, h.inn.kept hg (h.inn.apart h.on (by decide)), h.out.kept hg (h.out.apart h.on (by decide)), h.fixed.kept hg (h.fixed.apart h.on (by decide)), h.none1, h.none2, h.none3⟩
  by_cases hlt : b < k
  · have e1 : SV.row { V with on := v', rows := V.rows ++ [u] } b = V.row b := by
      unfold SV.row
      simp [List.getD_eq_getElem?_getD, List.getElem?_append_left (show b < V.rows.length by rw [h.rlen]; exact hlt)]
    rw [e1]
    exact (h.row b hlt).kept hg ((h.row b hlt).apart h.on (by decide))
  · have hb2 : b = k := by omega
    have e1 : SV.row { V with on := v', rows := V.rows ++ [u] } b = u := by
      unfold SV.row
      rw [hb2, ← h.rlen]
      simp
    rw [e1]
    exact hu.kept hg (hu.apart h.on (by decide))
theorem view {p : Plan} (h : RB w base V (List.replicate p.sizes.length 0) p.bins.length) (hc : p.bins.length ≤ 1000) (hc2 : p.sizes.length ≤ 1000) : StateV w w.heap.size V.val (begin p) := by
  obtain ⟨A, c, e, _, hA⟩ := h.on.sl (by rw [h.rlen]; omega)
  have hrl := h.rlen
  refine ⟨_, _, _, _, _, _, _, rfl, ⟨A, c, V.rows, by rw [e, hrl]; simp [begin], by simp [begin]; omega, by simp [begin, hrl], ?_, fun i x hi => ?_⟩, ?_, ?_, ?_, h.inn.sl (by simp; omega), h.out.sl (by simp; omega), h.fixed.sl (by simp; omega)⟩
  · have : V.rows.flatMap (fun u => [u]) = V.rows := by simp
    rw [this] at hA
    exact hA
  · have hi' : (List.replicate p.bins.length (List.replicate p.sizes.length (0 : Int)))[i]? = some x := hi
    rw [List.getElem?_replicate] at hi'
    by_cases hlt : i < p.bins.length
    · rw [if_pos hlt] at hi'
      injection hi' with hi'
      subst hi'
      refine ⟨V.row i, ?_, (h.row i hlt).sl (by simp; omega)⟩
      unfold SV.row
      simp [show i < V.rows.length by omega]
    · rw [if_neg hlt] at hi'
      cases hi'
  · rw [h.none1]; exact ⟨none, 0, [], rfl, by simp [begin], rfl, At.nil, fun i x h => by simp [begin] at h⟩
  · rw [h.none2]; exact Sl.nil
  · rw [h.none3]; exact Sl.nil
end RB

end Wh
namespace Wh
open Go Go.RowKit Go.Proofs

section
variable {α : Type} {enc : α → List Value} {size : Nat} {e : TypeId} {w : World} {base : Nat} {v : Value} {l : List α}
theorem Own.at (h : Own enc size e w base v l) (hk : ∀ x, (enc x).length = size) {i : Nat} (hi : i < l.length) :
    ∃ g c cur, v = .slice (some ⟨g, 0, none⟩) l.length c ∧ base ≤ g ∧ Blk w g e cur ∧ ∀ j u, (enc l[i])[j]? = some u → w.cell? ⟨g, i * size + j, none⟩ = some u := by
  obtain ⟨g, c, cur, h1, h2, h3, h4, h5, h6, h7⟩ := h.row (by omega)
  refine ⟨g, c, cur, h1, h2, h3, fun j u hj => h3.cell ?_⟩
  have hjs : j < size := by
    have := (List.getElem?_eq_some_iff.1 hj).1
    rwa [hk] at this
  have hf := flat_get enc size hk l i j l[i] (by simp [hi]) hjs
  rw [← h7] at hf
  rw [← hj, ← hf, List.getElem?_take]
  rw [if_pos]
  calc i * size + j < i * size + size := by omega
    _ = (i + 1) * size := by rw [Nat.add_mul]; omega
    _ ≤ l.length * size := Nat.mul_le_mul_right _ (by omega)
end

theorem Blk.ne {w : World} {g g' : Nat} {e e' : TypeId} {cur cur' : List Value} (h : Blk w g e cur) (h' : Blk w g' e' cur') (hne : e ≠ e') : g ≠ g' := by
  rintro rfl
  unfold Blk at h h'
  rw [h] at h'
  injection h' with h'
  injection h' with _ h3
  exact hne h3
/-- A store into a block of another type leaves a state's box. -/
theorem BoxAt.off {w w' : World} {b g : Nat} {V : SV} {e : TypeId} {cur : List Value} (h : BoxAt w b V) (hg : w.grownBy w' (some g)) (hb : Blk w g e cur) (hne : e ≠ 31) : BoxAt w' b V :=
  h.grown hg (by intro he; injection he with he; exact hb.ne h.blk hne he.symm)
namespace OwnSt
variable {w w' : World} {base : Nat} {V : SV} {s : State}
/-- The cells of a hold. -/
theorem holdAt (h : OwnSt w base V s) {k : Nat} (hk : k < s.holds.length) : ∃ g c cur, V.holds = .slice (some ⟨g, 0, none⟩) s.holds.length c ∧ base ≤ g ∧ Blk w g 46 cur ∧
    w.cell? ⟨g, k * 4, none⟩ = some (.int .i64 (hold s.holds k).order) ∧ w.cell? ⟨g, k * 4 + 1, none⟩ = some (.int .i64 (hold s.holds k).line) ∧ w.cell? ⟨g, k * 4 + 2, none⟩ = some (.int .i64 (hold s.holds k).bin) ∧ w.cell? ⟨g, k * 4 + 3, none⟩ = some (.int .i64 (hold s.holds k).n) := by
  obtain ⟨g, c, cur, h1, h2, h3, h4⟩ := h.holds.at (fun _ => rfl) hk
  have e : s.holds[k] = hold s.holds k := by simp [hold, hk]
  rw [e] at h4
  exact ⟨g, c, cur, h1, h2, h3, h4 0 _ rfl, h4 1 _ rfl, h4 2 _ rfl, h4 3 _ rfl⟩
/-- The cells of a move. -/
theorem moveAt (h : OwnSt w base V s) {k : Nat} (hk : k < s.moves.length) : ∃ g c cur, V.moves = .slice (some ⟨g, 0, none⟩) s.moves.length c ∧ base ≤ g ∧ Blk w g 48 cur ∧
    w.cell? ⟨g, k * 4, none⟩ = some (.int .i64 (Wh.moveAt s.moves k).good) ∧ w.cell? ⟨g, k * 4 + 1, none⟩ = some (.int .i64 (Wh.moveAt s.moves k).src) ∧ w.cell? ⟨g, k * 4 + 2, none⟩ = some (.int .i64 (Wh.moveAt s.moves k).dst) ∧ w.cell? ⟨g, k * 4 + 3, none⟩ = some (.int .i64 (Wh.moveAt s.moves k).n) := by
  obtain ⟨g, c, cur, h1, h2, h3, h4⟩ := h.moves.at (fun _ => rfl) hk
  have e : s.moves[k] = Wh.moveAt s.moves k := by simp [Wh.moveAt, hk]
  rw [e] at h4
  exact ⟨g, c, cur, h1, h2, h3, h4 0 _ rfl, h4 1 _ rfl, h4 2 _ rfl, h4 3 _ rfl⟩
/-- The cells of an order. -/
theorem orderAt (h : OwnSt w base V s) {o : Nat} (ho : o < s.orders.length) : ∃ g c cur, V.orders = .slice (some ⟨g, 0, none⟩) s.orders.length c ∧ base ≤ g ∧ Blk w g 42 cur ∧
    w.cell? ⟨g, o * 2, none⟩ = some (.int .i64 (s.order o).kind) ∧ w.cell? ⟨g, o * 2 + 1, none⟩ = some (V.line o) := by
  have hol : o < (ords s.orders V.lines).length := by rw [ords_length h.llen]; exact ho
  obtain ⟨g, c, cur, h1, h2, h3, h4⟩ := h.orders.at (fun _ => rfl) hol
  have e : (ords s.orders V.lines)[o] = ((s.order o).kind, V.line o) := by
    have := ords_get h.llen ho
    rw [List.getElem?_eq_getElem hol] at this
    exact Option.some.inj this
  rw [e] at h4
  rw [ords_length h.llen] at h1
  exact ⟨g, c, cur, h1, h2, h3, h4 0 _ rfl, h4 1 _ rfl⟩
/-- The cells of a line. -/
theorem lineAt (h : OwnSt w base V s) {o k : Nat} (ho : o < s.orders.length) (hk : k < (s.order o).lines.length) : ∃ g c cur, V.line o = .slice (some ⟨g, 0, none⟩) (s.order o).lines.length c ∧ base ≤ g ∧ Blk w g 44 cur ∧
    w.cell? ⟨g, k * 4, none⟩ = some (.int .i64 (s.line o k).good) ∧ w.cell? ⟨g, k * 4 + 1, none⟩ = some (.int .i64 (s.line o k).want) ∧ w.cell? ⟨g, k * 4 + 2, none⟩ = some (.int .i64 (s.line o k).got) ∧ w.cell? ⟨g, k * 4 + 3, none⟩ = some (.int .i64 (s.line o k).back) := by
  obtain ⟨g, c, cur, h1, h2, h3, h4⟩ := (h.line o ho).at (fun _ => rfl) hk
  have e : (s.order o).lines[k] = s.line o k := by unfold State.line; simp [Wh.lineAt, hk]
  rw [e] at h4
  exact ⟨g, c, cur, h1, h2, h3, h4 0 _ rfl, h4 1 _ rfl, h4 2 _ rfl, h4 3 _ rfl⟩
/-- The cells of what lies in a bin. -/
theorem onAt (h : OwnSt w base V s) {b g : Nat} (hb : b < s.on.length) (hg : g < (rowAt s.on b).length) : ∃ go co cur0 gr cr cur, V.on = .slice (some ⟨go, 0, none⟩) s.on.length co ∧ base ≤ go ∧ Blk w go 23 cur0 ∧ w.cell? ⟨go, b, none⟩ = some (.slice (some ⟨gr, 0, none⟩) (rowAt s.on b).length cr) ∧
    V.row b = .slice (some ⟨gr, 0, none⟩) (rowAt s.on b).length cr ∧ base ≤ gr ∧ Blk w gr 3 cur ∧ w.cell? ⟨gr, g, none⟩ = some (.int .i64 (cell s.on b g)) := by
  have hbl : b < V.rows.length := by rw [h.rlen]; exact hb
  obtain ⟨go, co, cur0, h1, h2, h3, h4⟩ := h.on.at (fun _ => rfl) hbl
  obtain ⟨gr, cr, cur, k1, k2, k3, k4⟩ := (h.row b hb).at (fun _ => rfl) hg
  have e : V.rows[b] = V.row b := by unfold SV.row; simp [hbl]
  have h5 := h4 0 (V.row b) (by rw [e]; rfl)
  have e2 : (rowAt s.on b)[g] = cell s.on b g := by unfold cell intAt; simp [hg]
  have k5 := k4 0 (.int .i64 (cell s.on b g)) (by rw [e2]; rfl)
  rw [Nat.mul_one, Nat.add_zero] at h5 k5
  rw [h.rlen] at h1
  rw [k1] at h5
  exact ⟨go, co, cur0, gr, cr, cur, h1, h2, h3, h5, k1, k2, k3, k5⟩
theorem intAtOwn {v : Value} {l : List Int} (h : Own cInt 1 3 w base v l) {g : Nat} (hg : g < l.length) : ∃ gr c cur, v = .slice (some ⟨gr, 0, none⟩) l.length c ∧ base ≤ gr ∧ Blk w gr 3 cur ∧ w.cell? ⟨gr, g, none⟩ = some (.int .i64 (intAt l g)) := by
  obtain ⟨gr, c, cur, k1, k2, k3, k4⟩ := h.at (fun _ => rfl) hg
  have e2 : l[g] = intAt l g := by unfold intAt; simp [hg]
  have k5 := k4 0 (.int .i64 (intAt l g)) (by rw [e2]; rfl)
  rw [Nat.mul_one, Nat.add_zero] at k5
  exact ⟨gr, c, cur, k1, k2, k3, k5⟩
end OwnSt
end Wh
namespace Wh
open Go Go.RowKit
/-- As relB, but operations may wait for a guard. -/
def relG (l : List Oper) (n : Nat) : Bool :=
  (decide (n = l.length) || (decide (n < l.length) && Region.sinkB .any l.toArray n && Region.chainB .any l.toArray n)) && Region.seqB .any l.toArray (l.length - n) n (heads l.length n) &&
  decide ((l.take n).filterMap (·.dst)).Nodup && (List.range n).all fun i => ((l[i]?).map fun o => o.after.all fun e => !Region.binds .any e || decide (e.on < i)).getD true
section
variable {P : Program} {l : List Oper} {n : Nat} {R : Nat → (Nat → Value) → World → Prop} {Q : Exit → Act → World → Prop} {a : Act} {w : World}
/-- What is to be shown of one operation: it is carried out, or its guard says no. -/
def StepG (P : Program) (l : List Oper) (n : Nat) (R : Nat → (Nat → Value) → World → Prop) (Q : Exit → Act → World → Prop) (a : Act) (w : World) (i : Nat) (o : Oper) : Prop :=
  ∀ f w', Below w.heap.size w w' → Deps n R f w' o →
    (Region.wanted o (yielded l.toArray (fillA a (l.take n) f).tmps) = true ∧ o.wp P (fillA a (l.take n) f) w' (fun a' w'' => ∃ v, a' = (fillA a (l.take n) f).put o.dst v ∧ R i (updO f o.dst v) w'' ∧ Below w'.heap.size w' w'') Q) ∨
    (Region.wanted o (yielded l.toArray (fillA a (l.take n) f).tmps) = false ∧ R i (updO f o.dst undef) w')
def GuardIs (l : List Oper) (o : Oper) (g : Nat → Value) : Prop := match o.guard with | none => True | some (k, b) => ∃ d, (l[k]?.bind (·.dst)) = some d ∧ g d = .bool b
def GuardNo (l : List Oper) (o : Oper) (g : Nat → Value) : Prop := match o.guard with | none => False | some (k, b) => ∃ d, (l[k]?.bind (·.dst)) = some d ∧ g d = .bool (!b)
theorem getD_bool {t : Array Value} {d : Nat} {b : Bool} (h : t.getD d undef = .bool b) : t[d]? = some (.bool b) := by
  rw [Array.getD_eq_getD_getElem?] at h
  cases hc : t[d]? with
  | none => rw [hc] at h; simp [undef] at h
  | some v => rw [hc] at h; simp at h; rw [h]
theorem GuardIs.wanted {l : List Oper} {o : Oper} {t : Array Value} (h : GuardIs l o (fun d => t.getD d undef)) : Region.wanted o (yielded l.toArray t) = true := by
  unfold GuardIs at h
  unfold Region.wanted
  cases hg : o.guard with
  | none => rfl
  | some p =>
    obtain ⟨k, b⟩ := p
    rw [hg] at h
    obtain ⟨d, h1, h2⟩ := h
    have h3 := getD_bool h2
    simp [yielded, h1, h3]
theorem GuardNo.wanted {l : List Oper} {o : Oper} {t : Array Value} (h : GuardNo l o (fun d => t.getD d undef)) : Region.wanted o (yielded l.toArray t) = false := by
  unfold GuardNo at h
  unfold Region.wanted
  cases hg : o.guard with
  | none => rw [hg] at h; exact h.elim
  | some p =>
    obtain ⟨k, b⟩ := p
    rw [hg] at h
    obtain ⟨d, h1, h2⟩ := h
    have h3 := getD_bool h2
    simp [yielded, h1, h3]
theorem StepG.of {i : Nat} {o : Oper} (_hin : l[i]? = some o) (hi : i < n) (hB : relG l n = true) (hsz : ((l.take n).filterMap (·.dst)).all (fun d => decide (d < a.tmps.size)) = true)
    (hsup : ∀ i g g' w, (∀ j o d, Anc l j i → l[j]? = some o → o.dst = some d → g d = g' d) → R i g w → R i g' w)
    (h : ∀ (g : Nat → Value) w', Below w.heap.size w w' → (∀ d, ((l.take n).filterMap (·.dst)).contains d = false → g d = a.tmps.getD d undef) → Deps n R g w' o → (GuardIs l o g ∧ OpRel P o (evL g) w' fun v w'' => R i (updO g o.dst v) w'' ∧ Below w'.heap.size w' w'') ∨ (GuardNo l o g ∧ R i (updO g o.dst undef) w')) :
    StepG P l n R Q a w i o := by
  simp only [relG, Bool.and_eq_true, Bool.or_eq_true, decide_eq_true_eq, List.all_eq_true] at hB
  obtain ⟨_, hback⟩ := hB
  have hback' : ∀ k oe, k < n → l[k]? = some oe → ∀ e ∈ oe.after, Region.binds .any e = true → e.on < k := fun k oe hk hoe e he hbd => by
    have := hback k (List.mem_range.2 hk)
    rw [hoe] at this
    simp only [Option.map_some, Option.getD_some, Array.all_eq_true_iff_forall_mem, Bool.or_eq_true, Bool.not_eq_true', decide_eq_true_eq] at this
    rcases this e he with h | h
    · rw [h] at hbd; cases hbd
    · exact h
  have hanc : ∀ j k, Anc l j k → k < n → j < n := by
    intro j k h
    induction h with
    | self => exact id
    | back ho he hbd hon _ ih =>
      intro h1
      subst hon
      have := hback' _ _ h1 ho _ he hbd
      exact ih (by omega)
  have hsz' : ∀ d ∈ (l.take n).filterMap (·.dst), d < a.tmps.size := fun d hd => by
    have := List.all_eq_true.1 hsz d hd
    simpa using this
  intro f w' hb hd
  have hg : ∀ d ∈ (l.take n).filterMap (·.dst), (fillA a (l.take n) f).tmps.getD d undef = f d := fun d hd => by
    have h1 := fillT_get ((l.take n).filterMap (·.dst)) f a.tmps d
    rw [if_pos (hsz' d hd), if_pos hd] at h1
    unfold fillA
    simp only [Array.getD_eq_getD_getElem?, h1, Option.getD_some]
  have ho : ∀ d, ((l.take n).filterMap (·.dst)).contains d = false → (fillA a (l.take n) f).tmps.getD d undef = a.tmps.getD d undef := fun d hd => by
    have h1 := fillT_get ((l.take n).filterMap (·.dst)) f a.tmps d
    have h2 : d ∉ (l.take n).filterMap (·.dst) := by simpa using hd
    rw [if_neg h2] at h1
    unfold fillA
    simp only [Array.getD_eq_getD_getElem?, h1]
    by_cases hl : d < a.tmps.size
    · rw [if_pos hl]
    · rw [if_neg hl, Array.getElem?_eq_none (Nat.le_of_not_lt hl)]
  have key := h (fun d => (fillA a (l.take n) f).tmps.getD d undef) w' hb ho (fun e he hbd hen => hsup e.on f _ _ (fun j oj d haj hoj hdj => (hg d (dst_mem hoj (hanc _ _ haj hen) hdj)).symm) (hd e he hbd hen))
  have hback2 : ∀ v w'', R i (updO (fun d => (fillA a (l.take n) f).tmps.getD d undef) o.dst v) w'' → R i (updO f o.dst v) w'' := fun v w'' hr => by
    refine hsup i _ _ _ (fun j oj d haj hoj hdj => ?_) hr
    have hjn := hanc _ _ haj hi
    have hmem := dst_mem hoj hjn hdj
    cases hdst : o.dst with
    | none => exact hg d hmem
    | some d0 =>
      unfold updO upd
      simp only
      split
      · rfl
      · exact hg d hmem
  rcases key with ⟨hw, key⟩ | ⟨hw, key⟩
  · rw [← evL_eval] at key
    refine .inl ⟨hw.wanted, Oper.wp_mono ?_ key.wp⟩
    rintro a' w'' ⟨v, rfl, hr, hbw⟩
    exact ⟨v, rfl, hback2 v w'' hr, hbw⟩
  · exact .inr ⟨hw.wanted, hback2 undef w' key⟩


/-- One operation: what it says stays, hangs on what came before it alone, and comes; or its guard says no. -/
def OpG (P : Program) (l : List Oper) (n : Nat) (Rs : List RelP) (a : Act) (w : World) (i : Nat) (o : Oper) (p : RelP) : Prop :=
  (∀ g w1 w2, p g w1 → Below w1.heap.size w1 w2 → p g w2) ∧ (∀ g g' w, (∀ j o d, Anc l j i → l[j]? = some o → o.dst = some d → g d = g' d) → p g w → p g' w) ∧
  ∀ g w', Below w.heap.size w w' → (∀ d, ((l.take n).filterMap (·.dst)).contains d = false → g d = a.tmps.getD d undef) → Deps n (atR Rs) g w' o →
    (GuardIs l o g ∧ OpRel P o (evL g) w' fun v w'' => p (updO g o.dst v) w'' ∧ Below w'.heap.size w' w'') ∨ (GuardNo l o g ∧ p (updO g o.dst undef) w')
def OpsG (P : Program) (l : List Oper) (n : Nat) (Rs : List RelP) (a : Act) (w : World) : Nat → List Oper → List RelP → Prop
  | _, [], _ => True
  | _, _ :: _, [] => False
  | i, o :: r, p :: ps => OpG P l n Rs a w i o p ∧ OpsG P l n Rs a w (i + 1) r ps
theorem OpsG.at {Rs : List RelP} : ∀ {r : List Oper} {ps : List RelP} {k : Nat}, OpsG P l n Rs a w k r ps → ∀ {j : Nat} {o : Oper}, r[j]? = some o → OpG P l n Rs a w (k + j) o (ps.getD j (fun _ _ => True))
  | [], _, _, _, _, _, h => by simp at h
  | _ :: _, [], _, h, _, _, _ => h.elim
  | x :: r, p :: ps, k, h, 0, o, hj => by
    simp at hj
    subst hj
    exact h.1
  | x :: r, p :: ps, k, h, j + 1, o, hj => by
    have := OpsG.at h.2 (j := j) (o := o) (by simpa using hj)
    rw [show k + 1 + j = k + (j + 1) by omega] at this
    simpa using this
theorem OpsG.nil {Rs : List RelP} {i : Nat} {ps : List RelP} : OpsG P l n Rs a w i [] ps := by cases ps <;> trivial
theorem OpsG.cons {Rs : List RelP} {i : Nat} {o : Oper} {r : List Oper} {p : RelP} {ps : List RelP} (h : OpG P l n Rs a w i o p) (h' : OpsG P l n Rs a w (i + 1) r ps) : OpsG P l n Rs a w i (o :: r) (p :: ps) := ⟨h, h'⟩
/-- An operation whose value is known. -/
theorem OpG.val {Rs : List RelP} {i d : Nat} {o : Oper} {c : Value} (hi : l[i]? = some o) (ho : o.dst = some d)
    (hgd : ∀ g w', (∀ d, ((l.take n).filterMap (·.dst)).contains d = false → g d = a.tmps.getD d undef) → Deps n (atR Rs) g w' o → GuardIs l o g)
    (h : ∀ g w', Below w.heap.size w w' → (∀ d, ((l.take n).filterMap (·.dst)).contains d = false → g d = a.tmps.getD d undef) → Deps n (atR Rs) g w' o → (execOp (evL g) o).run P w' = .ok (.value c) w') :
    OpG P l n Rs a w i o (fun g _ => g d = c) := by
  refine ⟨fun _ _ _ h _ => h, fun g g' _ he h => (he i o d (Anc.self i) hi ho).symm.trans h, fun g w' hb hout hd => .inl ⟨hgd g w' hout hd, ?_⟩⟩
  unfold OpRel
  rw [h g w' hb hout hd]
  refine ⟨?_, Below.refl _ _⟩
  rw [ho]
  unfold updO upd
  simp
/-- An operation whose guard says no. -/
theorem OpG.skip {Rs : List RelP} {i d : Nat} {o : Oper} (hi : l[i]? = some o) (ho : o.dst = some d)
    (hgd : ∀ g w', (∀ d, ((l.take n).filterMap (·.dst)).contains d = false → g d = a.tmps.getD d undef) → Deps n (atR Rs) g w' o → GuardNo l o g) :
    OpG P l n Rs a w i o (fun g _ => g d = undef) := by
  refine ⟨fun _ _ _ h _ => h, fun g g' _ he h => (he i o d (Anc.self i) hi ho).symm.trans h, fun g w' hb hout hd => .inr ⟨hgd g w' hout hd, ?_⟩⟩
  rw [ho]
  unfold updO upd
  simp
/-- An operation of whose value something is known, by itself. -/
theorem OpG.one {Rs : List RelP} {i d : Nat} {o : Oper} {p : Value → World → Prop} (hi : l[i]? = some o) (ho : o.dst = some d) (hst : ∀ v w1 w2, p v w1 → Below w1.heap.size w1 w2 → p v w2)
    (hgd : ∀ g w', (∀ d, ((l.take n).filterMap (·.dst)).contains d = false → g d = a.tmps.getD d undef) → Deps n (atR Rs) g w' o → GuardIs l o g)
    (h : ∀ g w', Below w.heap.size w w' → (∀ d, ((l.take n).filterMap (·.dst)).contains d = false → g d = a.tmps.getD d undef) → Deps n (atR Rs) g w' o → OpRel P o (evL g) w' fun v w'' => p v w'' ∧ Below w'.heap.size w' w'') :
    OpG P l n Rs a w i o (fun g w => p (g d) w) := by
  refine ⟨fun g w1 w2 h hb => hst _ _ _ h hb, fun g g' w1 he h => ?_, fun g w' hb hout hd => .inl ⟨hgd g w' hout hd, ?_⟩⟩
  · show p (g' d) w1
    rw [← he i o d (Anc.self i) hi ho]
    exact h
  · have := h g w' hb hout hd
    rw [ho]
    have e : ∀ v, updO g (some d) v d = v := fun v => by unfold updO upd; simp
    simpa only [e] using this
end
end Wh
namespace Wh
open Go Go.RowKit Go.Shelf Go.Proofs

def ActPost (r : State × Int) (w : World) (e : Ending) (w' : World) : Prop := ∃ V, e = .returned (.tuple #[V.val, .int .i64 r.2]) ∧ OwnSt w' w.heap.size V r.1 ∧ Below w.heap.size w w'
theorem actErr {r : State × Int} {c : Int} {w w' : World} (h : r = (dState, c)) (hb : Below w.heap.size w w') : ActPost r w (.returned (.tuple #[nilSV.val, .int .i64 c])) w' :=
  ⟨nilSV, by rw [h], by rw [h]; exact OwnSt.zero _ _, hb⟩
theorem actOk {r : State × Int} {s : State} {V : SV} {w w' : World} (h : r = (s, 0)) (ho : OwnSt w' w.heap.size V s) (hb : Below w.heap.size w w') : ActPost r w (.returned (.tuple #[V.val, .int .i64 0])) w' :=
  ⟨V, by rw [h], by rw [h]; exact ho, hb⟩

/-- A number stored into a cell: the world behind it at hand. -/
theorem wpList_store_int {ops : Array Oper} {rest : List Oper} {o : Oper} {a : Act} {w : World} {Q : Exit → Act → World → Prop} (hgd : o.guard = none) (x y : Operand) (ho : o.op = .store 3 x y) (hn : o.dst = none) (b off : Nat) (u : Value) (q : Int)
    (hx : a.eval x = .pointer (some ⟨b, off, none⟩)) (hy : a.eval y = .int .i64 q) (hc : w.cell? ⟨b, off, none⟩ = some u) (hf : w.frozen? ⟨b, off, none⟩ = false)
    (h : ∀ w', w.setCell ⟨b, off, none⟩ (.int .i64 q) = w' → wpList Tryz.prog ops Q rest a w') : wpList Tryz.prog ops Q (o :: rest) a w :=
  wpList_plain hgd fun K hK => by
    unfold Oper.wp
    simp only [execOp, ho, hx, hy]
    go_simp
    exact hK _ _ (h _ rfl)
end Wh
namespace Wh
open Go Go.RowKit Go.Shelf Go.Proofs
attribute [local go_sem] run_indexAt_letter

section
variable {p : Plan} {s : State} {b g n : Int}
theorem receive_bad (h : checkState p s ≠ 0) : receive p s b g n = (dState, checkState p s) := by unfold receive; rw [if_pos h]
theorem receive_range (h : checkState p s = 0) (h2 : (isBin p b && isGood p g && within n 1 200) = false) : receive p s b g n = (dState, 3) := by
  unfold receive
  rw [if_neg (fun hn => hn h), h2]; rfl
theorem receive_full (h : checkState p s = 0) (h2 : (isBin p b && isGood p g && within n 1 200) = true) (h3 : free p s b < n * intAt p.sizes g.toNat) : receive p s b g n = (dState, 5) := by
  unfold receive
  rw [if_neg (fun hn => hn h), h2, if_neg (by simp), if_pos h3]
theorem receive_many (h : checkState p s = 0) (h2 : (isBin p b && isGood p g && within n 1 200) = true) (h3 : n * intAt p.sizes g.toNat ≤ free p s b) (h4 : 200 < cell s.on b.toNat g.toNat + coming s b g + n ∨ 1048576 < intAt s.inn g.toNat + n) : receive p s b g n = (dState, 2) := by
  unfold receive
  rw [if_neg (fun hn => hn h), h2, if_neg (by simp), if_neg (by omega), if_pos h4]
theorem receive_ok (h : checkState p s = 0) (h2 : (isBin p b && isGood p g && within n 1 200) = true) (h3 : n * intAt p.sizes g.toNat ≤ free p s b) (h4 : cell s.on b.toNat g.toNat + coming s b g + n ≤ 200) (h5 : intAt s.inn g.toNat + n ≤ 1048576) :
    receive p s b g n = ({ s with on := setCell s.on b.toNat g.toNat (cell s.on b.toNat g.toNat + n), inn := s.inn.set g.toNat (intAt s.inn g.toNat + n) }, 0) := by
  unfold receive
  rw [if_neg (fun hn => hn h), h2, if_neg (by simp), if_neg (by omega), if_neg (by omega)]
end

set_option maxHeartbeats 8000000 in
set_option maxRecDepth 100000 in
theorem recvReceive (w : World) (v vs : Value) (p : Plan) (s : State) (b g n : Int) (hp : PlanV w w.heap.size v p) (hv : StateV w w.heap.size vs s) :
    Calls Tryz.prog 44 #[v, vs, .int .i64 b, .int .i64 g, .int .i64 n] w (ActPost (receive p s b g n) w) := by
  obtain ⟨Ab, cb, As, cs, rfl, hP', hBn, hSz, hlb, hls⟩ := openPl hp
  obtain ⟨A0, c0, A1, c1, A2, c2, A3, c3, A4, c4, A5, c5, A6, c6, rfl, hV, hN, hO, hH, hM, hI, hU, hX, hl0, hl1, hl2, hl3, hl4, hl5, hl6⟩ := openOne hv
  go_enter Tryz.func44, Tryz.ntmps44
  go_wp2_with fail
  obtain ⟨W0, hW0, hb0, hsz0, hsz1, hsE, hK, hR⟩ := boxesAct w p s Ab cb As cs A0 c0 A1 c1 A2 c2 A3 c3 A4 c4 A5 c5 A6 c6
  rw [hW0]
  clear hW0
  obtain ⟨⟨y0, y1⟩, x0, x1, x2, x3, x4, x5, x6, hbz0, hbz1⟩ := hK.out W0 (Below.refl W0.heap.size W0)
  go_wp2_with fail
  clear y0 y1 x0 x1 x2 x3 x4 x5 x6 hbz0 hbz1
  refine (sCheck _ _ _ p s (hP'.out _ hb0) (hV.out _ hb0)).mono ?_
  rintro e W1 ⟨rfl, h1⟩
  have hB1 := hb0.trans (h1.mono hb0.size)
  obtain ⟨⟨y0, y1⟩, x0, x1, x2, x3, x4, x5, x6, hbz0, hbz1⟩ := hK.out W1 (h1)
  by_cases hc : checkState p s = 0
  · have hc' := Lib.hid hc
    have hsn := Lib.hid (checkState_zero.1 hc).1
    rw [hc]
    clear hc
    go_wp2_with fail
    clear y0 y1 x0 x1 x2 x3 x4 x5 x6 hbz0 hbz1
    refine (shThere _ _ p b g (hP'.out _ hB1)).mono ?_
    rintro e W2 ⟨rfl, h2⟩
    have h02 := h1.trans (h2.mono h1.size)
    have hB2 := hb0.trans (h02.mono hb0.size)
    obtain ⟨⟨y0, y1⟩, x0, x1, x2, x3, x4, x5, x6, hbz0, hbz1⟩ := hK.out W2 (h02)
    cases hth : (isBin p b && isGood p g)
    · have hfin := Lib.hid (receive_range (n := n) hc'.out (by rw [hth]; rfl))
      clear hth
      have hbx9 := hR.out _ h02
      go_wp2_with (refine wpList_store_state rfl (.tmp 10) (.tmp 31) rfl rfl (w.heap.size + 1 + 1) nilSV nilSV hbx9 rfl rfl rfl (fun w9 hbox9 hg9 => ?_))
      obtain ⟨p0, p1, p2, p3, p4, p5, p6⟩ := BoxAt.cells hbox9
      have hfin9 : Below w.heap.size w w9 := Below.grown hB2 hg9 (Below.size hB2) (fun k hk => by injection hk with hk; omega)
      go_wp2_with fail
      exact bodyPost_ret (v := .tuple #[nilSV.val, .int .i64 3]) (by simp [results, Tryz.results44, go_sem, SV.val, p0, p1, p2, p3, p4, p5, p6]) rfl (actErr hfin.out hfin9)
    · have hth' := Lib.hid hth
      rw [Bool.and_eq_true] at hth
      have hbb := Lib.hid (isBin_iff.1 hth.1)
      have hgg := Lib.hid (isGood_iff.1 hth.2)
      clear hth
      by_cases hn1 : 1 ≤ n
      · by_cases hn2 : n ≤ 200
        · have hall := Lib.hid (show (isBin p b && isGood p g && within n 1 200) = true by rw [hth'.out, within_iff.2 ⟨hn1, hn2⟩]; rfl)
          have hb1 : 0 ≤ b := hbb.out.1
          have hb2 : b < (s.on.length : Int) := by rw [hsn.out.onLen]; exact hbb.out.2
          have hg1 : 0 ≤ g := hgg.out.1
          have hg2 : g < (p.sizes.length : Int) := hgg.out.2
          have hbl : b.toNat < s.on.length := by omega
          have hgs : g.toNat < p.sizes.length := by omega
          have hgl : g.toNat < (rowAt s.on b.toNat).length := by rw [hsn.out.rowLen (by have := hbb.out; omega)]; omega
          have hgr : g < ((rowAt s.on b.toNat).length : Int) := by omega
          have hgi : g < (s.inn.length : Int) := by rw [hsn.out.inn.1]; omega
          obtain ⟨z1, z2⟩ := right_size hsn.out.plan hgs
          have hm1 := mul_range (a := n) (b := intAt p.sizes g.toNat) (by omega) ⟨z1, z2⟩
          have hw1 : IntKind.i64.wrap (n * intAt p.sizes g.toNat) = n * intAt p.sizes g.toNat := IntWalk.i64_in _ (by omega)
          obtain ⟨os0, ls0, rs0⟩ := (hSz.out W2 hB2).at_.int hgs
          have q0 := fun o d os => cells_wld (w := W2) (b := w.heap.size) hbz1 o d os
          have q1 := fun o d os => cells_wld (w := W2) (b := w.heap.size + 1) hbz0 o d os
          have q2 := fun o d os => cells_wld (w := W2) (b := ablk As) ls0 o d os
          have hP2 := Lib.hid (fun d os => hP'.out _ (hB2.trans ((below_wld W2 d os).mono hB2.size)))
          have hV2 := Lib.hid (fun d os => hV.out _ (hB2.trans ((below_wld W2 d os).mono hB2.size)))
          by_cases hfu : free p s b < n * intAt p.sizes g.toNat
          · have hfin := Lib.hid (receive_full (n := n) hc'.out hall.out hfu)
            go_wp2_with fail
            refine wp_region_wld (by kernel_rfl) (by kernel_rfl) ?_
            repeat (go_big_quiet_step ((go_at_call 93; refine calls_wld (sRoom _ _ _ p s b (hP2.out _ _) (hV2.out _ _) hsn.out hbb.out))))
            refine wpQuiet_nil ?_
            intro W3 hw'
            have hb3 := below_of_cls hw'
            clear hw'
            have h03 := h02.trans (hb3.mono h02.size)
            have hB3 := hb0.trans (h03.mono hb0.size)
            have hbx9 := hR.out _ h03
            go_wp2_with (refine wpList_store_state rfl (.tmp 10) (.tmp 45) rfl rfl (w.heap.size + 1 + 1) nilSV nilSV hbx9 rfl rfl rfl (fun w9 hbox9 hg9 => ?_))
            obtain ⟨p0, p1, p2, p3, p4, p5, p6⟩ := BoxAt.cells hbox9
            have hfin9 : Below w.heap.size w w9 := Below.grown hB3 hg9 (Below.size hB3) (fun k hk => by injection hk with hk; omega)
            go_wp2_with fail
            exact bodyPost_ret (v := .tuple #[nilSV.val, .int .i64 5]) (by simp [results, Tryz.results44, go_sem, SV.val, p0, p1, p2, p3, p4, p5, p6]) rfl (actErr hfin.out hfin9)
          · have hfu' : n * intAt p.sizes g.toNat ≤ free p s b := by omega
            go_wp2_with fail
            refine wp_region_wld (by kernel_rfl) (by kernel_rfl) ?_
            repeat (go_big_quiet_step ((go_at_call 93; refine calls_wld (sRoom _ _ _ p s b (hP2.out _ _) (hV2.out _ _) hsn.out hbb.out))))
            refine wpQuiet_nil ?_
            intro W3 hw'
            have hb3 := below_of_cls hw'
            clear hw'
            have h03 := h02.trans (hb3.mono h02.size)
            have hB3 := hb0.trans (h03.mono hb0.size)
            clear q0 q1 q2 hP2 hV2 hw1 rs0 os0 ls0
            clear y0 y1 x0 x1 x2 x3 x4 x5 x6 hbz0 hbz1
            obtain ⟨⟨y0, y1⟩, x0, x1, x2, x3, x4, x5, x6, hbz0, hbz1⟩ := hK.out W3 (h03)
            obtain ⟨Ar, cr, or0, lr0, rr0, hrow⟩ := (hN.out W3 hB3).row hbl
            obtain ⟨or1, lr1, rr1⟩ := hrow.at_.int hgl
            obtain ⟨oi, li, ri⟩ := (hI.out W3 hB3).at_.int (i := g.toNat) (by omega)
            have hcl : intAt (rowAt s.on b.toNat) g.toNat = cell s.on b.toNat g.toNat := rfl
            rw [hcl] at rr1
            clear hcl
            have t1 := hsn.out.cell (b := b.toNat) (g := g.toNat) (by have := hbb.out; omega) hgs
            have t2 := coming_range hsn.out b g
            have t3 := hsn.out.inn.2 hgs
            have hw1 : IntKind.i64.wrap (cell s.on b.toNat g.toNat + coming s b g) = cell s.on b.toNat g.toNat + coming s b g := IntWalk.i64_in _ (by omega)
            have hw2 : IntKind.i64.wrap (cell s.on b.toNat g.toNat + coming s b g + n) = cell s.on b.toNat g.toNat + coming s b g + n := IntWalk.i64_in _ (by omega)
            have hw3 : IntKind.i64.wrap (intAt s.inn g.toNat + n) = intAt s.inn g.toNat + n := IntWalk.i64_in _ (by omega)
            have q1 := fun o d os => cells_wld (w := W3) (b := w.heap.size + 1) hbz0 o d os
            have q2 := fun o d os => cells_wld (w := W3) (b := ablk A0) lr0 o d os
            have q3 := fun o d os => cells_wld (w := W3) (b := ablk Ar) lr1 o d os
            have hV2 := Lib.hid (fun d os => hV.out _ (hB3.trans ((below_wld W3 d os).mono hB3.size)))
            by_cases hm : 200 < cell s.on b.toNat g.toNat + coming s b g + n
            · have hfin := Lib.hid (receive_many (n := n) hc'.out hall.out hfu' (.inl hm))
              go_wp2_with fail
              refine wp_region_wld (by kernel_rfl) (by kernel_rfl) ?_
              repeat (go_big_quiet_step ((go_at_call 94; refine calls_wld (sComing _ _ p s b g (hV2.out _ _) hsn.out))))
              refine wpQuiet_nil ?_
              intro W4 hw'
              have hb4 := below_of_cls hw'
              clear hw'
              have h04 := h03.trans (hb4.mono h03.size)
              have hB4 := hb0.trans (h04.mono hb0.size)
              have hbx9 := hR.out _ h04
              go_wp2_with (refine wpList_store_state rfl (.tmp 10) (.tmp 71) rfl rfl (w.heap.size + 1 + 1) nilSV nilSV hbx9 rfl rfl rfl (fun w9 hbox9 hg9 => ?_))
              obtain ⟨p0, p1, p2, p3, p4, p5, p6⟩ := BoxAt.cells hbox9
              have hfin9 : Below w.heap.size w w9 := Below.grown hB4 hg9 (Below.size hB4) (fun k hk => by injection hk with hk; omega)
              go_wp2_with fail
              exact bodyPost_ret (v := .tuple #[nilSV.val, .int .i64 2]) (by simp [results, Tryz.results44, go_sem, SV.val, p0, p1, p2, p3, p4, p5, p6]) rfl (actErr hfin.out hfin9)
            · have hm' : cell s.on b.toNat g.toNat + coming s b g + n ≤ 200 := by omega
              go_wp2_with fail
              refine wp_region_wld (by kernel_rfl) (by kernel_rfl) ?_
              repeat (go_big_quiet_step ((go_at_call 94; refine calls_wld (sComing _ _ p s b g (hV2.out _ _) hsn.out))))
              refine wpQuiet_nil ?_
              intro W4 hw'
              have hb4 := below_of_cls hw'
              clear hw'
              have h04 := h03.trans (hb4.mono h03.size)
              have hB4 := hb0.trans (h04.mono hb0.size)
              clear q1 q2 q3 hV2 hw1 hw2
              clear y0 y1 x0 x1 x2 x3 x4 x5 x6 hbz0 hbz1
              obtain ⟨⟨y0, y1⟩, x0, x1, x2, x3, x4, x5, x6, hbz0, hbz1⟩ := hK.out W4 (h04)
              have ri4 := (hb4.cell (p := ⟨ablk A4, aoff A4 + g.toNat, none⟩) li).trans ri
              clear rr0 rr1 ri hm
              by_cases hi : 1048576 < intAt s.inn g.toNat + n
              · have hfin := Lib.hid (receive_many (n := n) hc'.out hall.out hfu' (.inr hi))
                have hbx9 := hR.out _ h04
                go_wp2_with (refine wpList_store_state rfl (.tmp 10) (.tmp 71) rfl rfl (w.heap.size + 1 + 1) nilSV nilSV hbx9 rfl rfl rfl (fun w9 hbox9 hg9 => ?_))
                obtain ⟨p0, p1, p2, p3, p4, p5, p6⟩ := BoxAt.cells hbox9
                have hfin9 : Below w.heap.size w w9 := Below.grown hB4 hg9 (Below.size hB4) (fun k hk => by injection hk with hk; omega)
                go_wp2_with fail
                exact bodyPost_ret (v := .tuple #[nilSV.val, .int .i64 2]) (by simp [results, Tryz.results44, go_sem, SV.val, p0, p1, p2, p3, p4, p5, p6]) rfl (actErr hfin.out hfin9)
              · have hi' : intAt s.inn g.toNat + n ≤ 1048576 := by omega
                have hfin := Lib.hid (receive_ok (n := n) hc'.out hall.out hfu' hm' hi')
                go_wp2_with fail
                clear y0 y1 x0 x1 x2 x3 x4 x5 x6 hbz0 hbz1
                clear ri4 hi
                refine (sOwn _ _ p s (hV.out _ hB4) hsn.out).mono ?_
                rintro e W5 ⟨_, rfl, ⟨V5, rfl, ho5⟩, h5⟩
                have hone6 := (ho5).one
                have hnb6 := newBox (W5)
                go_wp2_with (refine wpList_store_state rfl (.tmp 13) (.tmp 73) rfl rfl (World.heap (W5)).size nilSV V5 hnb6 rfl rfl hone6 (fun w6 hbox6 hg6 => ?_); refine Hid.out ?_)
                unfold Hid
                have hbb6 := newBelow hg6
                have hbl6 := hbox6.lt
                clear hone6 hnb6 hg6
                have ho6 := ho5.below hbb6
                have h06 := h04.trans ((h5.trans (hbb6.mono h5.size)).mono h04.size)
                have hB6 := hb0.trans (h06.mono hb0.size)
                have hle4 : w.heap.size ≤ W4.heap.size := hB4.size
                have hle04 : W0.heap.size ≤ W4.heap.size := h04.size
                obtain ⟨go, co, cur0, gr, cr2, cur, e1, f1, f2, f3, e2, f4, f5, f6⟩ := ho6.onAt hbl hgl
                have hx0 := hbox6.cells.1
                rw [e1] at hx0
                have hf := f5.frozen g.toNat
                have hst := ho6.setOn hbl hgl e2 (cell s.on b.toNat g.toNat + n)
                have hbox7 := hbox6.off hst.2 f5 (by decide)
                have hw4 : IntKind.i64.wrap (cell s.on b.toNat g.toNat + n) = cell s.on b.toNat g.toNat + n := IntWalk.i64_in _ (by omega)
                have h07 := h06.setCell (p := ⟨gr, g.toNat, none⟩) (Nat.le_trans hle04 f4) (.int .i64 (cell s.on b.toNat g.toNat + n))
                have hB7 := hB6.setCell (p := ⟨gr, g.toNat, none⟩) (Nat.le_trans hle4 f4) (.int .i64 (cell s.on b.toNat g.toNat + n))
                go_wp2_with (refine wpList_store_int rfl (.tmp 84) (.tmp 83) rfl rfl gr g.toNat _ _ rfl rfl f6 hf (fun w7 hw7 => ?_); refine Hid.out ?_)
                unfold Hid
                rw [hw7] at hst hbox7 h07 hB7
                clear hw7 hw4 hx0 hf f2 f3 f5 f6 e1 e2 ho6 hbox6
                have ho7 : OwnSt w7 W4.heap.size V5 { s with on := setCell s.on b.toNat g.toNat (cell s.on b.toNat g.toNat + n) } := hst.1
                have hgil : g.toNat < s.inn.length := by omega
                obtain ⟨gi, ci, curi, e3, k1, k2, k3⟩ := OwnSt.intAtOwn (l := s.inn) ho7.inn hgil
                have hx4 := hbox7.cells.2.2.2.2.1
                rw [e3] at hx4
                have hfi := k2.frozen g.toNat
                have hst2 := ho7.setInn hgil e3 (intAt s.inn g.toNat + n)
                have hbox8 := hbox7.off hst2.2 k2 (by decide)
                have h08 := h07.setCell (p := ⟨gi, g.toNat, none⟩) (Nat.le_trans hle04 k1) (.int .i64 (intAt s.inn g.toNat + n))
                have hB8 := hB7.setCell (p := ⟨gi, g.toNat, none⟩) (Nat.le_trans hle4 k1) (.int .i64 (intAt s.inn g.toNat + n))
                go_wp2_with (refine wpList_store_int rfl (.tmp 92) (.tmp 91) rfl rfl gi g.toNat _ _ rfl rfl k3 hfi (fun w8 hw8 => ?_); refine Hid.out ?_)
                unfold Hid
                rw [hw8] at hst2 hbox8 h08 hB8
                clear hw8 hx4 hfi k2 k3 e3
                have ho8 : OwnSt w8 W4.heap.size V5 { s with on := setCell s.on b.toNat g.toNat (cell s.on b.toNat g.toNat + n), inn := s.inn.set g.toNat (intAt s.inn g.toNat + n) } := hst2.1
                have ho8' := Lib.hid ho8
                have hbox8' := Lib.hid hbox8
                clear hst hst2 ho7 ho8 hbox7 hbox8 ho5
                have hbx9 := hR.out _ h08
                obtain ⟨b0, b1, b2, b3, b4, b5, b6⟩ := BoxAt.cells hbox8'.out
                have hone9 := OwnSt.one ho8'.out
                go_wp2_with (refine wpList_store_state rfl (.tmp 10) (.tmp 93) rfl rfl (w.heap.size + 1 + 1) nilSV V5 hbx9 rfl rfl hone9 (fun w9 hbox9 hg9 => ?_))
                have hO9 := OwnSt.keptBy ho8'.out hg9 hbx9 (by decide) (by decide) (by decide) (by decide) (by decide) (by decide)
                obtain ⟨p0, p1, p2, p3, p4, p5, p6⟩ := BoxAt.cells hbox9
                have hfin9 : Below w.heap.size w w9 := Below.grown hB8 hg9 (Below.size hB8) (fun k hk => by injection hk with hk; omega)
                clear b0 b1 b2 b3 b4 b5 b6
                go_wp2_with fail
                exact bodyPost_ret (v := .tuple #[SV.val V5, .int .i64 0]) (by simp [results, Tryz.results44, go_sem, SV.val, p0, p1, p2, p3, p4, p5, p6]) rfl (actOk hfin.out (hO9.from_ hle4) hfin9)
        · have hfin := Lib.hid (receive_range (n := n) hc'.out (by rw [hth'.out, show within n 1 200 = false from within_false.2 (by omega)]; rfl))
          have hbx9 := hR.out _ h02
          go_wp2_with (refine wpList_store_state rfl (.tmp 10) (.tmp 31) rfl rfl (w.heap.size + 1 + 1) nilSV nilSV hbx9 rfl rfl rfl (fun w9 hbox9 hg9 => ?_))
          obtain ⟨p0, p1, p2, p3, p4, p5, p6⟩ := BoxAt.cells hbox9
          have hfin9 : Below w.heap.size w w9 := Below.grown hB2 hg9 (Below.size hB2) (fun k hk => by injection hk with hk; omega)
          go_wp2_with fail
          exact bodyPost_ret (v := .tuple #[nilSV.val, .int .i64 3]) (by simp [results, Tryz.results44, go_sem, SV.val, p0, p1, p2, p3, p4, p5, p6]) rfl (actErr hfin.out hfin9)
      · have hfin := Lib.hid (receive_range (n := n) hc'.out (by rw [hth'.out, show within n 1 200 = false from within_false.2 (by omega)]; rfl))
        have hbx9 := hR.out _ h02
        go_wp2_with (refine wpList_store_state rfl (.tmp 10) (.tmp 31) rfl rfl (w.heap.size + 1 + 1) nilSV nilSV hbx9 rfl rfl rfl (fun w9 hbox9 hg9 => ?_))
        obtain ⟨p0, p1, p2, p3, p4, p5, p6⟩ := BoxAt.cells hbox9
        have hfin9 : Below w.heap.size w w9 := Below.grown hB2 hg9 (Below.size hB2) (fun k hk => by injection hk with hk; omega)
        go_wp2_with fail
        exact bodyPost_ret (v := .tuple #[nilSV.val, .int .i64 3]) (by simp [results, Tryz.results44, go_sem, SV.val, p0, p1, p2, p3, p4, p5, p6]) rfl (actErr hfin.out hfin9)
  · have hne : (checkState p s != 0) = true := by simpa using hc
    have hfin := Lib.hid (receive_bad (b := b) (g := g) (n := n) hc)
    clear hc
    have hbx9 := hR.out _ h1
    go_wp2_with (refine wpList_store_state rfl (.tmp 10) (.tmp 19) rfl rfl (w.heap.size + 1 + 1) nilSV nilSV hbx9 rfl rfl rfl (fun w9 hbox9 hg9 => ?_))
    obtain ⟨p0, p1, p2, p3, p4, p5, p6⟩ := BoxAt.cells hbox9
    have hfin9 : Below w.heap.size w w9 := Below.grown hB1 hg9 (Below.size hB1) (fun k hk => by injection hk with hk; omega)
    go_wp2_with fail
    exact bodyPost_ret (v := .tuple #[nilSV.val, .int .i64 (checkState p s)]) (by simp [results, Tryz.results44, go_sem, SV.val, p0, p1, p2, p3, p4, p5, p6]) rfl (actErr hfin.out hfin9)
end Wh
