/- Texts of the claim, joined: StateI, StateM, OwnU, RelG, Act, Box. -/
import Derived.Deep.OwnRows
import Derived.Test.YtfhfkijmebhgmaaGreatQ18
import Derived.Test.YtfhfkijmebhgmaaGreatQ07
import Derived.Test.YtfhfkijmebhgmaaGreatQ08
import Derived.Test.YtfhfkijmebhgmaaGreatQ11
import Derived.Test.YtfhfkijmebhgmaaGreatQ14
import Derived.Test.YtfhfkijmebhgmaaGreatQ06
import Derived.Test.YtfhfkijmebhgmaaGreatQ05
namespace Wh
open Go Go.RowKit Go.Shelf Go.Proofs
attribute [local go_sem] run_indexAt_letter

set_option maxHeartbeats 2000000 in
theorem sLeft (w : World) (v : Value) (p : Plan) (s : State) (b g : Int) (hv : StateV w w.heap.size v s) (hs : Sane p s) (hb : 0 ≤ b ∧ b < p.bins.length) (hg : 0 ≤ g ∧ g < p.sizes.length) :
    Calls Tryz.prog 80 #[v, .int .i64 b, .int .i64 g] w fun e w' => e = .returned (.int .i64 (avail s b g)) ∧ Below w.heap.size w w' := by
  have hb1 : 0 ≤ b := hb.1
  have hb2 : b < (s.on.length : Int) := by rw [hs.onLen]; exact hb.2
  have hg1 : 0 ≤ g := hg.1
  have hbl : b.toNat < s.on.length := by omega
  have hgl : g.toNat < (rowAt s.on b.toNat).length := by rw [hs.rowLen (by omega)]; omega
  have hg2 : g < ((rowAt s.on b.toNat).length : Int) := by omega
  have hcr := hs.cell (b := b.toNat) (g := g.toNat) (by omega) (by omega)
  have hbr := bound_range hs b g
  have hsH := Lib.hid hs
  clear hs hb hg
  obtain ⟨A0, c0, A1, c1, A2, c2, A3, c3, A4, c4, A5, c5, A6, c6, rfl, hV, hN, hO, hH, hM, hI, hU, hX, hl0, hl1, hl2, hl3, hl4, hl5, hl6⟩ := openOne hv
  go_enter Tryz.func80, Tryz.ntmps80
  go_wp2_with fail
  obtain ⟨W0, hW0, hb0, hsz0, hsz1, hsE, hK⟩ := boxesOne w s A0 c0 A1 c1 A2 c2 A3 c3 A4 c4 A5 c5 A6 c6
  rw [hW0]
  clear hW0
  obtain ⟨Ar, cr, or0, lr0, rr0, hrow⟩ := (hN.out W0 hb0).row hbl
  obtain ⟨or1, lr1, rr1⟩ := hrow.at_.int hgl
  have hcl : intAt (rowAt s.on b.toNat) g.toNat = cell s.on b.toNat g.toNat := rfl
  rw [hcl] at rr1
  clear hcl
  obtain ⟨_, x0, x1, x2, x3, x4, x5, x6, _⟩ := hK.out W0 (Below.refl _ _)
  have q1 := fun o d os => cells_wld (w := W0) (b := w.heap.size) hsz0 o d os
  have q2 := fun o d os => cells_wld (w := W0) (b := ablk A0) lr0 o d os
  have q3 := fun o d os => cells_wld (w := W0) (b := ablk Ar) lr1 o d os
  have hV2 := Lib.hid (fun d os => hV.out _ (hb0.trans ((below_wld W0 d os).mono hb0.size)))
  have hw1 : IntKind.i64.wrap (cell s.on b.toNat g.toNat - bound s b g) = cell s.on b.toNat g.toNat - bound s b g := IntWalk.i64_in _ (by omega)
  go_wp2_with fail
  refine wp_region_wld (by kernel_rfl) (by kernel_rfl) ?_
  repeat (go_big_quiet_step ((go_at_call 62; refine calls_wld (sBound _ _ p s _ _ (hV2.out _ _) hsH.out))))
  refine wpQuiet_nil ?_
  intro W2 hw'
  have hb2 := below_of_cls hw'
  clear hw'
  go_wp2_with fail
  go_ret
  exact ⟨ret_int rfl, hb0.trans (hb2.mono hb0.size)⟩
set_option maxHeartbeats 2000000 in
theorem rAvailOf (w : World) (v : Value) (p : Plan) (s : State) (b g : Int) (hv : StateV w w.heap.size v s) (hs : Sane p s) (hb : 0 ≤ b ∧ b < p.bins.length) (hg : 0 ≤ g ∧ g < p.sizes.length) :
    Calls Tryz.prog 109 #[v, .int .i64 b, .int .i64 g] w fun e w' => e = .returned (.int .i64 (avail s b g)) ∧ Below w.heap.size w w' := by
  have hb1 : 0 ≤ b := hb.1
  have hb2 : b < (s.on.length : Int) := by rw [hs.onLen]; exact hb.2
  have hg1 : 0 ≤ g := hg.1
  have hbl : b.toNat < s.on.length := by omega
  have hgl : g.toNat < (rowAt s.on b.toNat).length := by rw [hs.rowLen (by omega)]; omega
  have hg2 : g < ((rowAt s.on b.toNat).length : Int) := by omega
  have hcr := hs.cell (b := b.toNat) (g := g.toNat) (by omega) (by omega)
  have hbr := bound_range hs b g
  have hsH := Lib.hid hs
  clear hs hb hg
  obtain ⟨A0, c0, A1, c1, A2, c2, A3, c3, A4, c4, A5, c5, A6, c6, rfl, hV, hN, hO, hH, hM, hI, hU, hX, hl0, hl1, hl2, hl3, hl4, hl5, hl6⟩ := openOne hv
  go_enter Tryz.func109, Tryz.ntmps109
  go_wp2_with fail
  obtain ⟨W0, hW0, hb0, hsz0, hsz1, hsE, hK⟩ := boxesOne w s A0 c0 A1 c1 A2 c2 A3 c3 A4 c4 A5 c5 A6 c6
  rw [hW0]
  clear hW0
  obtain ⟨Ar, cr, or0, lr0, rr0, hrow⟩ := (hN.out W0 hb0).row hbl
  obtain ⟨or1, lr1, rr1⟩ := hrow.at_.int hgl
  have hcl : intAt (rowAt s.on b.toNat) g.toNat = cell s.on b.toNat g.toNat := rfl
  rw [hcl] at rr1
  clear hcl
  obtain ⟨_, x0, x1, x2, x3, x4, x5, x6, _⟩ := hK.out W0 (Below.refl _ _)
  have q1 := fun o d os => cells_wld (w := W0) (b := w.heap.size) hsz0 o d os
  have q2 := fun o d os => cells_wld (w := W0) (b := ablk A0) lr0 o d os
  have q3 := fun o d os => cells_wld (w := W0) (b := ablk Ar) lr1 o d os
  have hV2 := Lib.hid (fun d os => hV.out _ (hb0.trans ((below_wld W0 d os).mono hb0.size)))
  have hw1 : IntKind.i64.wrap (cell s.on b.toNat g.toNat - bound s b g) = cell s.on b.toNat g.toNat - bound s b g := IntWalk.i64_in _ (by omega)
  go_wp2_with fail
  refine wp_region_wld (by kernel_rfl) (by kernel_rfl) ?_
  repeat (go_big_quiet_step ((go_at_call 70; refine calls_wld (rBound _ _ p s _ _ (hV2.out _ _) hsH.out))))
  refine wpQuiet_nil ?_
  intro W2 hw'
  have hb2 := below_of_cls hw'
  clear hw'
  go_wp2_with fail
  go_ret
  exact ⟨ret_int rfl, hb0.trans (hb2.mono hb0.size)⟩

end Wh
namespace Wh
open Go Go.RowKit Go.Shelf Go.Proofs
attribute [local go_sem] run_indexAt_letter evL_tmp evL_const evL_func

def nilSV : SV := ⟨nilV, nilV, nilV, nilV, nilV, nilV, nilV, [], []⟩
theorem OwnSt.zero (w : World) (base : Nat) : OwnSt w base nilSV dState :=
  ⟨Own.nil, rfl, (fun b h => by cases h), Own.nil, rfl, (fun o h => by cases h), Own.nil, Own.nil, Own.nil, Own.nil, Own.nil, by unfold apartL nilSV; simp [nilV, Value.ownBlock], List.Pairwise.nil⟩
theorem newBox (W : World) : BoxAt (W.alloc (.cells #[.slice none 0 0, .slice none 0 0, .slice none 0 0, .slice none 0 0, .slice none 0 0, .slice none 0 0, .slice none 0 0] 31)) W.heap.size nilSV := Blk.new _ _ _
theorem newBelow {W w3 : World} {o : Obj} (hg : (W.alloc o).grownBy w3 (some W.heap.size)) : Below W.heap.size W w3 := ((Below.refl _ _).alloc (Nat.le_refl _) _).grown hg (by simp) (fun k hk => by injection hk with hk; omega)
theorem OwnSt.one {w : World} {base : Nat} {V : SV} {s : State} (h : OwnSt w base V s) : V.cells.all (fun u => u.oneCell') = true := by
  simp [SV.cells, own_one h.on, own_one h.orders, own_one h.holds, own_one h.moves, own_one h.inn, own_one h.out, own_one h.fixed]
/-- The sums of a state that begins. -/
theorem OwnSt.begun {w : World} {base : Nat} {vi vu vx : Value} {z : List Int} (h1 : Own cInt 1 3 w base vi z) (h2 : Own cInt 1 3 w base vu z) (h3 : Own cInt 1 3 w base vx z)
    (h12 : ∀ g, vi.ownBlock = some g → vu.ownBlock ≠ some g) (h13 : ∀ g, vi.ownBlock = some g → vx.ownBlock ≠ some g) (h23 : ∀ g, vu.ownBlock = some g → vx.ownBlock ≠ some g) :
    OwnSt w base ⟨nilV, nilV, nilV, nilV, vi, vu, vx, [], []⟩ ⟨[], [], [], [], z, z, z⟩ :=
  ⟨Own.nil, rfl, (fun b h => by cases h), Own.nil, rfl, (fun o h => by cases h), Own.nil, Own.nil, h1, h2, h3, by
    unfold apartL
    refine List.pairwise_cons.2 ⟨fun b hb => ?_, List.pairwise_cons.2 ⟨fun b hb => ?_, List.pairwise_singleton _ _⟩⟩
    · simp only [List.mem_cons, List.not_mem_nil, or_false] at hb
      rcases hb with rfl | rfl
      · exact h12
      · exact h13
    · obtain rfl := List.mem_singleton.1 hb
      exact h23, List.Pairwise.nil⟩

/-- What BeginOf has made by now. -/
structure RB (w : World) (base : Nat) (V : SV) (z : List Int) (k : Nat) : Prop where
  on : Own (fun u : Value => [u]) 1 23 w base V.on V.rows
  rlen : V.rows.length = k
  row : ∀ b, b < k → Own cInt 1 3 w base (V.row b) z
  inn : Own cInt 1 3 w base V.inn z
  out : Own cInt 1 3 w base V.out z
  fixed : Own cInt 1 3 w base V.fixed z
  none1 : V.orders = nilV
  none2 : V.holds = nilV
  none3 : V.moves = nilV
namespace RB
variable {w w' : World} {base : Nat} {V : SV} {z : List Int} {k : Nat}
theorem below (h : RB w base V z k) (hb : Below w.heap.size w w') : RB w' base V z k :=
  ⟨h.on.below hb, h.rlen, fun b hk => (h.row b hk).below hb, h.inn.below hb, h.out.below hb, h.fixed.below hb, h.none1, h.none2, h.none3⟩
theorem keptBy (h : RB w base V z k) {b : Nat} {t : TypeId} {cur : List Value} (hg : w.grownBy w' (some b)) (hb : Blk w b t cur) (h1 : 23 ≠ t) (h2 : 3 ≠ t) : RB w' base V z k :=
  ⟨h.on.kept hg (h.on.notBox hb h1), h.rlen, fun b hk => (h.row b hk).kept hg ((h.row b hk).notBox hb h2), h.inn.kept hg (h.inn.notBox hb h2), h.out.kept hg (h.out.notBox hb h2), h.fixed.kept hg (h.fixed.notBox hb h2), h.none1, h.none2, h.none3⟩
theorem from_ (h : RB w base V z k) {base' : Nat} (hb : base' ≤ base) : RB w base' V z k :=
  ⟨h.on.from_ hb, h.rlen, fun b hk => (h.row b hk).from_ hb, h.inn.from_ hb, h.out.from_ hb, h.fixed.from_ hb, h.none1, h.none2, h.none3⟩
theorem one (h : RB w base V z k) : V.cells.all (fun u => u.oneCell') = true := by
  simp [SV.cells, own_one h.on, own_one h.inn, own_one h.out, own_one h.fixed, h.none1, h.none2, h.none3, show nilV.oneCell' = true from rfl]
theorem push (h : RB w base V z k) {u v' : Value} (hu : Own cInt 1 3 w base u z) (hg : w.grownBy w' V.on.ownBlock) (hv : Own (fun u : Value => [u]) 1 23 w' base v' (V.rows ++ [u])) : RB w' base { V with on := v', rows := V.rows ++ [u] } z (k + 1) := by
  refine ⟨hv, by simp [h.rlen], fun b hb => ?_, h.inn.kept hg (h.inn.apart h.on (by decide)), h.out.kept hg (h.out.apart h.on (by decide)), h.fixed.kept hg (h.fixed.apart h.on (by decide)), h.none1, h.none2, h.none3⟩
  by_cases hlt : b < k
  · have e1 : SV.row { V with on := v', rows := V.rows ++ [u] } b = V.row b := by
      unfold SV.row
      simp [List.getD_eq_getElem?_getD, List.getElem?_append_left (show b < V.rows.length by rw [h.rlen]; exact hlt)]
    rw [e1]
    exact (h.row b hlt).kept hg ((h.row b hlt).apart h.on (by decide))
  · have hb2 : b = k := by omega
    have e1 : SV.row { V with on := v', rows := V.rows ++ [u] } b = u := by
      unfold SV.row
      rw [hb2, ← h.rlen]
      simp
    rw [e1]
    exact hu.kept hg (hu.apart h.on (by decide))
theorem view {p : Plan} (h : RB w base V (List.replicate p.sizes.length 0) p.bins.length) (hc : p.bins.length ≤ 1000) (hc2 : p.sizes.length ≤ 1000) : StateV w w.heap.size V.val (begin p) := by
  obtain ⟨A, c, e, _, hA⟩ := h.on.sl (by rw [h.rlen]; omega)
  have hrl := h.rlen
  refine ⟨_, _, _, _, _, _, _, rfl, ⟨A, c, V.rows, by rw [e, hrl]; simp [begin], by simp [begin]; omega, by simp [begin, hrl], ?_, fun i x hi => ?_⟩, ?_, ?_, ?_, h.inn.sl (by simp; omega), h.out.sl (by simp; omega), h.fixed.sl (by simp; omega)⟩
  · have : V.rows.flatMap (fun u => [u]) = V.rows := by simp
    rw [this] at hA
    exact hA
  · have hi' : (List.replicate p.bins.length (List.replicate p.sizes.length (0 : Int)))[i]? = some x := hi
    rw [List.getElem?_replicate] at hi'
    by_cases hlt : i < p.bins.length
    · rw [if_pos hlt] at hi'
      injection hi' with hi'
      subst hi'
      refine ⟨V.row i, ?_, (h.row i hlt).sl (by simp; omega)⟩
      unfold SV.row
      simp [show i < V.rows.length by omega]
    · rw [if_neg hlt] at hi'
      cases hi'
  · rw [h.none1]; exact ⟨none, 0, [], rfl, by simp [begin], rfl, At.nil, fun i x h => by simp [begin] at h⟩
  · rw [h.none2]; exact Sl.nil
  · rw [h.none3]; exact Sl.nil
end RB

end Wh
namespace Wh
open Go Go.RowKit Go.Proofs

section
variable {α : Type} {enc : α → List Value} {size : Nat} {e : TypeId} {w : World} {base : Nat} {v : Value} {l : List α}
theorem Own.at (h : Own enc size e w base v l) (hk : ∀ x, (enc x).length = size) {i : Nat} (hi : i < l.length) :
    ∃ g c cur, v = .slice (some ⟨g, 0, none⟩) l.length c ∧ base ≤ g ∧ Blk w g e cur ∧ ∀ j u, (enc l[i])[j]? = some u → w.cell? ⟨g, i * size + j, none⟩ = some u := by
  obtain ⟨g, c, cur, h1, h2, h3, h4, h5, h6, h7⟩ := h.row (by omega)
  refine ⟨g, c, cur, h1, h2, h3, fun j u hj => h3.cell ?_⟩
  have hjs : j < size := by
    have := (List.getElem?_eq_some_iff.1 hj).1
    rwa [hk] at this
  have hf := flat_get enc size hk l i j l[i] (by simp [hi]) hjs
  rw [← h7] at hf
  rw [← hj, ← hf, List.getElem?_take]
  rw [if_pos]
  calc i * size + j < i * size + size := by omega
    _ = (i + 1) * size := by rw [Nat.add_mul]; omega
    _ ≤ l.length * size := Nat.mul_le_mul_right _ (by omega)
end

theorem Blk.ne {w : World} {g g' : Nat} {e e' : TypeId} {cur cur' : List Value} (h : Blk w g e cur) (h' : Blk w g' e' cur') (hne : e ≠ e') : g ≠ g' := by
  rintro rfl
  unfold Blk at h h'
  rw [h] at h'
  injection h' with h'
  injection h' with _ h3
  exact hne h3
/-- A store into a block of another type leaves a state's box. -/
theorem BoxAt.off {w w' : World} {b g : Nat} {V : SV} {e : TypeId} {cur : List Value} (h : BoxAt w b V) (hg : w.grownBy w' (some g)) (hb : Blk w g e cur) (hne : e ≠ 31) : BoxAt w' b V :=
  h.grown hg (by intro he; injection he with he; exact hb.ne h.blk hne he.symm)
namespace OwnSt
variable {w w' : World} {base : Nat} {V : SV} {s : State}
/-- The cells of a hold. -/
theorem holdAt (h : OwnSt w base V s) {k : Nat} (hk : k < s.holds.length) : ∃ g c cur, V.holds = .slice (some ⟨g, 0, none⟩) s.holds.length c ∧ base ≤ g ∧ Blk w g 46 cur ∧
    w.cell? ⟨g, k * 4, none⟩ = some (.int .i64 (hold s.holds k).order) ∧ w.cell? ⟨g, k * 4 + 1, none⟩ = some (.int .i64 (hold s.holds k).line) ∧ w.cell? ⟨g, k * 4 + 2, none⟩ = some (.int .i64 (hold s.holds k).bin) ∧ w.cell? ⟨g, k * 4 + 3, none⟩ = some (.int .i64 (hold s.holds k).n) := by
  obtain ⟨g, c, cur, h1, h2, h3, h4⟩ := h.holds.at (fun _ => rfl) hk
  have e : s.holds[k] = hold s.holds k := by simp [hold, hk]
  rw [e] at h4
  exact ⟨g, c, cur, h1, h2, h3, h4 0 _ rfl, h4 1 _ rfl, h4 2 _ rfl, h4 3 _ rfl⟩
/-- The cells of a move. -/
theorem moveAt (h : OwnSt w base V s) {k : Nat} (hk : k < s.moves.length) : ∃ g c cur, V.moves = .slice (some ⟨g, 0, none⟩) s.moves.length c ∧ base ≤ g ∧ Blk w g 48 cur ∧
    w.cell? ⟨g, k * 4, none⟩ = some (.int .i64 (Wh.moveAt s.moves k).good) ∧ w.cell? ⟨g, k * 4 + 1, none⟩ = some (.int .i64 (Wh.moveAt s.moves k).src) ∧ w.cell? ⟨g, k * 4 + 2, none⟩ = some (.int .i64 (Wh.moveAt s.moves k).dst) ∧ w.cell? ⟨g, k * 4 + 3, none⟩ = some (.int .i64 (Wh.moveAt s.moves k).n) := by
  obtain ⟨g, c, cur, h1, h2, h3, h4⟩ := h.moves.at (fun _ => rfl) hk
  have e : s.moves[k] = Wh.moveAt s.moves k := by simp [Wh.moveAt, hk]
  rw [e] at h4
  exact ⟨g, c, cur, h1, h2, h3, h4 0 _ rfl, h4 1 _ rfl, h4 2 _ rfl, h4 3 _ rfl⟩
/-- The cells of an order. -/
theorem orderAt (h : OwnSt w base V s) {o : Nat} (ho : o < s.orders.length) : ∃ g c cur, V.orders = .slice (some ⟨g, 0, none⟩) s.orders.length c ∧ base ≤ g ∧ Blk w g 42 cur ∧
    w.cell? ⟨g, o * 2, none⟩ = some (.int .i64 (s.order o).kind) ∧ w.cell? ⟨g, o * 2 + 1, none⟩ = some (V.line o) := by
  have hol : o < (ords s.orders V.lines).length := by rw [ords_length h.llen]; exact ho
  obtain ⟨g, c, cur, h1, h2, h3, h4⟩ := h.orders.at (fun _ => rfl) hol
  have e : (ords s.orders V.lines)[o] = ((s.order o).kind, V.line o) := by
    have := ords_get h.llen ho
    rw [List.getElem?_eq_getElem hol] at this
    exact Option.some.inj this
  rw [e] at h4
  rw [ords_length h.llen] at h1
  exact ⟨g, c, cur, h1, h2, h3, h4 0 _ rfl, h4 1 _ rfl⟩
/-- The cells of a line. -/
theorem lineAt (h : OwnSt w base V s) {o k : Nat} (ho : o < s.orders.length) (hk : k < (s.order o).lines.length) : ∃ g c cur, V.line o = .slice (some ⟨g, 0, none⟩) (s.order o).lines.length c ∧ base ≤ g ∧ Blk w g 44 cur ∧
    w.cell? ⟨g, k * 4, none⟩ = some (.int .i64 (s.line o k).good) ∧ w.cell? ⟨g, k * 4 + 1, none⟩ = some (.int .i64 (s.line o k).want) ∧ w.cell? ⟨g, k * 4 + 2, none⟩ = some (.int .i64 (s.line o k).got) ∧ w.cell? ⟨g, k * 4 + 3, none⟩ = some (.int .i64 (s.line o k).back) := by
  obtain ⟨g, c, cur, h1, h2, h3, h4⟩ := (h.line o ho).at (fun _ => rfl) hk
  have e : (s.order o).lines[k] = s.line o k := by unfold State.line; simp [Wh.lineAt, hk]
  rw [e] at h4
  exact ⟨g, c, cur, h1, h2, h3, h4 0 _ rfl, h4 1 _ rfl, h4 2 _ rfl, h4 3 _ rfl⟩
/-- The cells of what lies in a bin. -/
theorem onAt (h : OwnSt w base V s) {b g : Nat} (hb : b < s.on.length) (hg : g < (rowAt s.on b).length) : ∃ go co cur0 gr cr cur, V.on = .slice (some ⟨go, 0, none⟩) s.on.length co ∧ base ≤ go ∧ Blk w go 23 cur0 ∧ w.cell? ⟨go, b, none⟩ = some (.slice (some ⟨gr, 0, none⟩) (rowAt s.on b).length cr) ∧
    V.row b = .slice (some ⟨gr, 0, none⟩) (rowAt s.on b).length cr ∧ base ≤ gr ∧ Blk w gr 3 cur ∧ w.cell? ⟨gr, g, none⟩ = some (.int .i64 (cell s.on b g)) := by
  have hbl : b < V.rows.length := by rw [h.rlen]; exact hb
  obtain ⟨go, co, cur0, h1, h2, h3, h4⟩ := h.on.at (fun _ => rfl) hbl
  obtain ⟨gr, cr, cur, k1, k2, k3, k4⟩ := (h.row b hb).at (fun _ => rfl) hg
  have e : V.rows[b] = V.row b := by unfold SV.row; simp [hbl]
  have h5 := h4 0 (V.row b) (by rw [e]; rfl)
  have e2 : (rowAt s.on b)[g] = cell s.on b g := by unfold cell intAt; simp [hg]
  have k5 := k4 0 (.int .i64 (cell s.on b g)) (by rw [e2]; rfl)
  rw [Nat.mul_one, Nat.add_zero] at h5 k5
  rw [h.rlen] at h1
  rw [k1] at h5
  exact ⟨go, co, cur0, gr, cr, cur, h1, h2, h3, h5, k1, k2, k3, k5⟩
theorem intAtOwn {v : Value} {l : List Int} (h : Own cInt 1 3 w base v l) {g : Nat} (hg : g < l.length) : ∃ gr c cur, v = .slice (some ⟨gr, 0, none⟩) l.length c ∧ base ≤ gr ∧ Blk w gr 3 cur ∧ w.cell? ⟨gr, g, none⟩ = some (.int .i64 (intAt l g)) := by
  obtain ⟨gr, c, cur, k1, k2, k3, k4⟩ := h.at (fun _ => rfl) hg
  have e2 : l[g] = intAt l g := by unfold intAt; simp [hg]
  have k5 := k4 0 (.int .i64 (intAt l g)) (by rw [e2]; rfl)
  rw [Nat.mul_one, Nat.add_zero] at k5
  exact ⟨gr, c, cur, k1, k2, k3, k5⟩
end OwnSt
end Wh
namespace Wh
open Go Go.RowKit
/-- As relB, but operations may wait for a guard. -/
def relG (l : List Oper) (n : Nat) : Bool :=
  (decide (n = l.length) || (decide (n < l.length) && Region.sinkB .any l.toArray n && Region.chainB .any l.toArray n)) && Region.seqB .any l.toArray (l.length - n) n (heads l.length n) &&
  decide ((l.take n).filterMap (·.dst)).Nodup && (List.range n).all fun i => ((l[i]?).map fun o => o.after.all fun e => !Region.binds .any e || decide (e.on < i)).getD true
section
variable {P : Program} {l : List Oper} {n : Nat} {R : Nat → (Nat → Value) → World → Prop} {Q : Exit → Act → World → Prop} {a : Act} {w : World}
/-- What is to be shown of one operation: it is carried out, or its guard says no. -/
def StepG (P : Program) (l : List Oper) (n : Nat) (R : Nat → (Nat → Value) → World → Prop) (Q : Exit → Act → World → Prop) (a : Act) (w : World) (i : Nat) (o : Oper) : Prop :=
  ∀ f w', Below w.heap.size w w' → Deps n R f w' o →
    (Region.wanted o (yielded l.toArray (fillA a (l.take n) f).tmps) = true ∧ o.wp P (fillA a (l.take n) f) w' (fun a' w'' => ∃ v, a' = (fillA a (l.take n) f).put o.dst v ∧ R i (updO f o.dst v) w'' ∧ Below w'.heap.size w' w'') Q) ∨
    (Region.wanted o (yielded l.toArray (fillA a (l.take n) f).tmps) = false ∧ R i (updO f o.dst undef) w')
def GuardIs (l : List Oper) (o : Oper) (g : Nat → Value) : Prop := match o.guard with | none => True | some (k, b) => ∃ d, (l[k]?.bind (·.dst)) = some d ∧ g d = .bool b
def GuardNo (l : List Oper) (o : Oper) (g : Nat → Value) : Prop := match o.guard with | none => False | some (k, b) => ∃ d, (l[k]?.bind (·.dst)) = some d ∧ g d = .bool (!b)
theorem getD_bool {t : Array Value} {d : Nat} {b : Bool} (h : t.getD d undef = .bool b) : t[d]? = some (.bool b) := by
  rw [Array.getD_eq_getD_getElem?] at h
  cases hc : t[d]? with
  | none => rw [hc] at h; simp [undef] at h
  | some v => rw [hc] at h; simp at h; rw [h]
theorem GuardIs.wanted {l : List Oper} {o : Oper} {t : Array Value} (h : GuardIs l o (fun d => t.getD d undef)) : Region.wanted o (yielded l.toArray t) = true := by
  unfold GuardIs at h
  unfold Region.wanted
  cases hg : o.guard with
  | none => rfl
  | some p =>
    obtain ⟨k, b⟩ := p
    rw [hg] at h
    obtain ⟨d, h1, h2⟩ := h
    have h3 := getD_bool h2
    simp [yielded, h1, h3]
theorem GuardNo.wanted {l : List Oper} {o : Oper} {t : Array Value} (h : GuardNo l o (fun d => t.getD d undef)) : Region.wanted o (yielded l.toArray t) = false := by
  unfold GuardNo at h
  unfold Region.wanted
  cases hg : o.guard with
  | none => rw [hg] at h; exact h.elim
  | some p =>
    obtain ⟨k, b⟩ := p
    rw [hg] at h
    obtain ⟨d, h1, h2⟩ := h
    have h3 := getD_bool h2
    simp [yielded, h1, h3]
theorem StepG.of {i : Nat} {o : Oper} (_hin : l[i]? = some o) (hi : i < n) (hB : relG l n = true) (hsz : ((l.take n).filterMap (·.dst)).all (fun d => decide (d < a.tmps.size)) = true)
    (hsup : ∀ i g g' w, (∀ j o d, Anc l j i → l[j]? = some o → o.dst = some d → g d = g' d) → R i g w → R i g' w)
    (h : ∀ (g : Nat → Value) w', Below w.heap.size w w' → (∀ d, ((l.take n).filterMap (·.dst)).contains d = false → g d = a.tmps.getD d undef) → Deps n R g w' o → (GuardIs l o g ∧ OpRel P o (evL g) w' fun v w'' => R i (updO g o.dst v) w'' ∧ Below w'.heap.size w' w'') ∨ (GuardNo l o g ∧ R i (updO g o.dst undef) w')) :
    StepG P l n R Q a w i o := by
  simp only [relG, Bool.and_eq_true, Bool.or_eq_true, decide_eq_true_eq, List.all_eq_true] at hB
  obtain ⟨_, hback⟩ := hB
  have hback' : ∀ k oe, k < n → l[k]? = some oe → ∀ e ∈ oe.after, Region.binds .any e = true → e.on < k := fun k oe hk hoe e he hbd => by
    have := hback k (List.mem_range.2 hk)
    rw [hoe] at this
    simp only [Option.map_some, Option.getD_some, Array.all_eq_true_iff_forall_mem, Bool.or_eq_true, Bool.not_eq_true', decide_eq_true_eq] at this
    rcases this e he with h | h
    · rw [h] at hbd; cases hbd
    · exact h
  have hanc : ∀ j k, Anc l j k → k < n → j < n := by
    intro j k h
    induction h with
    | self => exact id
    | back ho he hbd hon _ ih =>
      intro h1
      subst hon
      have := hback' _ _ h1 ho _ he hbd
      exact ih (by omega)
  have hsz' : ∀ d ∈ (l.take n).filterMap (·.dst), d < a.tmps.size := fun d hd => by
    have := List.all_eq_true.1 hsz d hd
    simpa using this
  intro f w' hb hd
  have hg : ∀ d ∈ (l.take n).filterMap (·.dst), (fillA a (l.take n) f).tmps.getD d undef = f d := fun d hd => by
    have h1 := fillT_get ((l.take n).filterMap (·.dst)) f a.tmps d
    rw [if_pos (hsz' d hd), if_pos hd] at h1
    unfold fillA
    simp only [Array.getD_eq_getD_getElem?, h1, Option.getD_some]
  have ho : ∀ d, ((l.take n).filterMap (·.dst)).contains d = false → (fillA a (l.take n) f).tmps.getD d undef = a.tmps.getD d undef := fun d hd => by
    have h1 := fillT_get ((l.take n).filterMap (·.dst)) f a.tmps d
    have h2 : d ∉ (l.take n).filterMap (·.dst) := by simpa using hd
    rw [if_neg h2] at h1
    unfold fillA
    simp only [Array.getD_eq_getD_getElem?, h1]
    by_cases hl : d < a.tmps.size
    · rw [if_pos hl]
    · rw [if_neg hl, Array.getElem?_eq_none (Nat.le_of_not_lt hl)]
  have key := h (fun d => (fillA a (l.take n) f).tmps.getD d undef) w' hb ho (fun e he hbd hen => hsup e.on f _ _ (fun j oj d haj hoj hdj => (hg d (dst_mem hoj (hanc _ _ haj hen) hdj)).symm) (hd e he hbd hen))
  have hback2 : ∀ v w'', R i (updO (fun d => (fillA a (l.take n) f).tmps.getD d undef) o.dst v) w'' → R i (updO f o.dst v) w'' := fun v w'' hr => by
    refine hsup i _ _ _ (fun j oj d haj hoj hdj => ?_) hr
    have hjn := hanc _ _ haj hi
    have hmem := dst_mem hoj hjn hdj
    cases hdst : o.dst with
    | none => exact hg d hmem
    | some d0 =>
      unfold updO upd
      simp only
      split
      · rfl
      · exact hg d hmem
  rcases key with ⟨hw, key⟩ | ⟨hw, key⟩
  · rw [← evL_eval] at key
    refine .inl ⟨hw.wanted, Oper.wp_mono ?_ key.wp⟩
    rintro a' w'' ⟨v, rfl, hr, hbw⟩
    exact ⟨v, rfl, hback2 v w'' hr, hbw⟩
  · exact .inr ⟨hw.wanted, hback2 undef w' key⟩


/-- One operation: what it says stays, hangs on what came before it alone, and comes; or its guard says no. -/
def OpG (P : Program) (l : List Oper) (n : Nat) (Rs : List RelP) (a : Act) (w : World) (i : Nat) (o : Oper) (p : RelP) : Prop :=
  (∀ g w1 w2, p g w1 → Below w1.heap.size w1 w2 → p g w2) ∧ (∀ g g' w, (∀ j o d, Anc l j i → l[j]? = some o → o.dst = some d → g d = g' d) → p g w → p g' w) ∧
  ∀ g w', Below w.heap.size w w' → (∀ d, ((l.take n).filterMap (·.dst)).contains d = false → g d = a.tmps.getD d undef) → Deps n (atR Rs) g w' o →
    (GuardIs l o g ∧ OpRel P o (evL g) w' fun v w'' => p (updO g o.dst v) w'' ∧ Below w'.heap.size w' w'') ∨ (GuardNo l o g ∧ p (updO g o.dst undef) w')
def OpsG (P : Program) (l : List Oper) (n : Nat) (Rs : List RelP) (a : Act) (w : World) : Nat → List Oper → List RelP → Prop
  | _, [], _ => True
  | _, _ :: _, [] => False
  | i, o :: r, p :: ps => OpG P l n Rs a w i o p ∧ OpsG P l n Rs a w (i + 1) r ps
theorem OpsG.at {Rs : List RelP} : ∀ {r : List Oper} {ps : List RelP} {k : Nat}, OpsG P l n Rs a w k r ps → ∀ {j : Nat} {o : Oper}, r[j]? = some o → OpG P l n Rs a w (k + j) o (ps.getD j (fun _ _ => True))
  | [], _, _, _, _, _, h => by simp at h
  | _ :: _, [], _, h, _, _, _ => h.elim
  | x :: r, p :: ps, k, h, 0, o, hj => by
    simp at hj
    subst hj
    exact h.1
  | x :: r, p :: ps, k, h, j + 1, o, hj => by
    have := OpsG.at h.2 (j := j) (o := o) (by simpa using hj)
    rw [show k + 1 + j = k + (j + 1) by omega] at this
    simpa using this
theorem OpsG.nil {Rs : List RelP} {i : Nat} {ps : List RelP} : OpsG P l n Rs a w i [] ps := by cases ps <;> trivial
theorem OpsG.cons {Rs : List RelP} {i : Nat} {o : Oper} {r : List Oper} {p : RelP} {ps : List RelP} (h : OpG P l n Rs a w i o p) (h' : OpsG P l n Rs a w (i + 1) r ps) : OpsG P l n Rs a w i (o :: r) (p :: ps) := ⟨h, h'⟩
/-- An operation whose value is known. -/
theorem OpG.val {Rs : List RelP} {i d : Nat} {o : Oper} {c : Value} (hi : l[i]? = some o) (ho : o.dst = some d)
    (hgd : ∀ g w', (∀ d, ((l.take n).filterMap (·.dst)).contains d = false → g d = a.tmps.getD d undef) → Deps n (atR Rs) g w' o → GuardIs l o g)
    (h : ∀ g w', Below w.heap.size w w' → (∀ d, ((l.take n).filterMap (·.dst)).contains d = false → g d = a.tmps.getD d undef) → Deps n (atR Rs) g w' o → (execOp (evL g) o).run P w' = .ok (.value c) w') :
    OpG P l n Rs a w i o (fun g _ => g d = c) := by
  refine ⟨fun _ _ _ h _ => h, fun g g' _ he h => (he i o d (Anc.self i) hi ho).symm.trans h, fun g w' hb hout hd => .inl ⟨hgd g w' hout hd, ?_⟩⟩
  unfold OpRel
  rw [h g w' hb hout hd]
  refine ⟨?_, Below.refl _ _⟩
  rw [ho]
  unfold updO upd
  simp
/-- An operation whose guard says no. -/
theorem OpG.skip {Rs : List RelP} {i d : Nat} {o : Oper} (hi : l[i]? = some o) (ho : o.dst = some d)
    (hgd : ∀ g w', (∀ d, ((l.take n).filterMap (·.dst)).contains d = false → g d = a.tmps.getD d undef) → Deps n (atR Rs) g w' o → GuardNo l o g) :
    OpG P l n Rs a w i o (fun g _ => g d = undef) := by
  refine ⟨fun _ _ _ h _ => h, fun g g' _ he h => (he i o d (Anc.self i) hi ho).symm.trans h, fun g w' hb hout hd => .inr ⟨hgd g w' hout hd, ?_⟩⟩
  rw [ho]
  unfold updO upd
  simp
/-- An operation of whose value something is known, by itself. -/
theorem OpG.one {Rs : List RelP} {i d : Nat} {o : Oper} {p : Value → World → Prop} (hi : l[i]? = some o) (ho : o.dst = some d) (hst : ∀ v w1 w2, p v w1 → Below w1.heap.size w1 w2 → p v w2)
    (hgd : ∀ g w', (∀ d, ((l.take n).filterMap (·.dst)).contains d = false → g d = a.tmps.getD d undef) → Deps n (atR Rs) g w' o → GuardIs l o g)
    (h : ∀ g w', Below w.heap.size w w' → (∀ d, ((l.take n).filterMap (·.dst)).contains d = false → g d = a.tmps.getD d undef) → Deps n (atR Rs) g w' o → OpRel P o (evL g) w' fun v w'' => p v w'' ∧ Below w'.heap.size w' w'') :
    OpG P l n Rs a w i o (fun g w => p (g d) w) := by
  refine ⟨fun g w1 w2 h hb => hst _ _ _ h hb, fun g g' w1 he h => ?_, fun g w' hb hout hd => .inl ⟨hgd g w' hout hd, ?_⟩⟩
  · show p (g' d) w1
    rw [← he i o d (Anc.self i) hi ho]
    exact h
  · have := h g w' hb hout hd
    rw [ho]
    have e : ∀ v, updO g (some d) v d = v := fun v => by unfold updO upd; simp
    simpa only [e] using this
end
end Wh
namespace Wh
open Go Go.RowKit Go.Shelf Go.Proofs

def ActPost (r : State × Int) (w : World) (e : Ending) (w' : World) : Prop := ∃ V, e = .returned (.tuple #[V.val, .int .i64 r.2]) ∧ OwnSt w' w.heap.size V r.1 ∧ Below w.heap.size w w'
theorem actErr {r : State × Int} {c : Int} {w w' : World} (h : r = (dState, c)) (hb : Below w.heap.size w w') : ActPost r w (.returned (.tuple #[nilSV.val, .int .i64 c])) w' :=
  ⟨nilSV, by rw [h], by rw [h]; exact OwnSt.zero _ _, hb⟩
theorem actOk {r : State × Int} {s : State} {V : SV} {w w' : World} (h : r = (s, 0)) (ho : OwnSt w' w.heap.size V s) (hb : Below w.heap.size w w') : ActPost r w (.returned (.tuple #[V.val, .int .i64 0])) w' :=
  ⟨V, by rw [h], by rw [h]; exact ho, hb⟩

/-- A number stored into a cell: the world behind it at hand. -/
theorem wpList_store_int {ops : Array Oper} {rest : List Oper} {o : Oper} {a : Act} {w : World} {Q : Exit → Act → World → Prop} (hgd : o.guard = none) (x y : Operand) (ho : o.op = .store 3 x y) (hn : o.dst = none) (b off : Nat) (u : Value) (q : Int)
    (hx : a.eval x = .pointer (some ⟨b, off, none⟩)) (hy : a.eval y = .int .i64 q) (hc : w.cell? ⟨b, off, none⟩ = some u) (hf : w.frozen? ⟨b, off, none⟩ = false)
    (h : ∀ w', w.setCell ⟨b, off, none⟩ (.int .i64 q) = w' → wpList Tryz.prog ops Q rest a w') : wpList Tryz.prog ops Q (o :: rest) a w :=
  wpList_plain hgd fun K hK => by
    unfold Oper.wp
    simp only [execOp, ho, hx, hy]
    go_simp
    exact hK _ _ (h _ rfl)
end Wh
namespace Wh
open Go Go.RowKit Go.Shelf Go.Proofs

/-- What a step leaves: every old block but those of 'ks'. -/
structure Step (ks : Nat → Prop) (w w' : World) : Prop where
  os : w'.os = w.os
  tape : w'.tape = w.tape
  output : w'.output = w.output
  size : w.heap.size ≤ w'.heap.size
  block : ∀ k, k < w.heap.size → ¬ ks k → w'.heap[k]? = w.heap[k]?
namespace Step
variable {ks ks' : Nat → Prop} {a b c w w' : World}
theorem refl (ks : Nat → Prop) (w : World) : Step ks w w := ⟨rfl, rfl, rfl, Nat.le_refl _, fun _ _ _ => rfl⟩
theorem trans' (h : Step ks a b) (h' : Step ks' b c) (hk : ∀ k, k < a.heap.size → ks' k → ks k) : Step ks a c :=
  ⟨h'.os.trans h.os, h'.tape.trans h.tape, h'.output.trans h.output, Nat.le_trans h.size h'.size, fun k hl hn => (h'.block k (Nat.lt_of_lt_of_le hl h.size) (fun hh => hn (hk k hl hh))).trans (h.block k hl hn)⟩
theorem trans (h : Step ks a b) (h' : Step ks b c) : Step ks a c := h.trans' h' fun _ _ h => h
theorem mono (h : Step ks w w') (hk : ∀ k, ks k → ks' k) : Step ks' w w' := ⟨h.os, h.tape, h.output, h.size, fun k hl hn => h.block k hl fun hh => hn (hk k hh)⟩
theorem of_below (h : Below w.heap.size w w') : Step ks w w' := ⟨h.os, h.tape, h.output, h.size, fun k hl _ => h.block k hl⟩
theorem of_grown {row : Option Nat} (h : w.grownBy w' row) (hk : ∀ k, row = some k → ks k) : Step ks w w' :=
  ⟨h.os, h.tape, h.output, h.size, fun k hl hn => h.block k hl (fun he => hn (hk k he.symm))⟩
theorem below {B : Nat} (h : Step ks w w') (hk : ∀ k, ks k → B ≤ k) (hB : B ≤ w.heap.size) : Below B w w' :=
  ⟨h.os, h.tape, h.output, h.size, fun k hl => h.block k (Nat.lt_of_lt_of_le hl hB) fun hh => Nat.not_le_of_lt hl (hk k hh)⟩
theorem blk {g : Nat} {e : TypeId} {cur : List Value} (h : Step ks w w') (hb : Blk w g e cur) (hn : ¬ ks g) : Blk w' g e cur := (h.block g hb.lt hn).trans hb
theorem heap {g : Nat} {o : Obj} (h : Step ks w w') (hb : w.heap[g]? = some o) (hn : ¬ ks g) : w'.heap[g]? = some o := (h.block g (Array.getElem?_eq_some_iff.1 hb).1 hn).trans hb
end Step
theorem Own.step {α : Type} {enc : α → List Value} {size : Nat} {e : TypeId} {w w' : World} {base : Nat} {v : Value} {l : List α} {ks : Nat → Prop} (h : Own enc size e w base v l) (hs : Step ks w w') (hk : ∀ k, v.ownBlock = some k → ¬ ks k) : Own enc size e w' base v l := by
  refine ⟨h.1, ?_⟩
  rcases h.2 with hn | ⟨g, cap, cur, rfl, hbg, hg, rest⟩
  · exact .inl hn
  · exact .inr ⟨g, cap, cur, rfl, hbg, by rw [hs.block g (Array.getElem?_eq_some_iff.1 hg).1 (hk g rfl)]; exact hg, rest⟩

/-- No element's type of a state. -/
structure BoxT (t : TypeId) : Prop where
  h1 : 23 ≠ t
  h2 : 3 ≠ t
  h3 : 42 ≠ t
  h4 : 44 ≠ t
  h5 : 46 ≠ t
  h6 : 48 ≠ t
theorem boxT : BoxT 31 := ⟨by decide, by decide, by decide, by decide, by decide, by decide⟩

/-- A state of the call's own that leads the block b, whose type is t; 'rest': the block's other cells. -/
structure Bx (w : World) (base b : Nat) (t : TypeId) (rest : List Value) (V : SV) (s : State) : Prop where
  box : Blk w b t (V.cells ++ rest)
  own : OwnSt w base V s
  ty : BoxT t
namespace Bx
variable {w w' : World} {base b : Nat} {t : TypeId} {rest : List Value} {V : SV} {s : State} {ks : Nat → Prop}
theorem of (h : BoxAt w b V) (ho : OwnSt w base V s) : Bx w base b 31 [] V s := ⟨by rw [List.append_nil]; exact h, ho, boxT⟩
theorem boxAt (h : Bx w base b 31 [] V s) : BoxAt w b V := by have := h.box; rwa [List.append_nil] at this
theorem lt (h : Bx w base b t rest V s) : b < w.heap.size := h.box.lt
theorem below (h : Bx w base b t rest V s) (hb : Below w.heap.size w w') : Bx w' base b t rest V s := ⟨h.box.below hb h.lt, h.own.below hb, h.ty⟩
theorem drew (h : Bx w base b t rest V s) : Bx w.drew base b t rest V s := ⟨h.box, h.own.drew, h.ty⟩
theorem from_ (h : Bx w base b t rest V s) {base' : Nat} (hb : base' ≤ base) : Bx w base' b t rest V s := ⟨h.box, h.own.from_ hb, h.ty⟩
theorem cells (h : Bx w base b t rest V s) : w.cell? ⟨b, 0, none⟩ = some V.on ∧ w.cell? ⟨b, 1, none⟩ = some V.orders ∧ w.cell? ⟨b, 2, none⟩ = some V.holds ∧ w.cell? ⟨b, 3, none⟩ = some V.moves ∧
    w.cell? ⟨b, 4, none⟩ = some V.inn ∧ w.cell? ⟨b, 5, none⟩ = some V.out ∧ w.cell? ⟨b, 6, none⟩ = some V.fixed :=
  ⟨h.box.cell rfl, h.box.cell rfl, h.box.cell rfl, h.box.cell rfl, h.box.cell rfl, h.box.cell rfl, h.box.cell rfl⟩
theorem frozen (h : Bx w base b t rest V s) (o : Nat) : w.frozen? ⟨b, o, none⟩ = false := h.box.frozen o
theorem setCells (h : Bx w base b t rest V s) (j : Nat) (u : Value) (V' : SV) (hV : V'.cells ++ rest = (V.cells ++ rest).set j u) :
    Blk (w.setCell ⟨b, j, none⟩ u) b t (V'.cells ++ rest) ∧ w.grownBy (w.setCell ⟨b, j, none⟩ u) (some b) ∧ OwnSt (w.setCell ⟨b, j, none⟩ u) base V s := by
  obtain ⟨h1, h2⟩ := set_row h.box j u
  exact ⟨by rw [hV]; exact h1, h2, h.own.keptBy h2 h.box h.ty.h1 h.ty.h2 h.ty.h3 h.ty.h4 h.ty.h5 h.ty.h6⟩
/-- A cell of the block is written, and the state is the other one then. -/
theorem set' {V' : SV} {s' : State} (hb : Blk w b t (V.cells ++ rest)) (ho : OwnSt w base V' s') (hT : BoxT t) (j : Nat) (u : Value) (hV : V'.cells ++ rest = (V.cells ++ rest).set j u) :
    Bx (w.setCell ⟨b, j, none⟩ u) base b t rest V' s' ∧ w.grownBy (w.setCell ⟨b, j, none⟩ u) (some b) := by
  obtain ⟨h1, h2⟩ := set_row hb j u
  exact ⟨⟨by rw [hV]; exact h1, ho.keptBy h2 hb hT.h1 hT.h2 hT.h3 hT.h4 hT.h5 hT.h6, hT⟩, h2⟩
/-- An order more: what append gave is stored. -/
theorem pushOrder {w1 w2 : World} (h : Bx w base b t rest V s) (hb : Below w.heap.size w w1) {u : Value} {x : Order} (hu : Own cLine 4 44 w1 base u x.lines) (hf : ∀ g, u.ownBlock = some g → w.heap.size ≤ g) (hg : w1.grownBy w2 V.orders.ownBlock)
    {v' : Value} (hv : Own cOrd 2 42 w2 base v' (ords s.orders V.lines ++ [(x.kind, u)])) :
    Blk w2 b t (V.cells ++ rest) ∧ OwnSt w2 base { V with orders := v', lines := V.lines ++ [u] } { s with orders := s.orders ++ [x] } := by
  have h1 := h.below hb
  exact ⟨h1.box.grown hg (fun he => by
    rcases h1.own.orders.notBox h1.box h1.ty.h3 with h | h
    · rw [h] at he; cases he
    · exact h he.symm), h.own.pushOrder hb hu hf hg hv⟩
/-- Another slice of holds. -/
theorem setHolds (h : Bx w base b t rest V s) {u : Value} {l : List Hold} (hu : Own cHold 4 46 w base u l) :
    Bx (w.setCell ⟨b, 2, none⟩ u) base b t rest { V with holds := u } { s with holds := l } ∧ w.grownBy (w.setCell ⟨b, 2, none⟩ u) (some b) := by
  obtain ⟨h1, h2, h3⟩ := h.setCells 2 u { V with holds := u } rfl
  exact ⟨⟨h1, ⟨h3.on, h3.rlen, h3.row, h3.orders, h3.llen, h3.line, hu.kept h2 (hu.notBox h.box h.ty.h5), h3.moves, h3.inn, h3.out, h3.fixed, h3.apart, h3.apartl⟩, h.ty⟩, h2⟩
/-- A store that leaves the box. -/
theorem off (h : Bx w base b t rest V s) {g : Nat} {e : TypeId} {cur : List Value} (hb : Blk w g e cur) (hne : e ≠ t) (hg : w.grownBy w' (some g)) : Blk w' b t (V.cells ++ rest) :=
  h.box.grown hg (by intro he; injection he with he; exact hb.ne h.box hne he.symm)
end Bx

theorem line_gl {w : World} {base : Nat} {V : SV} {s : State} (h : OwnSt w base V s) {o k : Nat} (ho : o < s.orders.length) (hk : k < (s.order o).lines.length) {gl n c : Nat} (hv : V.line o = .slice (some ⟨gl, 0, none⟩) n c) : ∃ cur, Blk w gl 44 cur := by
  obtain ⟨g, c', cur, e1, _, e3, _⟩ := h.lineAt ho hk
  rw [hv] at e1
  injection e1 with e1
  injection e1 with e1
  injection e1 with e1
  subst e1
  exact ⟨cur, e3⟩

section
variable {ops : Array Oper} {rest : List Oper} {o : Oper} {a : Act} {w : World} {Q : Exit → Act → World → Prop} {base b : Nat} {t : TypeId} {cs : List Value} {V : SV} {s : State}
theorem wp_st_holds (hgd : o.guard = none) (x y : Operand) (ho : o.op = .store 28 x y) (hn : o.dst = none) (A : Option Addr) (n c : Nat) (l : List Hold) (hB : Bx w base b t cs V s) (hx : a.eval x = .pointer (some ⟨b, 2, none⟩)) (hy : a.eval y = .slice A n c)
    (hu : Own cHold 4 46 w base (.slice A n c) l) (h : ∀ w', Bx w' base b t cs { V with holds := .slice A n c } { s with holds := l } → Step (· = b) w w' → wpList Tryz.prog ops Q rest a w') : wpList Tryz.prog ops Q (o :: rest) a w :=
  wpList_plain hgd fun K hK => by
    obtain ⟨h1, h2⟩ := hB.setHolds hu
    have h3 := h _ h1 (.of_grown h2 fun k hk => by injection hk with hk; exact hk.symm)
    have hc := hB.cells.2.2.1
    have hf := hB.frozen 2
    clear h hB hu h1 h2
    unfold Oper.wp
    simp only [execOp, ho, hx, hy]
    go_simp
    exact hK _ _ h3
theorem four_cells {w : World} {gl o j : Nat} {a b c d : Value} (hj : j < 4) (h0 : w.cell? ⟨gl, o, none⟩ = some a) (h1 : w.cell? ⟨gl, o + 1, none⟩ = some b) (h2 : w.cell? ⟨gl, o + 2, none⟩ = some c) (h3 : w.cell? ⟨gl, o + 3, none⟩ = some d) : ∃ u, w.cell? ⟨gl, o + j, none⟩ = some u := by
  rcases (show j = 0 ∨ j = 1 ∨ j = 2 ∨ j = 3 by omega) with rfl | rfl | rfl | rfl
  · exact ⟨_, h0⟩
  · exact ⟨_, h1⟩
  · exact ⟨_, h2⟩
  · exact ⟨_, h3⟩
/-- A slice stored into the box; the state is the other one then. -/
theorem wp_st_holds' (hgd : o.guard = none) (x y : Operand) (ho : o.op = .store 28 x y) (hn : o.dst = none) (A : Option Addr) (n c : Nat) {V' : SV} {s' : State} (hk : Blk w b t (V.cells ++ cs)) (hO : OwnSt w base V' s') (hT : BoxT t) (hV : V'.cells ++ cs = (V.cells ++ cs).set 2 (.slice A n c))
    (hx : a.eval x = .pointer (some ⟨b, 2, none⟩)) (hy : a.eval y = .slice A n c) (h : ∀ w', Bx w' base b t cs V' s' → Step (· = b) w w' → wpList Tryz.prog ops Q rest a w') : wpList Tryz.prog ops Q (o :: rest) a w :=
  wpList_plain hgd fun K hK => by
    obtain ⟨h1, h2⟩ := Bx.set' hk hO hT 2 (.slice A n c) hV
    have h3 := h _ h1 (.of_grown h2 fun k hk => by injection hk with hk; exact hk.symm)
    have hc : w.cell? ⟨b, 2, none⟩ = some V.holds := hk.cell rfl
    have hf := hk.frozen 2
    clear h hk hO h1 h2 hV
    unfold Oper.wp
    simp only [execOp, ho, hx, hy]
    go_simp
    exact hK _ _ h3
/-- A slice stored into the box; the state is the other one then. -/
theorem wp_st_moves' (hgd : o.guard = none) (x y : Operand) (ho : o.op = .store 29 x y) (hn : o.dst = none) (A : Option Addr) (n c : Nat) {V' : SV} {s' : State} (hk : Blk w b t (V.cells ++ cs)) (hO : OwnSt w base V' s') (hT : BoxT t) (hV : V'.cells ++ cs = (V.cells ++ cs).set 3 (.slice A n c))
    (hx : a.eval x = .pointer (some ⟨b, 3, none⟩)) (hy : a.eval y = .slice A n c) (h : ∀ w', Bx w' base b t cs V' s' → Step (· = b) w w' → wpList Tryz.prog ops Q rest a w') : wpList Tryz.prog ops Q (o :: rest) a w :=
  wpList_plain hgd fun K hK => by
    obtain ⟨h1, h2⟩ := Bx.set' hk hO hT 3 (.slice A n c) hV
    have h3 := h _ h1 (.of_grown h2 fun k hk => by injection hk with hk; exact hk.symm)
    have hc : w.cell? ⟨b, 3, none⟩ = some V.moves := hk.cell rfl
    have hf := hk.frozen 3
    clear h hk hO h1 h2 hV
    unfold Oper.wp
    simp only [execOp, ho, hx, hy]
    go_simp
    exact hK _ _ h3
set_option maxHeartbeats 1000000 in
/-- A number of a line. -/
theorem wp_st_line (hgd : o.guard = none) (x z : Operand) (ho : o.op = .store 3 x z) (hn : o.dst = none) {i k j gl n c : Nat} {y : Line} {q : Int} (hB : Bx w base b t cs V s) (hi : i < s.orders.length) (hk : k < (s.order i).lines.length)
    (hv : V.line i = .slice (some ⟨gl, 0, none⟩) n c) (hj : j < 4) (hy : cLine y = (cLine (s.line i k)).set j (.int .i64 q)) (hx : a.eval x = .pointer (some ⟨gl, k * 4 + j, none⟩)) (hz : a.eval z = .int .i64 q)
    (h : ∀ w', Bx w' base b t cs V (s.setLine i k y) → Step (· = gl) w w' → wpList Tryz.prog ops Q rest a w') : wpList Tryz.prog ops Q (o :: rest) a w :=
  wpList_plain hgd fun K hK => by
    obtain ⟨g', c', cur, e1, _, e3, f0, f1, f2, f3⟩ := hB.own.lineAt hi hk
    rw [hv] at e1
    injection e1 with e1
    injection e1 with e1
    injection e1 with e1
    subst e1
    obtain ⟨h1, h2⟩ := hB.own.setLine hi hk hv hj hy
    have h3 := h _ ⟨hB.off e3 hB.ty.h4 h2, h1, hB.ty⟩ (.of_grown h2 fun k hk => by injection hk with hk; exact hk.symm)
    have hf := e3.frozen (k * 4 + j)
    obtain ⟨u, hc⟩ := four_cells hj f0 f1 f2 f3
    clear h hB h1 h2 f0 f1 f2 f3 e3 hy
    unfold Oper.wp
    simp only [execOp, ho, hx, hz]
    go_simp
    exact hK _ _ h3
end
end Wh
