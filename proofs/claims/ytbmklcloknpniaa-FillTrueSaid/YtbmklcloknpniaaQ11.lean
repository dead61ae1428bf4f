/- Texts of the claim, joined: StateI, StateM, OwnU, RelG, Act, PlainI. -/
import Derived.Deep.OwnRows
import Derived.Test.YtbmklcloknpniaaQ10
import Derived.Test.YtbmklcloknpniaaQ06
import Derived.Test.YtbmklcloknpniaaQ07
import Derived.Test.YtbmklcloknpniaaQ03
import Derived.Test.YtbmklcloknpniaaQ08
import Derived.Test.YtbmklcloknpniaaQ05
namespace Wh
open Go Go.RowKit Go.Shelf Go.Proofs
attribute [local go_sem] run_indexAt_letter

def freeTo (p : Plan) (s : State) (b : Int) (k : Nat) : Int := (p.bin b.toNat).room - sumTo (fun g => (cell s.on b.toNat g + coming s b g) * intAt p.sizes g) k
theorem freeTo_all (p : Plan) (s : State) (b : Int) : freeTo p s b p.sizes.length = free p s b := rfl
theorem freeTo_succ (p : Plan) (s : State) (b : Int) (k : Nat) : freeTo p s b (k + 1) = freeTo p s b k - (cell s.on b.toNat k + coming s b k) * intAt p.sizes k := by
  unfold freeTo
  simp only [sumTo]
  omega
theorem mul_range {a b : Int} (ha : 0 ≤ a ∧ a ≤ 1800) (hb : 1 ≤ b ∧ b ≤ 9) : 0 ≤ a * b ∧ a * b ≤ 16200 := by
  refine ⟨Int.mul_nonneg ha.1 (by omega), ?_⟩
  calc a * b ≤ a * 9 := Int.mul_le_mul_of_nonneg_left hb.2 ha.1
    _ ≤ 16200 := by omega
theorem part_range {p : Plan} {s : State} (hs : Sane p s) {b : Int} (hb : 0 ≤ b ∧ b < p.bins.length) {k : Nat} (hk : k < p.sizes.length) :
    (0 ≤ cell s.on b.toNat k + coming s b k ∧ cell s.on b.toNat k + coming s b k ≤ 1800) ∧ (0 ≤ (cell s.on b.toNat k + coming s b k) * intAt p.sizes k ∧ (cell s.on b.toNat k + coming s b k) * intAt p.sizes k ≤ 16200) := by
  have h1 := hs.cell (b := b.toNat) (g := k) (by omega) hk
  have h2 := coming_range hs b k
  have h3 : 0 ≤ cell s.on b.toNat k + coming s b k ∧ cell s.on b.toNat k + coming s b k ≤ 1800 := by omega
  exact ⟨h3, mul_range h3 (right_size hs.plan hk)⟩
theorem freeTo_range {p : Plan} {s : State} (hs : Sane p s) {b : Int} (hb : 0 ≤ b ∧ b < p.bins.length) {k : Nat} (hk : k ≤ p.sizes.length) : -48600 ≤ freeTo p s b k ∧ freeTo p s b k ≤ 1000 := by
  have h1 := right_bin hs.plan (b := b.toNat) (by omega)
  have h2 := sumTo_bounds (f := fun g : Nat => (cell s.on b.toNat g + coming s b g) * intAt p.sizes g) (n := k) (m := 16200) fun g hg => (part_range hs hb (by omega)).2
  have hc := hs.counts
  unfold freeTo Plan.bin
  omega

set_option maxHeartbeats 2000000 in
theorem sLeft (w : World) (v : Value) (p : Plan) (s : State) (b g : Int) (hv : StateV w w.heap.size v s) (hs : Sane p s) (hb : 0 ≤ b ∧ b < p.bins.length) (hg : 0 ≤ g ∧ g < p.sizes.length) :
    Calls Try.prog 13 #[v, .int .i64 b, .int .i64 g] w fun e w' => e = .returned (.int .i64 (avail s b g)) ∧ Below w.heap.size w w' := by
  have hb1 : 0 ≤ b := hb.1
  have hb2 : b < (s.on.length : Int) := by rw [hs.onLen]; exact hb.2
  have hg1 : 0 ≤ g := hg.1
  have hbl : b.toNat < s.on.length := by omega
  have hgl : g.toNat < (rowAt s.on b.toNat).length := by rw [hs.rowLen (by omega)]; omega
  have hg2 : g < ((rowAt s.on b.toNat).length : Int) := by omega
  have hcr := hs.cell (b := b.toNat) (g := g.toNat) (by omega) (by omega)
  have hbr := bound_range hs b g
  have hsH := Lib.hid hs
  clear hs hb hg
  obtain ⟨A0, c0, A1, c1, A2, c2, A3, c3, A4, c4, A5, c5, A6, c6, rfl, hV, hN, hO, hH, hM, hI, hU, hX, hl0, hl1, hl2, hl3, hl4, hl5, hl6⟩ := openOne hv
  go_enter Try.func13, Try.ntmps13
  go_wp2_with fail
  obtain ⟨W0, hW0, hb0, hsz0, hsz1, hsE, hK⟩ := boxesOne w s A0 c0 A1 c1 A2 c2 A3 c3 A4 c4 A5 c5 A6 c6
  rw [hW0]
  clear hW0
  obtain ⟨Ar, cr, or0, lr0, rr0, hrow⟩ := (hN.out W0 hb0).row hbl
  obtain ⟨or1, lr1, rr1⟩ := hrow.at_.int hgl
  have hcl : intAt (rowAt s.on b.toNat) g.toNat = cell s.on b.toNat g.toNat := rfl
  rw [hcl] at rr1
  clear hcl
  obtain ⟨_, x0, x1, x2, x3, x4, x5, x6, _⟩ := hK.out W0 (Below.refl _ _)
  have q1 := fun o d os => cells_wld (w := W0) (b := w.heap.size) hsz0 o d os
  have q2 := fun o d os => cells_wld (w := W0) (b := ablk A0) lr0 o d os
  have q3 := fun o d os => cells_wld (w := W0) (b := ablk Ar) lr1 o d os
  have hV2 := Lib.hid (fun d os => hV.out _ (hb0.trans ((below_wld W0 d os).mono hb0.size)))
  have hw1 : IntKind.i64.wrap (cell s.on b.toNat g.toNat - bound s b g) = cell s.on b.toNat g.toNat - bound s b g := IntWalk.i64_in _ (by omega)
  go_wp2_with fail
  refine wp_region_wld (by kernel_rfl) (by kernel_rfl) ?_
  repeat (go_big_quiet_step ((go_at_call 31; refine calls_wld (sBound _ _ p s _ _ (hV2.out _ _) hsH.out))))
  refine wpQuiet_nil ?_
  intro W2 hw'
  have hb2 := below_of_cls hw'
  clear hw'
  go_wp2_with fail
  go_ret
  exact ⟨ret_int rfl, hb0.trans (hb2.mono hb0.size)⟩
set_option maxHeartbeats 4000000 in
set_option maxRecDepth 100000 in
theorem sRoom (w : World) (v vs : Value) (p : Plan) (s : State) (b : Int) (hp : PlanV w w.heap.size v p) (hv : StateV w w.heap.size vs s) (hs : Sane p s) (hb : 0 ≤ b ∧ b < p.bins.length) :
    Calls Try.prog 14 #[v, vs, .int .i64 b] w fun e w' => e = .returned (.int .i64 (free p s b)) ∧ Below w.heap.size w w' := by
  have hbb := Lib.hid hb
  have hb1 : 0 ≤ b := hb.1
  have hb2 : b < (s.on.length : Int) := by rw [hs.onLen]; exact hb.2
  have hb3 : b < (p.bins.length : Int) := hb.2
  have hbl : b.toNat < s.on.length := by omega
  have hbl' : b.toNat < p.bins.length := by omega
  have hcnt := hs.counts
  have hsH := Lib.hid hs
  clear hs hb
  obtain ⟨Ab, cb, As, cs, rfl, hP', hBn, hSz, hlb, hls⟩ := openPl hp
  obtain ⟨A0, c0, A1, c1, A2, c2, A3, c3, A4, c4, A5, c5, A6, c6, rfl, hV, hN, hO, hH, hM, hI, hU, hX, hl0, hl1, hl2, hl3, hl4, hl5, hl6⟩ := openOne hv
  obtain ⟨ok0, lk0, k0, k1, k2, k3⟩ := (hBn.out w (Below.refl _ _)).at_.bin hbl'
  go_enter Try.func14, Try.ntmps14
  go_wp2_with fail
  obtain ⟨W0, hW0, hb0, hsz0, hsz1, hsE, hK⟩ := boxesTwo w p s Ab cb As cs A0 c0 A1 c1 A2 c2 A3 c3 A4 c4 A5 c5 A6 c6
  rw [hW0]
  clear hW0
  obtain ⟨⟨y0, y1⟩, x0, x1, x2, x3, x4, x5, x6, hbz0, hbz1⟩ := hK.out W0 (Below.refl W0.heap.size W0)
  clear k0 k1 k2 k3
  go_loopw [7, 19, 8, 9] (fun n i _ _ wr => ∃ k : Nat, k ≤ p.sizes.length ∧ i = .int .i64 k ∧ n = .int .i64 (freeTo p s b k) ∧ Below W0.heap.size W0 wr) (fun _ i _ _ _ => p.sizes.length - (intOf i).toNat)
  case atStart => exact ⟨0, Nat.zero_le _, rfl, by unfold freeTo Plan.bin; simp [sumTo], Below.refl _ _⟩
  case round =>
    clear y0 y1 x0 x1 x2 x3 x4 x5 x6 hbz0 hbz1
    obtain ⟨k, hk, rfl, rfl, hbw⟩ := hrel
    have hB := hb0.trans (hbw.mono hb0.size)
    obtain ⟨t1, t2⟩ := freeTo_range hsH.out hbb.out hk
    obtain ⟨⟨y0, y1⟩, x0, x1, x2, x3, x4, x5, x6, hbz0, hbz1⟩ := hK.out wr (hbw)
    by_cases hlt : k < p.sizes.length
    · have hgl : k < (rowAt s.on b.toNat).length := by rw [hsH.out.rowLen hbl']; exact hlt
      obtain ⟨Ar, cr, or0, lr0, rr0, hrow⟩ := (hN.out wr hB).row hbl
      obtain ⟨or1, lr1, rr1⟩ := hrow.at_.int hgl
      obtain ⟨os0, ls0, rs0⟩ := (hSz.out wr hB).at_.int hlt
      have hcl : intAt (rowAt s.on b.toNat) k = cell s.on b.toNat k := rfl
      rw [hcl] at rr1
      clear hcl
      obtain ⟨⟨m1, m2⟩, m3, m4⟩ := part_range hsH.out hbb.out hlt
      have q1 := fun o d os => cells_wld (w := wr) (b := w.heap.size + 1) hbz0 o d os
      have q2 := fun o d os => cells_wld (w := wr) (b := ablk A0) lr0 o d os
      have q3 := fun o d os => cells_wld (w := wr) (b := ablk Ar) lr1 o d os
      have hV2 := Lib.hid (fun d os => hV.out _ (hB.trans ((below_wld wr d os).mono hB.size)))
      have hsu := Lib.hid (freeTo_succ p s b k)
      have hw1 : IntKind.i64.wrap (cell s.on b.toNat k + coming s b k) = cell s.on b.toNat k + coming s b k := IntWalk.i64_in _ (by omega)
      have hw2 : IntKind.i64.wrap ((cell s.on b.toNat k + coming s b k) * intAt p.sizes k) = (cell s.on b.toNat k + coming s b k) * intAt p.sizes k := IntWalk.i64_in _ (by omega)
      have hw3 : IntKind.i64.wrap (freeTo p s b k - (cell s.on b.toNat k + coming s b k) * intAt p.sizes k) = freeTo p s b k - (cell s.on b.toNat k + coming s b k) * intAt p.sizes k := IntWalk.i64_in _ (by omega)
      go_wp2_with fail
      refine wp_region_wld (by kernel_rfl) (by kernel_rfl) ?_
      repeat (go_big_quiet_step ((go_at_call 30; refine calls_wld (sComing _ _ p s _ _ (hV2.out _ _) hsH.out))))
      refine wpQuiet_nil ?_
      intro W2 hw'
      have hb2 := below_of_cls hw'
      clear hw'
      clear q1 q2 q3 hw1 hw2 hw3
      go_wp2_with fail
      go_roundw
      case rel => exact ⟨k + 1, by omega, by go_num, by rw [hsu.out], hbw.trans (hb2.mono hbw.size)⟩
      case measure => simp [intOf]; omega
    · obtain rfl : k = p.sizes.length := by omega
      go_wp2_with fail
      go_ret
      exact ⟨ret_int (freeTo_all _ _ _), hB⟩

theorem freeE_bad {p : Plan} {s : State} {b : Int} (h : checkState p s ≠ 0) : freeE p s b = (0, checkState p s) := by unfold freeE; rw [if_pos h]
theorem freeE_no {p : Plan} {s : State} {b : Int} (h : checkState p s = 0) (h2 : isBin p b = false) : freeE p s b = (0, 3) := by
  unfold freeE
  rw [if_neg (fun hn => hn h), h2]; rfl
theorem freeE_yes {p : Plan} {s : State} {b : Int} (h : checkState p s = 0) (h2 : isBin p b = true) : freeE p s b = (free p s b, 0) := by
  unfold freeE
  rw [if_neg (fun hn => hn h), h2]; rfl
theorem good0 {p : Plan} {s : State} (h : checkState p s = 0) (b : Int) : (isBin p b && isGood p 0) = isBin p b := by
  have hc := (checkState_zero.1 h).1.counts
  rw [show isGood p 0 = true from isGood_iff.2 (by omega), Bool.and_true]

set_option maxHeartbeats 2000000 in
theorem sFree (w : World) (v vs : Value) (p : Plan) (s : State) (b : Int) (hp : PlanV w w.heap.size v p) (hv : StateV w w.heap.size vs s) :
    Calls Try.prog 7 #[v, vs, .int .i64 b] w fun e w' => e = .returned (.tuple #[.int .i64 (freeE p s b).1, .int .i64 (freeE p s b).2]) ∧ Below w.heap.size w w' := by
  obtain ⟨Ab, cb, As, cs, rfl, hP', hBn, hSz, hlb, hls⟩ := openPl hp
  obtain ⟨A0, c0, A1, c1, A2, c2, A3, c3, A4, c4, A5, c5, A6, c6, rfl, hV, hN, hO, hH, hM, hI, hU, hX, hl0, hl1, hl2, hl3, hl4, hl5, hl6⟩ := openOne hv
  go_enter Try.func7, Try.ntmps7
  go_wp2_with fail
  obtain ⟨W0, hW0, hb0, hsz0, hsz1, hsE, hK⟩ := boxesTwo w p s Ab cb As cs A0 c0 A1 c1 A2 c2 A3 c3 A4 c4 A5 c5 A6 c6
  rw [hW0]
  clear hW0
  obtain ⟨⟨y0, y1⟩, x0, x1, x2, x3, x4, x5, x6, hbz0, hbz1⟩ := hK.out W0 (Below.refl W0.heap.size W0)
  go_wp2_with fail
  clear y0 y1 x0 x1 x2 x3 x4 x5 x6 hbz0 hbz1
  refine (sCheck _ _ _ p s (hP'.out _ hb0) (hV.out _ hb0)).mono ?_
  rintro e W1 ⟨rfl, hb1⟩
  have hB1 := hb0.trans (hb1.mono hb0.size)
  obtain ⟨⟨y0, y1⟩, x0, x1, x2, x3, x4, x5, x6, hbz0, hbz1⟩ := hK.out W1 (hb1)
  by_cases hc : checkState p s = 0
  · have hc' := Lib.hid hc
    rw [hc]
    clear hc
    go_wp2_with fail
    clear y0 y1 x0 x1 x2 x3 x4 x5 x6 hbz0 hbz1
    refine (shThere _ _ p b 0 (hP'.out _ hB1)).mono ?_
    rintro e W2 ⟨rfl, hb2⟩
    rw [good0 hc'.out]
    have hb12 := hb1.trans (hb2.mono hb1.size)
    have hB2 := hb0.trans (hb12.mono hb0.size)
    obtain ⟨⟨y0, y1⟩, x0, x1, x2, x3, x4, x5, x6, hbz0, hbz1⟩ := hK.out W2 (hb12)
    cases hth : isBin p b
    · have hfin := Lib.hid (freeE_no hc'.out hth)
      clear hth
      go_wp2_with fail
      go_ret2
      exact ⟨ret2 (by rw [hfin.out] <;> rfl) (by rw [hfin.out] <;> rfl), hB2⟩
    · have hfin := Lib.hid (freeE_yes hc'.out hth)
      have hbb := Lib.hid (isBin_iff.1 hth)
      clear hth
      go_wp2_with fail
      clear y0 y1 x0 x1 x2 x3 x4 x5 x6 hbz0 hbz1
      refine (sRoom _ _ _ p s b (hP'.out _ hB2) (hV.out _ hB2) (checkState_zero.1 hc'.out).1 hbb.out).mono ?_
      rintro e W3 ⟨rfl, hb3⟩
      go_wp2_with fail
      go_ret2
      exact ⟨ret2 (by rw [hfin.out] <;> rfl) (by rw [hfin.out] <;> rfl), hB2.trans (hb3.mono hB2.size)⟩
  · have hne : (checkState p s != 0) = true := by simpa using hc
    have hfin := Lib.hid (freeE_bad (b := b) hc)
    clear hc
    go_wp2_with fail
    go_ret2
    exact ⟨ret2 (by rw [hfin.out] <;> rfl) (by rw [hfin.out] <;> rfl), hB1⟩
end Wh
namespace Wh
open Go Go.RowKit Go.Shelf Go.Proofs
attribute [local go_sem] run_indexAt_letter evL_tmp evL_const evL_func

def nilSV : SV := ⟨nilV, nilV, nilV, nilV, nilV, nilV, nilV, [], []⟩
theorem OwnSt.zero (w : World) (base : Nat) : OwnSt w base nilSV dState :=
  ⟨Own.nil, rfl, (fun b h => by cases h), Own.nil, rfl, (fun o h => by cases h), Own.nil, Own.nil, Own.nil, Own.nil, Own.nil, by unfold apartL nilSV; simp [nilV, Value.ownBlock], List.Pairwise.nil⟩
theorem newBox (W : World) : BoxAt (W.alloc (.cells #[.slice none 0 0, .slice none 0 0, .slice none 0 0, .slice none 0 0, .slice none 0 0, .slice none 0 0, .slice none 0 0] 31)) W.heap.size nilSV := Blk.new _ _ _
theorem newBelow {W w3 : World} {o : Obj} (hg : (W.alloc o).grownBy w3 (some W.heap.size)) : Below W.heap.size W w3 := ((Below.refl _ _).alloc (Nat.le_refl _) _).grown hg (by simp) (fun k hk => by injection hk with hk; omega)
theorem OwnSt.one {w : World} {base : Nat} {V : SV} {s : State} (h : OwnSt w base V s) : V.cells.all (fun u => u.oneCell') = true := by
  simp [SV.cells, own_one h.on, own_one h.orders, own_one h.holds, own_one h.moves, own_one h.inn, own_one h.out, own_one h.fixed]
/-- The sums of a state that begins. -/
theorem OwnSt.begun {w : World} {base : Nat} {vi vu vx : Value} {z : List Int} (h1 : Own cInt 1 3 w base vi z) (h2 : Own cInt 1 3 w base vu z) (h3 : Own cInt 1 3 w base vx z)
    (h12 : ∀ g, vi.ownBlock = some g → vu.ownBlock ≠ some g) (h13 : ∀ g, vi.ownBlock = some g → vx.ownBlock ≠ some g) (h23 : ∀ g, vu.ownBlock = some g → vx.ownBlock ≠ some g) :
    OwnSt w base ⟨nilV, nilV, nilV, nilV, vi, vu, vx, [], []⟩ ⟨[], [], [], [], z, z, z⟩ :=
  ⟨Own.nil, rfl, (fun b h => by cases h), Own.nil, rfl, (fun o h => by cases h), Own.nil, Own.nil, h1, h2, h3, by
    unfold apartL
    refine List.pairwise_cons.2 ⟨fun b hb => ?_, List.pairwise_cons.2 ⟨fun b hb => ?_, List.pairwise_singleton _ _⟩⟩
    · simp only [List.mem_cons, List.not_mem_nil, or_false] at hb
      rcases hb with rfl | rfl
      · exact h12
      · exact h13
    · obtain rfl := List.mem_singleton.1 hb
      exact h23, List.Pairwise.nil⟩

/-- What BeginOf has made by now. -/
structure RB (w : World) (base : Nat) (V : SV) (z : List Int) (k : Nat) : Prop where
  on : Own (fun u : Value => [u]) 1 23 w base V.on V.rows
  rlen : V.rows.length = k
  row : ∀ b, b < k → Own cInt 1 3 w base (V.row b) z
  inn : Own cInt 1 3 w base V.inn z
  out : Own cInt 1 3 w base V.out z
  fixed : Own cInt 1 3 w base V.fixed z
  none1 : V.orders = nilV
  none2 : V.holds = nilV
  none3 : V.moves = nilV
namespace RB
variable {w w' : World} {base : Nat} {V : SV} {z : List Int} {k : Nat}
theorem below (h : RB w base V z k) (hb : Below w.heap.size w w') : RB w' base V z k :=
  ⟨h.on.below hb, h.rlen, fun b hk => (h.row b hk).below hb, h.inn.below hb, h.out.below hb, h.fixed.below hb, h.none1, h.none2, h.none3⟩
theorem keptBy (h : RB w base V z k) {b : Nat} {t : TypeId} {cur : List Value} (hg : w.grownBy w' (some b)) (hb : Blk w b t cur) (h1 : 23 ≠ t) (h2 : 3 ≠ t) : RB w' base V z k :=
  ⟨h.on.kept hg (h.on.notBox hb h1), h.rlen, fun b hk => (h.row b hk).kept hg ((h.row b hk).notBox hb h2), h.inn.kept hg (h.inn.notBox hb h2), h.out.kept hg (h.out.notBox hb h2), h.fixed.kept hg (h.fixed.notBox hb h2), h.none1, h.none2, h.none3⟩
theorem from_ (h : RB w base V z k) {base' : Nat} (hb : base' ≤ base) : RB w base' V z k :=
  ⟨h.on.from_ hb, h.rlen, fun b hk => (h.row b hk).from_ hb, h.inn.from_ hb, h.out.from_ hb, h.fixed.from_ hb, h.none1, h.none2, h.none3⟩
theorem one (h : RB w base V z k) : V.cells.all (fun u => u.oneCell') = true := by
  simp [SV.cells, own_one h.on, own_one h.inn, own_one h.out, own_one h.fixed, h.none1, h.none2, h.none3, show nilV.oneCell' = true from rfl]
theorem push (h : RB w base V z k) {u v' : Value} (hu : Own cInt 1 3 w base u z) (hg : w.grownBy w' V.on.ownBlock) (hv : Own (fun u : Value => [u]) 1 23 w' base v' (V.rows ++ [u])) : RB w' base { V with on := v', rows := V.rows ++ [u] } z (k + 1) := by
  refine ⟨hv, by simp [h.rlen], fun b hb => ?_, h.inn.kept hg (h.inn.apart h.on (by decide)), h.out.kept hg (h.out.apart h.on (by decide)), h.fixed.kept hg (h.fixed.apart h.on (by decide)), h.none1, h.none2, h.none3⟩
  by_cases hlt : b < k
  · have e1 : SV.row { V with on := v', rows := V.rows ++ [u] } b = V.row b := by
      unfold SV.row
      simp [List.getD_eq_getElem?_getD, List.getElem?_append_left (show b < V.rows.length by rw [h.rlen]; exact hlt)]
    rw [e1]
    exact (h.row b hlt).kept hg ((h.row b hlt).apart h.on (by decide))
  · have hb2 : b = k := by omega
    have e1 : SV.row { V with on := v', rows := V.rows ++ [u] } b = u := by
      unfold SV.row
      rw [hb2, ← h.rlen]
      simp
    rw [e1]
    exact hu.kept hg (hu.apart h.on (by decide))
theorem view {p : Plan} (h : RB w base V (List.replicate p.sizes.length 0) p.bins.length) (hc : p.bins.length ≤ 1000) (hc2 : p.sizes.length ≤ 1000) : StateV w w.heap.size V.val (begin p) := by
  obtain ⟨A, c, e, _, hA⟩ := h.on.sl (by rw [h.rlen]; omega)
  have hrl := h.rlen
  refine ⟨_, _, _, _, _, _, _, rfl, ⟨A, c, V.rows, by rw [e, hrl]; simp [begin], by simp [begin]; omega, by simp [begin, hrl], ?_, fun i x hi => ?_⟩, ?_, ?_, ?_, h.inn.sl (by simp; omega), h.out.sl (by simp; omega), h.fixed.sl (by simp; omega)⟩
  · have : V.rows.flatMap (fun u => [u]) = V.rows := by simp
    rw [this] at hA
    exact hA
  · have hi' : (List.replicate p.bins.length (List.replicate p.sizes.length (0 : Int)))[i]? = some x := hi
    rw [List.getElem?_replicate] at hi'
    by_cases hlt : i < p.bins.length
    · rw [if_pos hlt] at hi'
      injection hi' with hi'
      subst hi'
      refine ⟨V.row i, ?_, (h.row i hlt).sl (by simp; omega)⟩
      unfold SV.row
      simp [show i < V.rows.length by omega]
    · rw [if_neg hlt] at hi'
      cases hi'
  · rw [h.none1]; exact ⟨none, 0, [], rfl, by simp [begin], rfl, At.nil, fun i x h => by simp [begin] at h⟩
  · rw [h.none2]; exact Sl.nil
  · rw [h.none3]; exact Sl.nil
end RB

end Wh
namespace Wh
open Go Go.RowKit Go.Proofs

section
variable {α : Type} {enc : α → List Value} {size : Nat} {e : TypeId} {w : World} {base : Nat} {v : Value} {l : List α}
theorem Own.at (h : Own enc size e w base v l) (hk : ∀ x, (enc x).length = size) {i : Nat} (hi : i < l.length) :
    ∃ g c cur, v = .slice (some ⟨g, 0, none⟩) l.length c ∧ base ≤ g ∧ Blk w g e cur ∧ ∀ j u, (enc l[i])[j]? = some u → w.cell? ⟨g, i * size + j, none⟩ = some u := by
  obtain ⟨g, c, cur, h1, h2, h3, h4, h5, h6, h7⟩ := h.row (by omega)
  refine ⟨g, c, cur, h1, h2, h3, fun j u hj => h3.cell ?_⟩
  have hjs : j < size := by
    have := (List.getElem?_eq_some_iff.1 hj).1
    rwa [hk] at this
  have hf := flat_get enc size hk l i j l[i] (by simp [hi]) hjs
  rw [← h7] at hf
  rw [← hj, ← hf, List.getElem?_take]
  rw [if_pos]
  calc i * size + j < i * size + size := by omega
    _ = (i + 1) * size := by rw [Nat.add_mul]; omega
    _ ≤ l.length * size := Nat.mul_le_mul_right _ (by omega)
end

theorem Blk.ne {w : World} {g g' : Nat} {e e' : TypeId} {cur cur' : List Value} (h : Blk w g e cur) (h' : Blk w g' e' cur') (hne : e ≠ e') : g ≠ g' := by
  rintro rfl
  unfold Blk at h h'
  rw [h] at h'
  injection h' with h'
  injection h' with _ h3
  exact hne h3
/-- A store into a block of another type leaves a state's box. -/
theorem BoxAt.off {w w' : World} {b g : Nat} {V : SV} {e : TypeId} {cur : List Value} (h : BoxAt w b V) (hg : w.grownBy w' (some g)) (hb : Blk w g e cur) (hne : e ≠ 31) : BoxAt w' b V :=
  h.grown hg (by intro he; injection he with he; exact hb.ne h.blk hne he.symm)
namespace OwnSt
variable {w w' : World} {base : Nat} {V : SV} {s : State}
/-- The cells of a hold. -/
theorem holdAt (h : OwnSt w base V s) {k : Nat} (hk : k < s.holds.length) : ∃ g c cur, V.holds = .slice (some ⟨g, 0, none⟩) s.holds.length c ∧ base ≤ g ∧ Blk w g 65 cur ∧
    w.cell? ⟨g, k * 4, none⟩ = some (.int .i64 (hold s.holds k).order) ∧ w.cell? ⟨g, k * 4 + 1, none⟩ = some (.int .i64 (hold s.holds k).line) ∧ w.cell? ⟨g, k * 4 + 2, none⟩ = some (.int .i64 (hold s.holds k).bin) ∧ w.cell? ⟨g, k * 4 + 3, none⟩ = some (.int .i64 (hold s.holds k).n) := by
  obtain ⟨g, c, cur, h1, h2, h3, h4⟩ := h.holds.at (fun _ => rfl) hk
  have e : s.holds[k] = hold s.holds k := by simp [hold, hk]
  rw [e] at h4
  exact ⟨g, c, cur, h1, h2, h3, h4 0 _ rfl, h4 1 _ rfl, h4 2 _ rfl, h4 3 _ rfl⟩
/-- The cells of a move. -/
theorem moveAt (h : OwnSt w base V s) {k : Nat} (hk : k < s.moves.length) : ∃ g c cur, V.moves = .slice (some ⟨g, 0, none⟩) s.moves.length c ∧ base ≤ g ∧ Blk w g 42 cur ∧
    w.cell? ⟨g, k * 4, none⟩ = some (.int .i64 (Wh.moveAt s.moves k).good) ∧ w.cell? ⟨g, k * 4 + 1, none⟩ = some (.int .i64 (Wh.moveAt s.moves k).src) ∧ w.cell? ⟨g, k * 4 + 2, none⟩ = some (.int .i64 (Wh.moveAt s.moves k).dst) ∧ w.cell? ⟨g, k * 4 + 3, none⟩ = some (.int .i64 (Wh.moveAt s.moves k).n) := by
  obtain ⟨g, c, cur, h1, h2, h3, h4⟩ := h.moves.at (fun _ => rfl) hk
  have e : s.moves[k] = Wh.moveAt s.moves k := by simp [Wh.moveAt, hk]
  rw [e] at h4
  exact ⟨g, c, cur, h1, h2, h3, h4 0 _ rfl, h4 1 _ rfl, h4 2 _ rfl, h4 3 _ rfl⟩
/-- The cells of an order. -/
theorem orderAt (h : OwnSt w base V s) {o : Nat} (ho : o < s.orders.length) : ∃ g c cur, V.orders = .slice (some ⟨g, 0, none⟩) s.orders.length c ∧ base ≤ g ∧ Blk w g 58 cur ∧
    w.cell? ⟨g, o * 2, none⟩ = some (.int .i64 (s.order o).kind) ∧ w.cell? ⟨g, o * 2 + 1, none⟩ = some (V.line o) := by
  have hol : o < (ords s.orders V.lines).length := by rw [ords_length h.llen]; exact ho
  obtain ⟨g, c, cur, h1, h2, h3, h4⟩ := h.orders.at (fun _ => rfl) hol
  have e : (ords s.orders V.lines)[o] = ((s.order o).kind, V.line o) := by
    have := ords_get h.llen ho
    rw [List.getElem?_eq_getElem hol] at this
    exact Option.some.inj this
  rw [e] at h4
  rw [ords_length h.llen] at h1
  exact ⟨g, c, cur, h1, h2, h3, h4 0 _ rfl, h4 1 _ rfl⟩
/-- The cells of a line. -/
theorem lineAt (h : OwnSt w base V s) {o k : Nat} (ho : o < s.orders.length) (hk : k < (s.order o).lines.length) : ∃ g c cur, V.line o = .slice (some ⟨g, 0, none⟩) (s.order o).lines.length c ∧ base ≤ g ∧ Blk w g 70 cur ∧
    w.cell? ⟨g, k * 4, none⟩ = some (.int .i64 (s.line o k).good) ∧ w.cell? ⟨g, k * 4 + 1, none⟩ = some (.int .i64 (s.line o k).want) ∧ w.cell? ⟨g, k * 4 + 2, none⟩ = some (.int .i64 (s.line o k).got) ∧ w.cell? ⟨g, k * 4 + 3, none⟩ = some (.int .i64 (s.line o k).back) := by
  obtain ⟨g, c, cur, h1, h2, h3, h4⟩ := (h.line o ho).at (fun _ => rfl) hk
  have e : (s.order o).lines[k] = s.line o k := by unfold State.line; simp [Wh.lineAt, hk]
  rw [e] at h4
  exact ⟨g, c, cur, h1, h2, h3, h4 0 _ rfl, h4 1 _ rfl, h4 2 _ rfl, h4 3 _ rfl⟩
/-- The cells of what lies in a bin. -/
theorem onAt (h : OwnSt w base V s) {b g : Nat} (hb : b < s.on.length) (hg : g < (rowAt s.on b).length) : ∃ go co cur0 gr cr cur, V.on = .slice (some ⟨go, 0, none⟩) s.on.length co ∧ base ≤ go ∧ Blk w go 23 cur0 ∧ w.cell? ⟨go, b, none⟩ = some (.slice (some ⟨gr, 0, none⟩) (rowAt s.on b).length cr) ∧
    V.row b = .slice (some ⟨gr, 0, none⟩) (rowAt s.on b).length cr ∧ base ≤ gr ∧ Blk w gr 3 cur ∧ w.cell? ⟨gr, g, none⟩ = some (.int .i64 (cell s.on b g)) := by
  have hbl : b < V.rows.length := by rw [h.rlen]; exact hb
  obtain ⟨go, co, cur0, h1, h2, h3, h4⟩ := h.on.at (fun _ => rfl) hbl
  obtain ⟨gr, cr, cur, k1, k2, k3, k4⟩ := (h.row b hb).at (fun _ => rfl) hg
  have e : V.rows[b] = V.row b := by unfold SV.row; simp [hbl]
  have h5 := h4 0 (V.row b) (by rw [e]; rfl)
  have e2 : (rowAt s.on b)[g] = cell s.on b g := by unfold cell intAt; simp [hg]
  have k5 := k4 0 (.int .i64 (cell s.on b g)) (by rw [e2]; rfl)
  rw [Nat.mul_one, Nat.add_zero] at h5 k5
  rw [h.rlen] at h1
  rw [k1] at h5
  exact ⟨go, co, cur0, gr, cr, cur, h1, h2, h3, h5, k1, k2, k3, k5⟩
end OwnSt
end Wh
namespace Wh
open Go Go.RowKit
/-- As relB, but operations may wait for a guard. -/
def relG (l : List Oper) (n : Nat) : Bool :=
  (decide (n = l.length) || (decide (n < l.length) && Region.sinkB .any l.toArray n && Region.chainB .any l.toArray n)) && Region.seqB .any l.toArray (l.length - n) n (heads l.length n) &&
  decide ((l.take n).filterMap (·.dst)).Nodup && (List.range n).all fun i => ((l[i]?).map fun o => o.after.all fun e => !Region.binds .any e || decide (e.on < i)).getD true
section
variable {P : Program} {l : List Oper} {n : Nat} {R : Nat → (Nat → Value) → World → Prop} {Q : Exit → Act → World → Prop} {a : Act} {w : World}
/-- What is to be shown of one operation: it is carried out, or its guard says no. -/
def StepG (P : Program) (l : List Oper) (n : Nat) (R : Nat → (Nat → Value) → World → Prop) (Q : Exit → Act → World → Prop) (a : Act) (w : World) (i : Nat) (o : Oper) : Prop :=
  ∀ f w', Below w.heap.size w w' → Deps n R f w' o →
    (Region.wanted o (yielded l.toArray (fillA a (l.take n) f).tmps) = true ∧ o.wp P (fillA a (l.take n) f) w' (fun a' w'' => ∃ v, a' = (fillA a (l.take n) f).put o.dst v ∧ R i (updO f o.dst v) w'' ∧ Below w'.heap.size w' w'') Q) ∨
    (Region.wanted o (yielded l.toArray (fillA a (l.take n) f).tmps) = false ∧ R i (updO f o.dst undef) w')
def GuardIs (l : List Oper) (o : Oper) (g : Nat → Value) : Prop := match o.guard with | none => True | some (k, b) => ∃ d, (l[k]?.bind (·.dst)) = some d ∧ g d = .bool b
def GuardNo (l : List Oper) (o : Oper) (g : Nat → Value) : Prop := match o.guard with | none => False | some (k, b) => ∃ d, (l[k]?.bind (·.dst)) = some d ∧ g d = .bool (!b)
theorem getD_bool {t : Array Value} {d : Nat} {b : Bool} (h : t.getD d undef = .bool b) : t[d]? = some (.bool b) := by
  rw [Array.getD_eq_getD_getElem?] at h
  cases hc : t[d]? with
  | none => rw [hc] at h; simp [undef] at h
  | some v => rw [hc] at h; simp at h; rw [h]
theorem GuardIs.wanted {l : List Oper} {o : Oper} {t : Array Value} (h : GuardIs l o (fun d => t.getD d undef)) : Region.wanted o (yielded l.toArray t) = true := by
  unfold GuardIs at h
  unfold Region.wanted
  cases hg : o.guard with
  | none => rfl
  | some p =>
    obtain ⟨k, b⟩ := p
    rw [hg] at h
    obtain ⟨d, h1, h2⟩ := h
    have h3 := getD_bool h2
    simp [yielded, h1, h3]
theorem GuardNo.wanted {l : List Oper} {o : Oper} {t : Array Value} (h : GuardNo l o (fun d => t.getD d undef)) : Region.wanted o (yielded l.toArray t) = false := by
  unfold GuardNo at h
  unfold Region.wanted
  cases hg : o.guard with
  | none => rw [hg] at h; exact h.elim
  | some p =>
    obtain ⟨k, b⟩ := p
    rw [hg] at h
    obtain ⟨d, h1, h2⟩ := h
    have h3 := getD_bool h2
    simp [yielded, h1, h3]
theorem StepG.of {i : Nat} {o : Oper} (_hin : l[i]? = some o) (hi : i < n) (hB : relG l n = true) (hsz : ((l.take n).filterMap (·.dst)).all (fun d => decide (d < a.tmps.size)) = true)
    (hsup : ∀ i g g' w, (∀ j o d, Anc l j i → l[j]? = some o → o.dst = some d → g d = g' d) → R i g w → R i g' w)
    (h : ∀ (g : Nat → Value) w', Below w.heap.size w w' → (∀ d, ((l.take n).filterMap (·.dst)).contains d = false → g d = a.tmps.getD d undef) → Deps n R g w' o → (GuardIs l o g ∧ OpRel P o (evL g) w' fun v w'' => R i (updO g o.dst v) w'' ∧ Below w'.heap.size w' w'') ∨ (GuardNo l o g ∧ R i (updO g o.dst undef) w')) :
    StepG P l n R Q a w i o := by
  simp only [relG, Bool.and_eq_true, Bool.or_eq_true, decide_eq_true_eq, List.all_eq_true] at hB
  obtain ⟨_, hback⟩ := hB
  have hback' : ∀ k oe, k < n → l[k]? = some oe → ∀ e ∈ oe.after, Region.binds .any e = true → e.on < k := fun k oe hk hoe e he hbd => by
    have := hback k (List.mem_range.2 hk)
    rw [hoe] at this
    simp only [Option.map_some, Option.getD_some, Array.all_eq_true_iff_forall_mem, Bool.or_eq_true, Bool.not_eq_true', decide_eq_true_eq] at this
    rcases this e he with h | h
    · rw [h] at hbd; cases hbd
    · exact h
  have hanc : ∀ j k, Anc l j k → k < n → j < n := by
    intro j k h
    induction h with
    | self => exact id
    | back ho he hbd hon _ ih =>
      intro h1
      subst hon
      have := hback' _ _ h1 ho _ he hbd
      exact ih (by omega)
  have hsz' : ∀ d ∈ (l.take n).filterMap (·.dst), d < a.tmps.size := fun d hd => by
    have := List.all_eq_true.1 hsz d hd
    simpa using this
  intro f w' hb hd
  have hg : ∀ d ∈ (l.take n).filterMap (·.dst), (fillA a (l.take n) f).tmps.getD d undef = f d := fun d hd => by
    have h1 := fillT_get ((l.take n).filterMap (·.dst)) f a.tmps d
    rw [if_pos (hsz' d hd), if_pos hd] at h1
    unfold fillA
    simp only [Array.getD_eq_getD_getElem?, h1, Option.getD_some]
  have ho : ∀ d, ((l.take n).filterMap (·.dst)).contains d = false → (fillA a (l.take n) f).tmps.getD d undef = a.tmps.getD d undef := fun d hd => by
    have h1 := fillT_get ((l.take n).filterMap (·.dst)) f a.tmps d
    have h2 : d ∉ (l.take n).filterMap (·.dst) := by simpa using hd
    rw [if_neg h2] at h1
    unfold fillA
    simp only [Array.getD_eq_getD_getElem?, h1]
    by_cases hl : d < a.tmps.size
    · rw [if_pos hl]
    · rw [if_neg hl, Array.getElem?_eq_none (Nat.le_of_not_lt hl)]
  have key := h (fun d => (fillA a (l.take n) f).tmps.getD d undef) w' hb ho (fun e he hbd hen => hsup e.on f _ _ (fun j oj d haj hoj hdj => (hg d (dst_mem hoj (hanc _ _ haj hen) hdj)).symm) (hd e he hbd hen))
  have hback2 : ∀ v w'', R i (updO (fun d => (fillA a (l.take n) f).tmps.getD d undef) o.dst v) w'' → R i (updO f o.dst v) w'' := fun v w'' hr => by
    refine hsup i _ _ _ (fun j oj d haj hoj hdj => ?_) hr
    have hjn := hanc _ _ haj hi
    have hmem := dst_mem hoj hjn hdj
    cases hdst : o.dst with
    | none => exact hg d hmem
    | some d0 =>
      unfold updO upd
      simp only
      split
      · rfl
      · exact hg d hmem
  rcases key with ⟨hw, key⟩ | ⟨hw, key⟩
  · rw [← evL_eval] at key
    refine .inl ⟨hw.wanted, Oper.wp_mono ?_ key.wp⟩
    rintro a' w'' ⟨v, rfl, hr, hbw⟩
    exact ⟨v, rfl, hback2 v w'' hr, hbw⟩
  · exact .inr ⟨hw.wanted, hback2 undef w' key⟩


/-- One operation: what it says stays, hangs on what came before it alone, and comes; or its guard says no. -/
def OpG (P : Program) (l : List Oper) (n : Nat) (Rs : List RelP) (a : Act) (w : World) (i : Nat) (o : Oper) (p : RelP) : Prop :=
  (∀ g w1 w2, p g w1 → Below w1.heap.size w1 w2 → p g w2) ∧ (∀ g g' w, (∀ j o d, Anc l j i → l[j]? = some o → o.dst = some d → g d = g' d) → p g w → p g' w) ∧
  ∀ g w', Below w.heap.size w w' → (∀ d, ((l.take n).filterMap (·.dst)).contains d = false → g d = a.tmps.getD d undef) → Deps n (atR Rs) g w' o →
    (GuardIs l o g ∧ OpRel P o (evL g) w' fun v w'' => p (updO g o.dst v) w'' ∧ Below w'.heap.size w' w'') ∨ (GuardNo l o g ∧ p (updO g o.dst undef) w')
def OpsG (P : Program) (l : List Oper) (n : Nat) (Rs : List RelP) (a : Act) (w : World) : Nat → List Oper → List RelP → Prop
  | _, [], _ => True
  | _, _ :: _, [] => False
  | i, o :: r, p :: ps => OpG P l n Rs a w i o p ∧ OpsG P l n Rs a w (i + 1) r ps
theorem OpsG.at {Rs : List RelP} : ∀ {r : List Oper} {ps : List RelP} {k : Nat}, OpsG P l n Rs a w k r ps → ∀ {j : Nat} {o : Oper}, r[j]? = some o → OpG P l n Rs a w (k + j) o (ps.getD j (fun _ _ => True))
  | [], _, _, _, _, _, h => by simp at h
  | _ :: _, [], _, h, _, _, _ => h.elim
  | x :: r, p :: ps, k, h, 0, o, hj => by
    simp at hj
    subst hj
    exact h.1
  | x :: r, p :: ps, k, h, j + 1, o, hj => by
    have := OpsG.at h.2 (j := j) (o := o) (by simpa using hj)
    rw [show k + 1 + j = k + (j + 1) by omega] at this
    simpa using this
theorem OpsG.nil {Rs : List RelP} {i : Nat} {ps : List RelP} : OpsG P l n Rs a w i [] ps := by cases ps <;> trivial
theorem OpsG.cons {Rs : List RelP} {i : Nat} {o : Oper} {r : List Oper} {p : RelP} {ps : List RelP} (h : OpG P l n Rs a w i o p) (h' : OpsG P l n Rs a w (i + 1) r ps) : OpsG P l n Rs a w i (o :: r) (p :: ps) := ⟨h, h'⟩
/-- An operation whose value is known. -/
theorem OpG.val {Rs : List RelP} {i d : Nat} {o : Oper} {c : Value} (hi : l[i]? = some o) (ho : o.dst = some d)
    (hgd : ∀ g w', (∀ d, ((l.take n).filterMap (·.dst)).contains d = false → g d = a.tmps.getD d undef) → Deps n (atR Rs) g w' o → GuardIs l o g)
    (h : ∀ g w', Below w.heap.size w w' → (∀ d, ((l.take n).filterMap (·.dst)).contains d = false → g d = a.tmps.getD d undef) → Deps n (atR Rs) g w' o → (execOp (evL g) o).run P w' = .ok (.value c) w') :
    OpG P l n Rs a w i o (fun g _ => g d = c) := by
  refine ⟨fun _ _ _ h _ => h, fun g g' _ he h => (he i o d (Anc.self i) hi ho).symm.trans h, fun g w' hb hout hd => .inl ⟨hgd g w' hout hd, ?_⟩⟩
  unfold OpRel
  rw [h g w' hb hout hd]
  refine ⟨?_, Below.refl _ _⟩
  rw [ho]
  unfold updO upd
  simp
/-- An operation whose guard says no. -/
theorem OpG.skip {Rs : List RelP} {i d : Nat} {o : Oper} (hi : l[i]? = some o) (ho : o.dst = some d)
    (hgd : ∀ g w', (∀ d, ((l.take n).filterMap (·.dst)).contains d = false → g d = a.tmps.getD d undef) → Deps n (atR Rs) g w' o → GuardNo l o g) :
    OpG P l n Rs a w i o (fun g _ => g d = undef) := by
  refine ⟨fun _ _ _ h _ => h, fun g g' _ he h => (he i o d (Anc.self i) hi ho).symm.trans h, fun g w' hb hout hd => .inr ⟨hgd g w' hout hd, ?_⟩⟩
  rw [ho]
  unfold updO upd
  simp
/-- An operation of whose value something is known, by itself. -/
theorem OpG.one {Rs : List RelP} {i d : Nat} {o : Oper} {p : Value → World → Prop} (hi : l[i]? = some o) (ho : o.dst = some d) (hst : ∀ v w1 w2, p v w1 → Below w1.heap.size w1 w2 → p v w2)
    (hgd : ∀ g w', (∀ d, ((l.take n).filterMap (·.dst)).contains d = false → g d = a.tmps.getD d undef) → Deps n (atR Rs) g w' o → GuardIs l o g)
    (h : ∀ g w', Below w.heap.size w w' → (∀ d, ((l.take n).filterMap (·.dst)).contains d = false → g d = a.tmps.getD d undef) → Deps n (atR Rs) g w' o → OpRel P o (evL g) w' fun v w'' => p v w'' ∧ Below w'.heap.size w' w'') :
    OpG P l n Rs a w i o (fun g w => p (g d) w) := by
  refine ⟨fun g w1 w2 h hb => hst _ _ _ h hb, fun g g' w1 he h => ?_, fun g w' hb hout hd => .inl ⟨hgd g w' hout hd, ?_⟩⟩
  · show p (g' d) w1
    rw [← he i o d (Anc.self i) hi ho]
    exact h
  · have := h g w' hb hout hd
    rw [ho]
    have e : ∀ v, updO g (some d) v d = v := fun v => by unfold updO upd; simp
    simpa only [e] using this
end
end Wh
namespace Wh
open Go Go.RowKit Go.Shelf Go.Proofs

def ActPost (r : State × Int) (w : World) (e : Ending) (w' : World) : Prop := ∃ V, e = .returned (.tuple #[V.val, .int .i64 r.2]) ∧ OwnSt w' w.heap.size V r.1 ∧ Below w.heap.size w w'
theorem actErr {r : State × Int} {c : Int} {w w' : World} (h : r = (dState, c)) (hb : Below w.heap.size w w') : ActPost r w (.returned (.tuple #[nilSV.val, .int .i64 c])) w' :=
  ⟨nilSV, by rw [h], by rw [h]; exact OwnSt.zero _ _, hb⟩
theorem actOk {r : State × Int} {s : State} {V : SV} {w w' : World} (h : r = (s, 0)) (ho : OwnSt w' w.heap.size V s) (hb : Below w.heap.size w w') : ActPost r w (.returned (.tuple #[V.val, .int .i64 0])) w' :=
  ⟨V, by rw [h], by rw [h]; exact ho, hb⟩

end Wh
namespace Wh

/-- t is what comes of holding d more for a line. -/
structure Held (p : Plan) (s t : State) (o k : Nat) (d : Int) : Prop where
  right : Right p t
  on : t.on = s.on
  moves : t.moves = s.moves
  inn : t.inn = s.inn
  out : t.out = s.out
  fixed : t.fixed = s.fixed
  orders : t.orders.length = s.orders.length
  kind : ∀ o', (t.order o').kind = (s.order o').kind
  lines : ∀ o', (t.order o').lines.length = (s.order o').lines.length
  line : ∀ o' k', (t.line o' k').good = (s.line o' k').good ∧ (t.line o' k').want = (s.line o' k').want ∧ (t.line o' k').got = (s.line o' k').got
  back : ∀ o' k', (t.line o' k').back = (s.line o' k').back - if o' = o ∧ k' = k then d else 0
  keptAt : ∀ o' k' b' : Int, ¬ (o' = (o : Int) ∧ k' = (k : Int)) → Wh.keptAt t.holds o' k' b' = Wh.keptAt s.holds o' k' b'
  kept : ∀ o' k' : Int, Wh.kept t.holds o' k' = Wh.kept s.holds o' k' + if o' = (o : Int) ∧ k' = (k : Int) then d else 0
  other : ∀ b g : Int, g ≠ (s.line o k).good → Wh.bound t b g = Wh.bound s b g
  more : ∀ b g : Int, Wh.bound s b g ≤ Wh.bound t b g
  least : ∀ o' k' b' : Int, Wh.keptAt s.holds o' k' b' ≤ Wh.keptAt t.holds o' k' b'

namespace Held
variable {p : Plan} {s t u : State} {o k : Nat} {d d' : Int}
theorem refl (h : Right p s) : Held p s s o k 0 := by
  refine ⟨h, rfl, rfl, rfl, rfl, rfl, rfl, fun _ => rfl, fun _ => rfl, fun _ _ => ⟨rfl, rfl, rfl⟩, fun _ _ => by split <;> omega, fun _ _ _ _ => rfl, fun _ _ => by split <;> omega, fun _ _ _ => rfl, fun _ _ => Int.le_refl _, fun _ _ _ => Int.le_refl _⟩
theorem trans (h : Held p s t o k d) (h' : Held p t u o k d') : Held p s u o k (d + d') := by
  refine ⟨h'.right, h'.on.trans h.on, h'.moves.trans h.moves, h'.inn.trans h.inn, h'.out.trans h.out, h'.fixed.trans h.fixed, h'.orders.trans h.orders, fun o' => (h'.kind o').trans (h.kind o'), fun o' => (h'.lines o').trans (h.lines o'), fun o' k' => ?_, fun o' k' => ?_, fun o' k' b' hn => (h'.keptAt o' k' b' hn).trans (h.keptAt o' k' b' hn), fun o' k' => ?_, fun b g hg => ?_, fun b g => Int.le_trans (h.more b g) (h'.more b g), fun _ _ _ => Int.le_trans (h.least _ _ _) (h'.least _ _ _)⟩
  · obtain ⟨a1, a2, a3⟩ := h.line o' k'
    obtain ⟨b1, b2, b3⟩ := h'.line o' k'
    exact ⟨b1.trans a1, b2.trans a2, b3.trans a3⟩
  · rw [h'.back, h.back]
    split <;> omega
  · rw [h'.kept, h.kept]
    split <;> omega
  · rw [h'.other b g (by rw [(h.line o k).1]; exact hg), h.other b g hg]
theorem one {b : Nat} {m : Int} (h : Right p s) (f : Fits p s o k b m) : Held p s (hold1 s o k b m) o k m := by
  have hm := f.m1
  refine ⟨hold1_right h f, rfl, rfl, rfl, rfl, rfl, hold1_orders, fun o' => hold1_kind f o', fun o' => hold1_lines f o', fun o' k' => hold1_fixedLine f o' k', fun o' k' => ?_, fun o' k' b' hn => ?_, fun o' k' => ?_, fun b' g hg => ?_, fun b' g => ?_, fun o' k' b' => ?_⟩
  · rw [hold1_line f]
    split
    · rename_i hq
      obtain ⟨rfl, rfl⟩ := hq
      rfl
    · omega
  · rw [hold1_keptAt h f, if_neg (by omega), Int.add_zero]
  · rw [hold1_kept h f]
    congr 1
    split <;> split <;> omega
  · rw [hold1_bound h f, if_neg (fun hq => hg hq.2.symm), Int.add_zero]
  · rw [hold1_bound h f]
    split <;> omega
  · rw [hold1_keptAt h f]
    split <;> omega
/-- All was got just if it was before. -/
theorem allGot (h : Held p s t o k d) {o' : Nat} : Wh.allGot (t.order o') = Wh.allGot (s.order o') := by
  rw [Bool.eq_iff_iff, allGot_iff, allGot_iff, h.lines]
  constructor
  · intro hh k' hk'
    have := hh k' hk'
    have e := h.line o' k'
    unfold State.line at e
    rw [e.2.1, e.2.2] at this
    exact this
  · intro hh k' hk'
    have := hh k' hk'
    have e := h.line o' k'
    unfold State.line at e
    rw [e.2.1, e.2.2]
    exact this
end Held

section
variable {p : Plan} {o k : Nat} {but : Int}
/-- What a line needs so that something may be held for it. -/
structure May (s : State) (o k : Nat) (n : Int) : Prop where
  ho : o < s.orders.length
  hk : k < (s.order o).lines.length
  kind : (s.order o).kind = 1
  n0 : 0 ≤ n
  back : n ≤ (s.line o k).back
theorem May.held {s t : State} {n d : Int} (h : May s o k n) (hh : Held p s t o k d) (hd : d ≤ n) : May t o k (n - d) := by
  refine ⟨by rw [hh.orders]; exact h.ho, by rw [hh.lines]; exact h.hk, by rw [hh.kind]; exact h.kind, by omega, ?_⟩
  rw [hh.back, if_pos ⟨rfl, rfl⟩]
  have := h.back
  omega
theorem May.good {s : State} {n : Int} (h : May s o k n) (hs : Right p s) : ((s.line o k).good.toNat : Int) = (s.line o k).good ∧ (s.line o k).good.toNat < p.sizes.length := by
  have := (hs.sane.line h.ho h.hk).1
  omega
theorem May.avail {s : State} {n : Int} (h : May s o k n) (hs : Right p s) {b : Nat} (hb : b < p.bins.length) : 0 ≤ avail s b (s.line o k).good := by
  obtain ⟨e, hg⟩ := h.good hs
  have := (hs.avail_range hb hg).1
  rwa [e] at this

end

end Wh
