/- Texts of the claim, joined: StateI. -/
import Derived.Test.YtnjgkhcnialplaaP30
import Derived.Test.YtnjgkhcnialplaaP15
namespace Wh
open Go Go.RowKit Go.Shelf Go.Proofs
attribute [local go_sem] run_indexAt_letter

def freeTo (p : Plan) (s : State) (b : Int) (k : Nat) : Int := (p.bin b.toNat).room - sumTo (fun g => (cell s.on b.toNat g + coming s b g) * intAt p.sizes g) k
theorem freeTo_all (p : Plan) (s : State) (b : Int) : freeTo p s b p.sizes.length = free p s b := rfl
theorem freeTo_succ (p : Plan) (s : State) (b : Int) (k : Nat) : freeTo p s b (k + 1) = freeTo p s b k - (cell s.on b.toNat k + coming s b k) * intAt p.sizes k := by
  unfold freeTo
  simp only [sumTo]
  omega
theorem mul_range {a b : Int} (ha : 0 ≤ a ∧ a ≤ 1800) (hb : 1 ≤ b ∧ b ≤ 9) : 0 ≤ a * b ∧ a * b ≤ 16200 := by
  refine ⟨Int.mul_nonneg ha.1 (by omega), ?_⟩
  calc a * b ≤ a * 9 := Int.mul_le_mul_of_nonneg_left hb.2 ha.1
    _ ≤ 16200 := by omega
theorem part_range {p : Plan} {s : State} (hs : Sane p s) {b : Int} (hb : 0 ≤ b ∧ b < p.bins.length) {k : Nat} (hk : k < p.sizes.length) :
    (0 ≤ cell s.on b.toNat k + coming s b k ∧ cell s.on b.toNat k + coming s b k ≤ 1800) ∧ (0 ≤ (cell s.on b.toNat k + coming s b k) * intAt p.sizes k ∧ (cell s.on b.toNat k + coming s b k) * intAt p.sizes k ≤ 16200) := by
  have h1 := hs.cell (b := b.toNat) (g := k) (by omega) hk
  have h2 := coming_range hs b k
  have h3 : 0 ≤ cell s.on b.toNat k + coming s b k ∧ cell s.on b.toNat k + coming s b k ≤ 1800 := by omega
  exact ⟨h3, mul_range h3 (right_size hs.plan hk)⟩
theorem freeTo_range {p : Plan} {s : State} (hs : Sane p s) {b : Int} (hb : 0 ≤ b ∧ b < p.bins.length) {k : Nat} (hk : k ≤ p.sizes.length) : -48600 ≤ freeTo p s b k ∧ freeTo p s b k ≤ 1000 := by
  have h1 := right_bin hs.plan (b := b.toNat) (by omega)
  have h2 := sumTo_bounds (f := fun g : Nat => (cell s.on b.toNat g + coming s b g) * intAt p.sizes g) (n := k) (m := 16200) fun g hg => (part_range hs hb (by omega)).2
  have hc := hs.counts
  unfold freeTo Plan.bin
  omega

theorem rUsedOf' (w : World) (v vo : Value) (p : Plan) (on : List (List Int)) (b : Int) (hp : PlanV w w.heap.size v p) (ho : SlSl cInt w w.heap.size vo on) (hz : checkShelf p on = 0) (hb : 0 ≤ b ∧ b < p.bins.length) :
    Calls Try.prog 66 #[v, vo, .int .i64 b] w fun e w' => e = .returned (.int .i64 (usedOf p on b.toNat)) ∧ Below w.heap.size w w' := by
  have := rUsedOf w v vo p on b.toNat hp ho hz (by omega)
  rwa [show ((b.toNat : Nat) : Int) = b by omega] at this
theorem rSumOf' (w : World) (vo : Value) (p : Plan) (on : List (List Int)) (g : Int) (ho : SlSl cInt w w.heap.size vo on) (hz : checkShelf p on = 0) (hg : 0 ≤ g ∧ g < p.sizes.length) :
    Calls Try.prog 48 #[vo, .int .i64 g] w fun e w' => e = .returned (.int .i64 (sumOf on g.toNat)) ∧ w = w' := by
  have := rSumOf w vo p on g.toNat ho hz (by omega)
  rwa [show ((g.toNat : Nat) : Int) = g by omega] at this
set_option maxHeartbeats 2000000 in
theorem sLeft (w : World) (v : Value) (p : Plan) (s : State) (b g : Int) (hv : StateV w w.heap.size v s) (hs : Sane p s) (hb : 0 ≤ b ∧ b < p.bins.length) (hg : 0 ≤ g ∧ g < p.sizes.length) :
    Calls Try.prog 61 #[v, .int .i64 b, .int .i64 g] w fun e w' => e = .returned (.int .i64 (avail s b g)) ∧ Below w.heap.size w w' := by
  have hb1 : 0 ≤ b := hb.1
  have hb2 : b < (s.on.length : Int) := by rw [hs.onLen]; exact hb.2
  have hg1 : 0 ≤ g := hg.1
  have hbl : b.toNat < s.on.length := by omega
  have hgl : g.toNat < (rowAt s.on b.toNat).length := by rw [hs.rowLen (by omega)]; omega
  have hg2 : g < ((rowAt s.on b.toNat).length : Int) := by omega
  have hcr := hs.cell (b := b.toNat) (g := g.toNat) (by omega) (by omega)
  have hbr := bound_range hs b g
  have hsH := Lib.hid hs
  clear hs hb hg
  obtain ⟨A0, c0, A1, c1, A2, c2, A3, c3, A4, c4, A5, c5, A6, c6, rfl, hV, hN, hO, hH, hM, hI, hU, hX, hl0, hl1, hl2, hl3, hl4, hl5, hl6⟩ := openOne hv
  go_enter Try.func61, Try.ntmps61
  go_wp2_with fail
  obtain ⟨W0, hW0, hb0, hsz0, hsz1, hsE, hK⟩ := boxesOne w s A0 c0 A1 c1 A2 c2 A3 c3 A4 c4 A5 c5 A6 c6
  rw [hW0]
  clear hW0
  obtain ⟨Ar, cr, or0, lr0, rr0, hrow⟩ := (hN.out W0 hb0).row hbl
  obtain ⟨or1, lr1, rr1⟩ := hrow.at_.int hgl
  have hcl : intAt (rowAt s.on b.toNat) g.toNat = cell s.on b.toNat g.toNat := rfl
  rw [hcl] at rr1
  clear hcl
  obtain ⟨_, x0, x1, x2, x3, x4, x5, x6, _⟩ := hK.out W0 (Below.refl _ _)
  have q1 := fun o d os => cells_wld (w := W0) (b := w.heap.size) hsz0 o d os
  have q2 := fun o d os => cells_wld (w := W0) (b := ablk A0) lr0 o d os
  have q3 := fun o d os => cells_wld (w := W0) (b := ablk Ar) lr1 o d os
  have hV2 := Lib.hid (fun d os => hV.out _ (hb0.trans ((below_wld W0 d os).mono hb0.size)))
  have hw1 : IntKind.i64.wrap (cell s.on b.toNat g.toNat - bound s b g) = cell s.on b.toNat g.toNat - bound s b g := IntWalk.i64_in _ (by omega)
  go_wp2_with fail
  refine wp_region_wld (by kernel_rfl) (by kernel_rfl) ?_
  repeat (go_big_quiet_step ((go_at_call 98; refine calls_wld (sBound _ _ p s _ _ (hV2.out _ _) hsH.out))))
  refine wpQuiet_nil ?_
  intro W2 hw'
  have hb2 := below_of_cls hw'
  clear hw'
  go_wp2_with fail
  go_ret
  exact ⟨ret_int rfl, hb0.trans (hb2.mono hb0.size)⟩
set_option maxHeartbeats 2000000 in
theorem rAvailOf (w : World) (v : Value) (p : Plan) (s : State) (b g : Int) (hv : StateV w w.heap.size v s) (hs : Sane p s) (hb : 0 ≤ b ∧ b < p.bins.length) (hg : 0 ≤ g ∧ g < p.sizes.length) :
    Calls Try.prog 29 #[v, .int .i64 b, .int .i64 g] w fun e w' => e = .returned (.int .i64 (avail s b g)) ∧ Below w.heap.size w w' := by
  have hb1 : 0 ≤ b := hb.1
  have hb2 : b < (s.on.length : Int) := by rw [hs.onLen]; exact hb.2
  have hg1 : 0 ≤ g := hg.1
  have hbl : b.toNat < s.on.length := by omega
  have hgl : g.toNat < (rowAt s.on b.toNat).length := by rw [hs.rowLen (by omega)]; omega
  have hg2 : g < ((rowAt s.on b.toNat).length : Int) := by omega
  have hcr := hs.cell (b := b.toNat) (g := g.toNat) (by omega) (by omega)
  have hbr := bound_range hs b g
  have hsH := Lib.hid hs
  clear hs hb hg
  obtain ⟨A0, c0, A1, c1, A2, c2, A3, c3, A4, c4, A5, c5, A6, c6, rfl, hV, hN, hO, hH, hM, hI, hU, hX, hl0, hl1, hl2, hl3, hl4, hl5, hl6⟩ := openOne hv
  go_enter Try.func29, Try.ntmps29
  go_wp2_with fail
  obtain ⟨W0, hW0, hb0, hsz0, hsz1, hsE, hK⟩ := boxesOne w s A0 c0 A1 c1 A2 c2 A3 c3 A4 c4 A5 c5 A6 c6
  rw [hW0]
  clear hW0
  obtain ⟨Ar, cr, or0, lr0, rr0, hrow⟩ := (hN.out W0 hb0).row hbl
  obtain ⟨or1, lr1, rr1⟩ := hrow.at_.int hgl
  have hcl : intAt (rowAt s.on b.toNat) g.toNat = cell s.on b.toNat g.toNat := rfl
  rw [hcl] at rr1
  clear hcl
  obtain ⟨_, x0, x1, x2, x3, x4, x5, x6, _⟩ := hK.out W0 (Below.refl _ _)
  have q1 := fun o d os => cells_wld (w := W0) (b := w.heap.size) hsz0 o d os
  have q2 := fun o d os => cells_wld (w := W0) (b := ablk A0) lr0 o d os
  have q3 := fun o d os => cells_wld (w := W0) (b := ablk Ar) lr1 o d os
  have hV2 := Lib.hid (fun d os => hV.out _ (hb0.trans ((below_wld W0 d os).mono hb0.size)))
  have hw1 : IntKind.i64.wrap (cell s.on b.toNat g.toNat - bound s b g) = cell s.on b.toNat g.toNat - bound s b g := IntWalk.i64_in _ (by omega)
  go_wp2_with fail
  refine wp_region_wld (by kernel_rfl) (by kernel_rfl) ?_
  repeat (go_big_quiet_step ((go_at_call 65; refine calls_wld (rBound _ _ p s _ _ (hV2.out _ _) hsH.out))))
  refine wpQuiet_nil ?_
  intro W2 hw'
  have hb2 := below_of_cls hw'
  clear hw'
  go_wp2_with fail
  go_ret
  exact ⟨ret_int rfl, hb0.trans (hb2.mono hb0.size)⟩

set_option maxHeartbeats 4000000 in
set_option maxRecDepth 100000 in
theorem sRoom (w : World) (v vs : Value) (p : Plan) (s : State) (b : Int) (hp : PlanV w w.heap.size v p) (hv : StateV w w.heap.size vs s) (hs : Sane p s) (hb : 0 ≤ b ∧ b < p.bins.length) :
    Calls Try.prog 62 #[v, vs, .int .i64 b] w fun e w' => e = .returned (.int .i64 (free p s b)) ∧ Below w.heap.size w w' := by
  have hbb := Lib.hid hb
  have hb1 : 0 ≤ b := hb.1
  have hb2 : b < (s.on.length : Int) := by rw [hs.onLen]; exact hb.2
  have hb3 : b < (p.bins.length : Int) := hb.2
  have hbl : b.toNat < s.on.length := by omega
  have hbl' : b.toNat < p.bins.length := by omega
  have hcnt := hs.counts
  have hsH := Lib.hid hs
  clear hs hb
  obtain ⟨Ab, cb, As, cs, rfl, hP', hBn, hSz, hlb, hls⟩ := openPl hp
  obtain ⟨A0, c0, A1, c1, A2, c2, A3, c3, A4, c4, A5, c5, A6, c6, rfl, hV, hN, hO, hH, hM, hI, hU, hX, hl0, hl1, hl2, hl3, hl4, hl5, hl6⟩ := openOne hv
  obtain ⟨ok0, lk0, k0, k1, k2, k3⟩ := (hBn.out w (Below.refl _ _)).at_.bin hbl'
  go_enter Try.func62, Try.ntmps62
  go_wp2_with fail
  obtain ⟨W0, hW0, hb0, hsz0, hsz1, hsE, hK⟩ := boxesTwo w p s Ab cb As cs A0 c0 A1 c1 A2 c2 A3 c3 A4 c4 A5 c5 A6 c6
  rw [hW0]
  clear hW0
  obtain ⟨⟨y0, y1⟩, x0, x1, x2, x3, x4, x5, x6, hbz0, hbz1⟩ := hK.out W0 (Below.refl W0.heap.size W0)
  clear k0 k1 k2 k3
  go_loopw [7, 19, 8, 9] (fun n i _ _ wr => ∃ k : Nat, k ≤ p.sizes.length ∧ i = .int .i64 k ∧ n = .int .i64 (freeTo p s b k) ∧ Below W0.heap.size W0 wr) (fun _ i _ _ _ => p.sizes.length - (intOf i).toNat)
  case atStart => exact ⟨0, Nat.zero_le _, rfl, by unfold freeTo Plan.bin; simp [sumTo], Below.refl _ _⟩
  case round =>
    clear y0 y1 x0 x1 x2 x3 x4 x5 x6 hbz0 hbz1
    obtain ⟨k, hk, rfl, rfl, hbw⟩ := hrel
    have hB := hb0.trans (hbw.mono hb0.size)
    obtain ⟨t1, t2⟩ := freeTo_range hsH.out hbb.out hk
    obtain ⟨⟨y0, y1⟩, x0, x1, x2, x3, x4, x5, x6, hbz0, hbz1⟩ := hK.out wr (hbw)
    by_cases hlt : k < p.sizes.length
    · have hgl : k < (rowAt s.on b.toNat).length := by rw [hsH.out.rowLen hbl']; exact hlt
      obtain ⟨Ar, cr, or0, lr0, rr0, hrow⟩ := (hN.out wr hB).row hbl
      obtain ⟨or1, lr1, rr1⟩ := hrow.at_.int hgl
      obtain ⟨os0, ls0, rs0⟩ := (hSz.out wr hB).at_.int hlt
      have hcl : intAt (rowAt s.on b.toNat) k = cell s.on b.toNat k := rfl
      rw [hcl] at rr1
      clear hcl
      obtain ⟨⟨m1, m2⟩, m3, m4⟩ := part_range hsH.out hbb.out hlt
      have q1 := fun o d os => cells_wld (w := wr) (b := w.heap.size + 1) hbz0 o d os
      have q2 := fun o d os => cells_wld (w := wr) (b := ablk A0) lr0 o d os
      have q3 := fun o d os => cells_wld (w := wr) (b := ablk Ar) lr1 o d os
      have hV2 := Lib.hid (fun d os => hV.out _ (hB.trans ((below_wld wr d os).mono hB.size)))
      have hsu := Lib.hid (freeTo_succ p s b k)
      have hw1 : IntKind.i64.wrap (cell s.on b.toNat k + coming s b k) = cell s.on b.toNat k + coming s b k := IntWalk.i64_in _ (by omega)
      have hw2 : IntKind.i64.wrap ((cell s.on b.toNat k + coming s b k) * intAt p.sizes k) = (cell s.on b.toNat k + coming s b k) * intAt p.sizes k := IntWalk.i64_in _ (by omega)
      have hw3 : IntKind.i64.wrap (freeTo p s b k - (cell s.on b.toNat k + coming s b k) * intAt p.sizes k) = freeTo p s b k - (cell s.on b.toNat k + coming s b k) * intAt p.sizes k := IntWalk.i64_in _ (by omega)
      go_wp2_with fail
      refine wp_region_wld (by kernel_rfl) (by kernel_rfl) ?_
      repeat (go_big_quiet_step ((go_at_call 69; refine calls_wld (sComing _ _ p s _ _ (hV2.out _ _) hsH.out))))
      refine wpQuiet_nil ?_
      intro W2 hw'
      have hb2 := below_of_cls hw'
      clear hw'
      clear q1 q2 q3 hw1 hw2 hw3
      go_wp2_with fail
      go_roundw
      case rel => exact ⟨k + 1, by omega, by go_num, by rw [hsu.out], hbw.trans (hb2.mono hbw.size)⟩
      case measure => simp [intOf]; omega
    · obtain rfl : k = p.sizes.length := by omega
      go_wp2_with fail
      go_ret
      exact ⟨ret_int (freeTo_all _ _ _), hB⟩

def freeTo2 (p : Plan) (s : State) (b : Int) (k : Nat) : Int := (p.bin b.toNat).room - usedOf p s.on b.toNat - sumTo (fun g => coming s b g * intAt p.sizes g) k
theorem freeTo2_succ (p : Plan) (s : State) (b : Int) (k : Nat) : freeTo2 p s b (k + 1) = freeTo2 p s b k - coming s b k * intAt p.sizes k := by
  unfold freeTo2
  simp only [sumTo]
  omega
theorem sumTo_add (f g : Nat → Int) (n : Nat) : sumTo (fun k => f k + g k) n = sumTo f n + sumTo g n := by
  induction n with
  | zero => rfl
  | succ n ih => simp only [sumTo]; rw [ih]; omega
theorem freeTo2_all (p : Plan) (s : State) (b : Int) : freeTo2 p s b p.sizes.length = free p s b := by
  unfold freeTo2 free usedOf
  have : sumTo (fun g => (cell s.on b.toNat g + coming s b g) * intAt p.sizes g) p.sizes.length = sumTo (fun g => cell s.on b.toNat g * intAt p.sizes g) p.sizes.length + sumTo (fun g => coming s b g * intAt p.sizes g) p.sizes.length := by
    rw [← sumTo_add]
    exact sumTo_congr fun k _ => Int.add_mul _ _ _
  rw [this]
  omega
theorem come_range {p : Plan} {s : State} (hs : Sane p s) (b : Int) {k : Nat} (hk : k < p.sizes.length) : 0 ≤ coming s b k * intAt p.sizes k ∧ coming s b k * intAt p.sizes k ≤ 16200 := by
  have h2 := coming_range hs b k
  exact mul_range (by omega) (right_size hs.plan hk)
theorem used_most {p : Plan} {s : State} (hs : Sane p s) {b : Nat} (hb : b < p.bins.length) : 0 ≤ usedOf p s.on b ∧ usedOf p s.on b ≤ 5400 := by
  have hc := hs.counts
  have := used_range hs.shelf (b := b) (by rw [hs.onLen]; exact hb) (Nat.le_refl p.sizes.length)
  unfold usedOf
  omega
theorem freeTo2_range {p : Plan} {s : State} (hs : Sane p s) {b : Int} (hb : 0 ≤ b ∧ b < p.bins.length) {k : Nat} (hk : k ≤ p.sizes.length) : -60000 ≤ freeTo2 p s b k ∧ freeTo2 p s b k ≤ 1000 := by
  have h1 := right_bin hs.plan (b := b.toNat) (by omega)
  have h2 := sumTo_bounds (f := fun g : Nat => coming s b g * intAt p.sizes g) (n := k) (m := 16200) fun g hg => come_range hs b (by omega)
  have h3 := used_most hs (b := b.toNat) (by omega)
  have hc := hs.counts
  unfold freeTo2 Plan.bin
  omega

set_option maxHeartbeats 4000000 in
set_option maxRecDepth 100000 in
theorem rFreeOf (w : World) (v vs : Value) (p : Plan) (s : State) (b : Int) (hp : PlanV w w.heap.size v p) (hv : StateV w w.heap.size vs s) (hs : Sane p s) (hb : 0 ≤ b ∧ b < p.bins.length) :
    Calls Try.prog 30 #[v, vs, .int .i64 b] w fun e w' => e = .returned (.int .i64 (free p s b)) ∧ Below w.heap.size w w' := by
  have hbb := Lib.hid hb
  have hb1 : 0 ≤ b := hb.1
  have hb3 : b < (p.bins.length : Int) := hb.2
  have hbl' : b.toNat < p.bins.length := by omega
  have hcnt := hs.counts
  obtain ⟨⟨rm1, rm2⟩, _⟩ := right_bin hs.plan hbl'
  obtain ⟨us1, us2⟩ := used_most hs hbl'
  have hsH := Lib.hid hs
  clear hs hb
  obtain ⟨Ab, cb, As, cs, rfl, hP', hBn, hSz, hlb, hls⟩ := openPl hp
  obtain ⟨A0, c0, A1, c1, A2, c2, A3, c3, A4, c4, A5, c5, A6, c6, rfl, hV, hN, hO, hH, hM, hI, hU, hX, hl0, hl1, hl2, hl3, hl4, hl5, hl6⟩ := openOne hv
  go_enter Try.func30, Try.ntmps30
  go_wp2_with fail
  obtain ⟨W0, hW0, hb0, hsz0, hsz1, hsE, hK⟩ := boxesTwo w p s Ab cb As cs A0 c0 A1 c1 A2 c2 A3 c3 A4 c4 A5 c5 A6 c6
  rw [hW0]
  clear hW0
  obtain ⟨⟨y0, y1⟩, x0, x1, x2, x3, x4, x5, x6, hbz0, hbz1⟩ := hK.out W0 (Below.refl W0.heap.size W0)
  obtain ⟨ok0, lk0, k0, k1, k2, k3⟩ := (hBn.out W0 hb0).at_.bin hbl'
  clear k0 k2 k3
  have q1 := fun o d os => cells_wld (w := W0) (b := w.heap.size) hbz1 o d os
  have q2 := fun o d os => cells_wld (w := W0) (b := w.heap.size + 1) hbz0 o d os
  have q3 := fun o d os => cells_wld (w := W0) (b := ablk Ab) lk0 o d os
  have hP2 := Lib.hid (fun d os => hP'.out _ (hb0.trans ((below_wld W0 d os).mono hb0.size)))
  have hN2 := Lib.hid (fun d os => hN.out _ (hb0.trans ((below_wld W0 d os).mono hb0.size)))
  have hw1 : IntKind.i64.wrap ((binAt p.bins b.toNat).room - usedOf p s.on b.toNat) = (binAt p.bins b.toNat).room - usedOf p s.on b.toNat := IntWalk.i64_in _ (by omega)
  go_wp2_with fail
  refine wp_region_wld (by kernel_rfl) (by kernel_rfl) ?_
  repeat (go_big_quiet_step ((go_at_call 66; refine calls_wld (rUsedOf' _ _ _ p s.on b (hP2.out _ _) (hN2.out _ _) hsH.out.shelf hbb.out))))
  refine wpQuiet_nil ?_
  intro W9 hw'
  have hb9 := below_of_cls hw'
  clear hw'
  clear q1 q2 q3 hw1
  clear y0 y1 x0 x1 x2 x3 x4 x5 x6 hbz0 hbz1
  obtain ⟨⟨y0, y1⟩, x0, x1, x2, x3, x4, x5, x6, hbz0, hbz1⟩ := hK.out W9 (hb9)
  go_wp2_with fail
  go_loopw [7, 8] (fun n i wr => ∃ k : Nat, k ≤ p.sizes.length ∧ i = .int .i64 k ∧ n = .int .i64 (freeTo2 p s b k) ∧ Below W0.heap.size W0 wr) (fun _ i _ => p.sizes.length - (intOf i).toNat)
  case atStart => exact ⟨0, Nat.zero_le _, rfl, by unfold freeTo2 Plan.bin; simp [sumTo], hb9⟩
  case round =>
    clear y0 y1 x0 x1 x2 x3 x4 x5 x6 hbz0 hbz1
    clear k1
    obtain ⟨k, hk, rfl, rfl, hbw⟩ := hrel
    have hB := hb0.trans (hbw.mono hb0.size)
    obtain ⟨t1, t2⟩ := freeTo2_range hsH.out hbb.out hk
    obtain ⟨⟨y0, y1⟩, x0, x1, x2, x3, x4, x5, x6, hbz0, hbz1⟩ := hK.out wr (hbw)
    by_cases hlt : k < p.sizes.length
    · obtain ⟨os0, ls0, rs0⟩ := (hSz.out wr hB).at_.int hlt
      obtain ⟨m3, m4⟩ := come_range hsH.out b hlt
      have q0 := fun o d os => cells_wld (w := wr) (b := w.heap.size) hbz1 o d os
      have q1 := fun o d os => cells_wld (w := wr) (b := w.heap.size + 1) hbz0 o d os
      have q2 := fun o d os => cells_wld (w := wr) (b := ablk As) ls0 o d os
      have hV2 := Lib.hid (fun d os => hV.out _ (hB.trans ((below_wld wr d os).mono hB.size)))
      have hsu := Lib.hid (freeTo2_succ p s b k)
      have hw2 : IntKind.i64.wrap (coming s b k * intAt p.sizes k) = coming s b k * intAt p.sizes k := IntWalk.i64_in _ (by omega)
      have hw3 : IntKind.i64.wrap (freeTo2 p s b k - coming s b k * intAt p.sizes k) = freeTo2 p s b k - coming s b k * intAt p.sizes k := IntWalk.i64_in _ (by omega)
      go_wp2_with fail
      refine wp_region_wld (by kernel_rfl) (by kernel_rfl) ?_
      repeat (go_big_quiet_step ((go_at_call 67; refine calls_wld (rComing _ _ p s _ _ (hV2.out _ _) hsH.out))))
      refine wpQuiet_nil ?_
      intro W2 hw'
      have hb2 := below_of_cls hw'
      clear hw'
      clear q0 q1 q2 hw2 hw3
      go_wp2_with fail
      go_roundw
      case rel => exact ⟨k + 1, by omega, by go_num, by rw [hsu.out], hbw.trans (hb2.mono hbw.size)⟩
      case measure => simp [intOf]; omega
    · obtain rfl : k = p.sizes.length := by omega
      go_wp2_with fail
      go_ret
      exact ⟨ret_int (freeTo2_all _ _ _), hB⟩

theorem availE_bad {p : Plan} {s : State} {b g : Int} (h : checkState p s ≠ 0) : availE p s b g = (0, checkState p s) := by unfold availE; rw [if_pos h]
theorem availE_no {p : Plan} {s : State} {b g : Int} (h : checkState p s = 0) (h2 : (isBin p b && isGood p g) = false) : availE p s b g = (0, 3) := by
  unfold availE
  rw [if_neg (fun hn => hn h), h2]; rfl
theorem availE_yes {p : Plan} {s : State} {b g : Int} (h : checkState p s = 0) (h2 : (isBin p b && isGood p g) = true) : availE p s b g = (avail s b g, 0) := by
  unfold availE
  rw [if_neg (fun hn => hn h), h2]; rfl
theorem freeE_bad {p : Plan} {s : State} {b : Int} (h : checkState p s ≠ 0) : freeE p s b = (0, checkState p s) := by unfold freeE; rw [if_pos h]
theorem freeE_no {p : Plan} {s : State} {b : Int} (h : checkState p s = 0) (h2 : isBin p b = false) : freeE p s b = (0, 3) := by
  unfold freeE
  rw [if_neg (fun hn => hn h), h2]; rfl
theorem freeE_yes {p : Plan} {s : State} {b : Int} (h : checkState p s = 0) (h2 : isBin p b = true) : freeE p s b = (free p s b, 0) := by
  unfold freeE
  rw [if_neg (fun hn => hn h), h2]; rfl
theorem good0 {p : Plan} {s : State} (h : checkState p s = 0) (b : Int) : (isBin p b && isGood p 0) = isBin p b := by
  have hc := (checkState_zero.1 h).1.counts
  rw [show isGood p 0 = true from isGood_iff.2 (by omega), Bool.and_true]

set_option maxHeartbeats 2000000 in
theorem sAvail (w : World) (v vs : Value) (p : Plan) (s : State) (b g : Int) (hp : PlanV w w.heap.size v p) (hv : StateV w w.heap.size vs s) :
    Calls Try.prog 26 #[v, vs, .int .i64 b, .int .i64 g] w fun e w' => e = .returned (.tuple #[.int .i64 (availE p s b g).1, .int .i64 (availE p s b g).2]) ∧ Below w.heap.size w w' := by
  obtain ⟨Ab, cb, As, cs, rfl, hP', hBn, hSz, hlb, hls⟩ := openPl hp
  obtain ⟨A0, c0, A1, c1, A2, c2, A3, c3, A4, c4, A5, c5, A6, c6, rfl, hV, hN, hO, hH, hM, hI, hU, hX, hl0, hl1, hl2, hl3, hl4, hl5, hl6⟩ := openOne hv
  go_enter Try.func26, Try.ntmps26
  go_wp2_with fail
  obtain ⟨W0, hW0, hb0, hsz0, hsz1, hsE, hK⟩ := boxesTwo w p s Ab cb As cs A0 c0 A1 c1 A2 c2 A3 c3 A4 c4 A5 c5 A6 c6
  rw [hW0]
  clear hW0
  obtain ⟨⟨y0, y1⟩, x0, x1, x2, x3, x4, x5, x6, hbz0, hbz1⟩ := hK.out W0 (Below.refl W0.heap.size W0)
  go_wp2_with fail
  clear y0 y1 x0 x1 x2 x3 x4 x5 x6 hbz0 hbz1
  refine (sCheck _ _ _ p s (hP'.out _ hb0) (hV.out _ hb0)).mono ?_
  rintro e W1 ⟨rfl, hb1⟩
  have hB1 := hb0.trans (hb1.mono hb0.size)
  obtain ⟨⟨y0, y1⟩, x0, x1, x2, x3, x4, x5, x6, hbz0, hbz1⟩ := hK.out W1 (hb1)
  by_cases hc : checkState p s = 0
  · have hc' := Lib.hid hc
    rw [hc]
    clear hc
    go_wp2_with fail
    clear y0 y1 x0 x1 x2 x3 x4 x5 x6 hbz0 hbz1
    refine (shThere _ _ p b g (hP'.out _ hB1)).mono ?_
    rintro e W2 ⟨rfl, hb2⟩
    have hb12 := hb1.trans (hb2.mono hb1.size)
    have hB2 := hb0.trans (hb12.mono hb0.size)
    obtain ⟨⟨y0, y1⟩, x0, x1, x2, x3, x4, x5, x6, hbz0, hbz1⟩ := hK.out W2 (hb12)
    cases hth : (isBin p b && isGood p g)
    · have hfin := Lib.hid (availE_no hc'.out hth)
      clear hth
      go_wp2_with fail
      go_ret2
      exact ⟨ret2 (by rw [hfin.out] <;> rfl) (by rw [hfin.out] <;> rfl), hB2⟩
    · have hfin := Lib.hid (availE_yes hc'.out hth)
      rw [Bool.and_eq_true] at hth
      have hbb := Lib.hid (isBin_iff.1 hth.1)
      have hgg := Lib.hid (isGood_iff.1 hth.2)
      clear hth
      go_wp2_with fail
      clear y0 y1 x0 x1 x2 x3 x4 x5 x6 hbz0 hbz1
      refine (sLeft _ _ p s b g (hV.out _ hB2) (checkState_zero.1 hc'.out).1 hbb.out hgg.out).mono ?_
      rintro e W3 ⟨rfl, hb3⟩
      go_wp2_with fail
      go_ret2
      exact ⟨ret2 (by rw [hfin.out] <;> rfl) (by rw [hfin.out] <;> rfl), hB2.trans (hb3.mono hB2.size)⟩
  · have hne : (checkState p s != 0) = true := by simpa using hc
    have hfin := Lib.hid (availE_bad (b := b) (g := g) hc)
    clear hc
    go_wp2_with fail
    go_ret2
    exact ⟨ret2 (by rw [hfin.out] <;> rfl) (by rw [hfin.out] <;> rfl), hB1⟩

set_option maxHeartbeats 2000000 in
theorem sFree (w : World) (v vs : Value) (p : Plan) (s : State) (b : Int) (hp : PlanV w w.heap.size v p) (hv : StateV w w.heap.size vs s) :
    Calls Try.prog 27 #[v, vs, .int .i64 b] w fun e w' => e = .returned (.tuple #[.int .i64 (freeE p s b).1, .int .i64 (freeE p s b).2]) ∧ Below w.heap.size w w' := by
  obtain ⟨Ab, cb, As, cs, rfl, hP', hBn, hSz, hlb, hls⟩ := openPl hp
  obtain ⟨A0, c0, A1, c1, A2, c2, A3, c3, A4, c4, A5, c5, A6, c6, rfl, hV, hN, hO, hH, hM, hI, hU, hX, hl0, hl1, hl2, hl3, hl4, hl5, hl6⟩ := openOne hv
  go_enter Try.func27, Try.ntmps27
  go_wp2_with fail
  obtain ⟨W0, hW0, hb0, hsz0, hsz1, hsE, hK⟩ := boxesTwo w p s Ab cb As cs A0 c0 A1 c1 A2 c2 A3 c3 A4 c4 A5 c5 A6 c6
  rw [hW0]
  clear hW0
  obtain ⟨⟨y0, y1⟩, x0, x1, x2, x3, x4, x5, x6, hbz0, hbz1⟩ := hK.out W0 (Below.refl W0.heap.size W0)
  go_wp2_with fail
  clear y0 y1 x0 x1 x2 x3 x4 x5 x6 hbz0 hbz1
  refine (sCheck _ _ _ p s (hP'.out _ hb0) (hV.out _ hb0)).mono ?_
  rintro e W1 ⟨rfl, hb1⟩
  have hB1 := hb0.trans (hb1.mono hb0.size)
  obtain ⟨⟨y0, y1⟩, x0, x1, x2, x3, x4, x5, x6, hbz0, hbz1⟩ := hK.out W1 (hb1)
  by_cases hc : checkState p s = 0
  · have hc' := Lib.hid hc
    rw [hc]
    clear hc
    go_wp2_with fail
    clear y0 y1 x0 x1 x2 x3 x4 x5 x6 hbz0 hbz1
    refine (shThere _ _ p b 0 (hP'.out _ hB1)).mono ?_
    rintro e W2 ⟨rfl, hb2⟩
    rw [good0 hc'.out]
    have hb12 := hb1.trans (hb2.mono hb1.size)
    have hB2 := hb0.trans (hb12.mono hb0.size)
    obtain ⟨⟨y0, y1⟩, x0, x1, x2, x3, x4, x5, x6, hbz0, hbz1⟩ := hK.out W2 (hb12)
    cases hth : isBin p b
    · have hfin := Lib.hid (freeE_no hc'.out hth)
      clear hth
      go_wp2_with fail
      go_ret2
      exact ⟨ret2 (by rw [hfin.out] <;> rfl) (by rw [hfin.out] <;> rfl), hB2⟩
    · have hfin := Lib.hid (freeE_yes hc'.out hth)
      have hbb := Lib.hid (isBin_iff.1 hth)
      clear hth
      go_wp2_with fail
      clear y0 y1 x0 x1 x2 x3 x4 x5 x6 hbz0 hbz1
      refine (sRoom _ _ _ p s b (hP'.out _ hB2) (hV.out _ hB2) (checkState_zero.1 hc'.out).1 hbb.out).mono ?_
      rintro e W3 ⟨rfl, hb3⟩
      go_wp2_with fail
      go_ret2
      exact ⟨ret2 (by rw [hfin.out] <;> rfl) (by rw [hfin.out] <;> rfl), hB2.trans (hb3.mono hB2.size)⟩
  · have hne : (checkState p s != 0) = true := by simpa using hc
    have hfin := Lib.hid (freeE_bad (b := b) hc)
    clear hc
    go_wp2_with fail
    go_ret2
    exact ⟨ret2 (by rw [hfin.out] <;> rfl) (by rw [hfin.out] <;> rfl), hB1⟩
end Wh
